/- Out of the translation, by a program of this session: for each Go function a Lean function of the same results, and the proof that the call comes to them whenever that function gives a result. -/
import Derived.Test.YtblbieenfghbdaaDoorProg
import Derived.Below
import Derived.Deep.Draws
import Derived.Deep.AppendLies
import Derived.Maps.AppendAt
import Derived.OwnWalk
import Derived.Laws.BytesArg
import Derived.Laws.MakeOwn
import Derived.Laws.OwnMore
import Derived.Deep.OwnRows
import Derived.Tactics
import Derived.Lib.ConvBytes
import Derived.Laws.Slices
import Derived.WalkKit
import Derived.KernelRfl
import Derived.RowKit3
import Derived.Deep.LoopGhost
import Derived.Deep.QuietTactic
import Derived.BigQuiet
import Derived.WideLaws
import Derived.Deep.DeepCutAuto
import Derived.Deep.CutBlock
import Derived.Deep.RegionHeld3
import Derived.Laws.Rows
import Derived.Lib.AppendStr
import Derived.ArgAppend
import Derived.Laws.IdiomCopy
import Derived.OrdersHeld
import Derived.Laws.BitsLemmas
import Derived.RowKit
import Derived.Test.YtblbieenfghbdaaDoorEx0
import Derived.Test.YtblbieenfghbdaaDoorWWords
import Derived.Test.YtblbieenfghbdaaDoorWLast
import Derived.Test.YtblbieenfghbdaaDoorWTab
import Derived.Test.YtblbieenfghbdaaDoorWFour
import Derived.Test.YtblbieenfghbdaaDoorWQPut
import Derived.Test.YtblbieenfghbdaaDoorWApart
import Derived.Test.YtblbieenfghbdaaDoorWArr
import Derived.Test.YtblbieenfghbdaaDoorWZeros
import Derived.Test.YtblbieenfghbdaaDoorWFoot
import Derived.Test.YtblbieenfghbdaaDoorWKept
import Derived.Test.YtblbieenfghbdaaDoorWShare
import Derived.Test.YtblbieenfghbdaaDoorWN
import Derived.Test.YtblbieenfghbdaaDoorWEqStruct
import Derived.Test.YtblbieenfghbdaaDoorWRepsOne
import Derived.Test.YtblbieenfghbdaaDoorWNEv
import Derived.Test.YtblbieenfghbdaaDoorWMore
namespace Go.Proofs.YtblbieenfghbdaaDoor.F
open Go.RowKit Go.Proofs.YtblbieenfghbdaaDoor.D Go.Proofs.YtblbieenfghbdaaDoor.E Go.Proofs.YtblbieenfghbdaaDoorW.PrintWords Go.Proofs.YtblbieenfghbdaaDoorW.PrintLast Go.Proofs.YtblbieenfghbdaaDoorW.PrintMore
attribute [local go_sem] max2_int min2_int max_two min_two max_three min_three max_four min_four
set_option linter.unusedVariables false
set_option linter.unusedSimpArgs false

def errW : Option Int → Value
  | none => .nilIface
  | some c => .iface 0 (.int .i64 c)
theorem errW_none : errW none = .nilIface := rfl
theorem errW_some (c : Int) : errW (some c) = .iface 0 (.int .i64 c) := rfl

theorem info3 : (Tryd.prog.info? 3).map (fun i => (i.zero, i.size, i.bytes)) = some (some (.int .i64 0), 1, 8) := by kernel_rfl
theorem info5 : (Tryd.prog.info? 5).map (fun i => (i.zero, i.size, i.bytes)) = some (some (.int .u8 0), 1, 1) := by kernel_rfl
theorem info87 : (Tryd.prog.info? 87).map (fun i => (i.zero, i.size, i.bytes)) = some (some (.int .u64 0), 1, 8) := by kernel_rfl
end Go.Proofs.YtblbieenfghbdaaDoor.F
