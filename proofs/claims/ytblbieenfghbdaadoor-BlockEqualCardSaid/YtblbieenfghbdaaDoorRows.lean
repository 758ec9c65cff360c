/-
  NARROWER THAN 'FOR EVERY INPUT', by the rows' own cells (each row's printed sentence says how): CodecInts: laid · CodecDict: laid · BlockEncodes: laid · BlockEqual: laid · CodecEncodes: laid · CodecCompact: laid · CodecDecodes: laid · CodecRound: laid · CodecOne: laid · CodecKeys: laid · BlockDetects: laid · BlockRound: laid · BlockIds: laid.
  DERIVED. THE GIVEN ROWS OF THIS SEAT. 13 by the template 'for every input the law returns true; each argument reads behind the call as it read before'; 0 by the template 'total and deterministic' (their statements: YtblbieenfghbdaaDoorTotals.lean).
  GIVEN WITH THE SEED: the statements are not yours to turn. If you find one false, say at which input.
  Laid BY PROGRAM, IN A SANDBOX (cutbox-rows.mjs): the forced cells as the released guide's own fill.sh prints them over the translation 85d9fecd8be21353… (all of the seat's roots in one cut). By AI agents, Wed Nov 11 2026. No macro, syntax, notation, axiom, sorry.
-/
import Derived.Test.YtblbieenfghbdaaDoorChecked
import GoSem.Claim
import GoSem.ClaimJoined
import GoSem.ClaimMapViews
import Derived.JoinedTies
import Derived.KernelRfl
namespace Go.Proofs.YtblbieenfghbdaaDoor
/- THE CELL 'sum', in the pinned program and in every row, IS THE sha256 OF THE DUMP (.gsa) THAT YtblbieenfghbdaaDoorProg.lean LOADS. Nothing in Lean hashes anything: it is a label: what it is worth is what the hold of that sum in a sandbox is worth. -/
noncomputable def Tryd.pinned : Pinned := { name := "ytblbieenfghbdaadoor", sum := "85d9fecd8be21353a35133bb675fe18fd9a8931ef5576c6bce77388a894bed29", checked := Tryd.checked }
namespace Rows
def none {H : Type} : Left H := { results := [], args := [] }

/- WHAT THE LISTED PACKAGE-LEVEL VARIABLES READ AS WHEN THE CALL BEGINS. Each datum BY PROGRAM (the guide's laid-datum.mjs) off the statement by which the dump's own 'gosem.cut.vars' lays the variable. In a bare row this is a premise. The card (YtblbieenfghbdaaDoorCards.lean) ties it to the program's text. -/
def laid_intervalmon_codec_widths {H : Type} : DataW H := .agg [.lit (.int .i64 0), .lit (.int .i64 4), .lit (.int .i64 8), .lit (.int .i64 16), .lit (.int .i64 32), .lit (.int .i64 64)]
def laid_intervalmon_block_ranges {H : Type} : DataW H := .agg [.agg [.lit (.int .i64 0), .lit (.int .i64 0)], .agg [.lit (.int .i64 1), .lit (.int .i64 1073741824)], .agg [.lit (.int .i64 0), .lit (.int .i64 1073741824)], .agg [.lit (.int .i64 1), .lit (.int .i64 4096)], .agg [.lit (.int .i64 0), .lit (.int .i64 1048576)]]

/-- 'intervalmonlaw15.CodecInts': WHATEVER THE INPUT: true; the input reads as it did. -/
def codecIntsSpec : ChangeSpec := { name := "codecInts", fn := fun _ => fun
  | [d1, d2, d3, d4] => { results := [.lit (.bool true)], args := [d1, d2, d3, d4] }
  | _ => none }
def codecIntsRow : OpenClaim := { program := "ytblbieenfghbdaadoor", sum := "85d9fecd8be21353a35133bb675fe18fd9a8931ef5576c6bce77388a894bed29", func := "intervalmon/intervalmonlaw15.CodecInts", spec := "codecInts", unfollowed := true, recurses := true, named := ["intervalmon/codec.widths"], apart := false, laid := [("intervalmon/codec.widths", laid_intervalmon_codec_widths)] }
def CodecIntsSaid : Prop := codecIntsRow.holds Tryd.pinned (OpenSpec.ofChange codecIntsSpec)

/-- ITS FALSE NEIGHBOUR: 'it returns false'. Refute it at one input. -/
def codecIntsWrong : ChangeSpec := { name := "codecInts", fn := fun _ => fun
  | [d1, d2, d3, d4] => { results := [.lit (.bool false)], args := [d1, d2, d3, d4] }
  | _ => none }
def CodecIntsWrongFalsely : Prop := codecIntsRow.holds Tryd.pinned (OpenSpec.ofChange codecIntsWrong)

/-- 'intervalmonlaw15.CodecDict': WHATEVER THE INPUT: true; the input reads as it did. -/
def codecDictSpec : ChangeSpec := { name := "codecDict", fn := fun _ => fun
  | [d1, d2, d3] => { results := [.lit (.bool true)], args := [d1, d2, d3] }
  | _ => none }
def codecDictRow : OpenClaim := { program := "ytblbieenfghbdaadoor", sum := "85d9fecd8be21353a35133bb675fe18fd9a8931ef5576c6bce77388a894bed29", func := "intervalmon/intervalmonlaw15.CodecDict", spec := "codecDict", unfollowed := true, recurses := true, named := ["intervalmon/codec.widths"], apart := false, laid := [("intervalmon/codec.widths", laid_intervalmon_codec_widths)] }
def CodecDictSaid : Prop := codecDictRow.holds Tryd.pinned (OpenSpec.ofChange codecDictSpec)

/-- ITS FALSE NEIGHBOUR: 'it returns false'. Refute it at one input. -/
def codecDictWrong : ChangeSpec := { name := "codecDict", fn := fun _ => fun
  | [d1, d2, d3] => { results := [.lit (.bool false)], args := [d1, d2, d3] }
  | _ => none }
def CodecDictWrongFalsely : Prop := codecDictRow.holds Tryd.pinned (OpenSpec.ofChange codecDictWrong)

/-- 'intervalmonlaw18.BlockEncodes': WHATEVER THE INPUT: true; the input reads as it did. -/
def blockEncodesSpec : ChangeSpec := { name := "blockEncodes", fn := fun _ => fun
  | [d1, d2, d3, d4, d5] => { results := [.lit (.bool true)], args := [d1, d2, d3, d4, d5] }
  | _ => none }
def blockEncodesRow : OpenClaim := { program := "ytblbieenfghbdaadoor", sum := "85d9fecd8be21353a35133bb675fe18fd9a8931ef5576c6bce77388a894bed29", func := "intervalmon/intervalmonlaw18.BlockEncodes", spec := "blockEncodes", unfollowed := true, recurses := true, named := ["intervalmon/block.ranges", "intervalmon/codec.widths"], apart := false, laid := [("intervalmon/codec.widths", laid_intervalmon_codec_widths), ("intervalmon/block.ranges", laid_intervalmon_block_ranges)] }
def BlockEncodesSaid : Prop := blockEncodesRow.holds Tryd.pinned (OpenSpec.ofChange blockEncodesSpec)

/-- ITS FALSE NEIGHBOUR: 'it returns false'. Refute it at one input. -/
def blockEncodesWrong : ChangeSpec := { name := "blockEncodes", fn := fun _ => fun
  | [d1, d2, d3, d4, d5] => { results := [.lit (.bool false)], args := [d1, d2, d3, d4, d5] }
  | _ => none }
def BlockEncodesWrongFalsely : Prop := blockEncodesRow.holds Tryd.pinned (OpenSpec.ofChange blockEncodesWrong)

/-- 'intervalmonlaw18.BlockEqual': WHATEVER THE INPUT: true; the input reads as it did. -/
def blockEqualSpec : ChangeSpec := { name := "blockEqual", fn := fun _ => fun
  | [d1, d2, d3, d4] => { results := [.lit (.bool true)], args := [d1, d2, d3, d4] }
  | _ => none }
def blockEqualRow : OpenClaim := { program := "ytblbieenfghbdaadoor", sum := "85d9fecd8be21353a35133bb675fe18fd9a8931ef5576c6bce77388a894bed29", func := "intervalmon/intervalmonlaw18.BlockEqual", spec := "blockEqual", unfollowed := true, recurses := true, named := ["intervalmon/block.ranges", "intervalmon/codec.widths"], apart := false, laid := [("intervalmon/codec.widths", laid_intervalmon_codec_widths), ("intervalmon/block.ranges", laid_intervalmon_block_ranges)] }
def BlockEqualSaid : Prop := blockEqualRow.holds Tryd.pinned (OpenSpec.ofChange blockEqualSpec)

/-- ITS FALSE NEIGHBOUR: 'it returns false'. Refute it at one input. -/
def blockEqualWrong : ChangeSpec := { name := "blockEqual", fn := fun _ => fun
  | [d1, d2, d3, d4] => { results := [.lit (.bool false)], args := [d1, d2, d3, d4] }
  | _ => none }
def BlockEqualWrongFalsely : Prop := blockEqualRow.holds Tryd.pinned (OpenSpec.ofChange blockEqualWrong)

/-- 'intervalmonlaw15.CodecEncodes': WHATEVER THE INPUT: true; the input reads as it did. -/
def codecEncodesSpec : ChangeSpec := { name := "codecEncodes", fn := fun _ => fun
  | [d1, d2] => { results := [.lit (.bool true)], args := [d1, d2] }
  | _ => none }
def codecEncodesRow : OpenClaim := { program := "ytblbieenfghbdaadoor", sum := "85d9fecd8be21353a35133bb675fe18fd9a8931ef5576c6bce77388a894bed29", func := "intervalmon/intervalmonlaw15.CodecEncodes", spec := "codecEncodes", unfollowed := true, recurses := true, named := ["intervalmon/codec.widths"], apart := false, laid := [("intervalmon/codec.widths", laid_intervalmon_codec_widths)] }
def CodecEncodesSaid : Prop := codecEncodesRow.holds Tryd.pinned (OpenSpec.ofChange codecEncodesSpec)

/-- ITS FALSE NEIGHBOUR: 'it returns false'. Refute it at one input. -/
def codecEncodesWrong : ChangeSpec := { name := "codecEncodes", fn := fun _ => fun
  | [d1, d2] => { results := [.lit (.bool false)], args := [d1, d2] }
  | _ => none }
def CodecEncodesWrongFalsely : Prop := codecEncodesRow.holds Tryd.pinned (OpenSpec.ofChange codecEncodesWrong)

/-- 'intervalmonlaw15.CodecCompact': WHATEVER THE INPUT: true; the input reads as it did. -/
def codecCompactSpec : ChangeSpec := { name := "codecCompact", fn := fun _ => fun
  | [d1, d2, d3] => { results := [.lit (.bool true)], args := [d1, d2, d3] }
  | _ => none }
def codecCompactRow : OpenClaim := { program := "ytblbieenfghbdaadoor", sum := "85d9fecd8be21353a35133bb675fe18fd9a8931ef5576c6bce77388a894bed29", func := "intervalmon/intervalmonlaw15.CodecCompact", spec := "codecCompact", unfollowed := true, recurses := true, named := ["intervalmon/codec.widths"], apart := false, laid := [("intervalmon/codec.widths", laid_intervalmon_codec_widths)] }
def CodecCompactSaid : Prop := codecCompactRow.holds Tryd.pinned (OpenSpec.ofChange codecCompactSpec)

/-- ITS FALSE NEIGHBOUR: 'it returns false'. Refute it at one input. -/
def codecCompactWrong : ChangeSpec := { name := "codecCompact", fn := fun _ => fun
  | [d1, d2, d3] => { results := [.lit (.bool false)], args := [d1, d2, d3] }
  | _ => none }
def CodecCompactWrongFalsely : Prop := codecCompactRow.holds Tryd.pinned (OpenSpec.ofChange codecCompactWrong)

/-- 'intervalmonlaw15.CodecDecodes': WHATEVER THE INPUT: true; the input reads as it did. -/
def codecDecodesSpec : ChangeSpec := { name := "codecDecodes", fn := fun _ => fun
  | [d1, d2, d3, d4] => { results := [.lit (.bool true)], args := [d1, d2, d3, d4] }
  | _ => none }
def codecDecodesRow : OpenClaim := { program := "ytblbieenfghbdaadoor", sum := "85d9fecd8be21353a35133bb675fe18fd9a8931ef5576c6bce77388a894bed29", func := "intervalmon/intervalmonlaw15.CodecDecodes", spec := "codecDecodes", unfollowed := true, recurses := true, named := ["intervalmon/codec.widths"], apart := false, laid := [("intervalmon/codec.widths", laid_intervalmon_codec_widths)] }
def CodecDecodesSaid : Prop := codecDecodesRow.holds Tryd.pinned (OpenSpec.ofChange codecDecodesSpec)

/-- ITS FALSE NEIGHBOUR: 'it returns false'. Refute it at one input. -/
def codecDecodesWrong : ChangeSpec := { name := "codecDecodes", fn := fun _ => fun
  | [d1, d2, d3, d4] => { results := [.lit (.bool false)], args := [d1, d2, d3, d4] }
  | _ => none }
def CodecDecodesWrongFalsely : Prop := codecDecodesRow.holds Tryd.pinned (OpenSpec.ofChange codecDecodesWrong)

/-- 'intervalmonlaw15.CodecRound': WHATEVER THE INPUT: true; the input reads as it did. -/
def codecRoundSpec : ChangeSpec := { name := "codecRound", fn := fun _ => fun
  | [d1, d2] => { results := [.lit (.bool true)], args := [d1, d2] }
  | _ => none }
def codecRoundRow : OpenClaim := { program := "ytblbieenfghbdaadoor", sum := "85d9fecd8be21353a35133bb675fe18fd9a8931ef5576c6bce77388a894bed29", func := "intervalmon/intervalmonlaw15.CodecRound", spec := "codecRound", unfollowed := true, recurses := true, named := ["intervalmon/codec.widths"], apart := false, laid := [("intervalmon/codec.widths", laid_intervalmon_codec_widths)] }
def CodecRoundSaid : Prop := codecRoundRow.holds Tryd.pinned (OpenSpec.ofChange codecRoundSpec)

/-- ITS FALSE NEIGHBOUR: 'it returns false'. Refute it at one input. -/
def codecRoundWrong : ChangeSpec := { name := "codecRound", fn := fun _ => fun
  | [d1, d2] => { results := [.lit (.bool false)], args := [d1, d2] }
  | _ => none }
def CodecRoundWrongFalsely : Prop := codecRoundRow.holds Tryd.pinned (OpenSpec.ofChange codecRoundWrong)

/-- 'intervalmonlaw15.CodecOne': WHATEVER THE INPUT: true; the input reads as it did. -/
def codecOneSpec : ChangeSpec := { name := "codecOne", fn := fun _ => fun
  | [d] => { results := [.lit (.bool true)], args := [d] }
  | _ => none }
def codecOneRow : OpenClaim := { program := "ytblbieenfghbdaadoor", sum := "85d9fecd8be21353a35133bb675fe18fd9a8931ef5576c6bce77388a894bed29", func := "intervalmon/intervalmonlaw15.CodecOne", spec := "codecOne", unfollowed := true, recurses := true, named := ["intervalmon/codec.widths"], apart := false, laid := [("intervalmon/codec.widths", laid_intervalmon_codec_widths)] }
def CodecOneSaid : Prop := codecOneRow.holds Tryd.pinned (OpenSpec.ofChange codecOneSpec)

/-- ITS FALSE NEIGHBOUR: 'it returns false'. Refute it at one input. -/
def codecOneWrong : ChangeSpec := { name := "codecOne", fn := fun _ => fun
  | [d] => { results := [.lit (.bool false)], args := [d] }
  | _ => none }
def CodecOneWrongFalsely : Prop := codecOneRow.holds Tryd.pinned (OpenSpec.ofChange codecOneWrong)

/-- 'intervalmonlaw15.CodecKeys': WHATEVER THE INPUT: true; the input reads as it did. -/
def codecKeysSpec : ChangeSpec := { name := "codecKeys", fn := fun _ => fun
  | [d1, d2] => { results := [.lit (.bool true)], args := [d1, d2] }
  | _ => none }
def codecKeysRow : OpenClaim := { program := "ytblbieenfghbdaadoor", sum := "85d9fecd8be21353a35133bb675fe18fd9a8931ef5576c6bce77388a894bed29", func := "intervalmon/intervalmonlaw15.CodecKeys", spec := "codecKeys", inPlace := ["internal/abi.NoEscape"], unfollowed := true, recurses := true, named := ["intervalmon/codec.widths"], apart := false, laid := [("intervalmon/codec.widths", laid_intervalmon_codec_widths)] }
def CodecKeysSaid : Prop := codecKeysRow.holds Tryd.pinned (OpenSpec.ofChange codecKeysSpec)

/-- ITS FALSE NEIGHBOUR: 'it returns false'. Refute it at one input. -/
def codecKeysWrong : ChangeSpec := { name := "codecKeys", fn := fun _ => fun
  | [d1, d2] => { results := [.lit (.bool false)], args := [d1, d2] }
  | _ => none }
def CodecKeysWrongFalsely : Prop := codecKeysRow.holds Tryd.pinned (OpenSpec.ofChange codecKeysWrong)

/-- 'intervalmonlaw18.BlockDetects': WHATEVER THE INPUT: true; the input reads as it did. -/
def blockDetectsSpec : ChangeSpec := { name := "blockDetects", fn := fun _ => fun
  | [d1, d2, d3, d4] => { results := [.lit (.bool true)], args := [d1, d2, d3, d4] }
  | _ => none }
def blockDetectsRow : OpenClaim := { program := "ytblbieenfghbdaadoor", sum := "85d9fecd8be21353a35133bb675fe18fd9a8931ef5576c6bce77388a894bed29", func := "intervalmon/intervalmonlaw18.BlockDetects", spec := "blockDetects", unfollowed := true, recurses := true, named := ["intervalmon/block.ranges", "intervalmon/codec.widths"], apart := false, laid := [("intervalmon/codec.widths", laid_intervalmon_codec_widths), ("intervalmon/block.ranges", laid_intervalmon_block_ranges)] }
def BlockDetectsSaid : Prop := blockDetectsRow.holds Tryd.pinned (OpenSpec.ofChange blockDetectsSpec)

/-- ITS FALSE NEIGHBOUR: 'it returns false'. Refute it at one input. -/
def blockDetectsWrong : ChangeSpec := { name := "blockDetects", fn := fun _ => fun
  | [d1, d2, d3, d4] => { results := [.lit (.bool false)], args := [d1, d2, d3, d4] }
  | _ => none }
def BlockDetectsWrongFalsely : Prop := blockDetectsRow.holds Tryd.pinned (OpenSpec.ofChange blockDetectsWrong)

/-- 'intervalmonlaw18.BlockRound': WHATEVER THE INPUT: true; the input reads as it did. -/
def blockRoundSpec : ChangeSpec := { name := "blockRound", fn := fun _ => fun
  | [d1, d2, d3, d4] => { results := [.lit (.bool true)], args := [d1, d2, d3, d4] }
  | _ => none }
def blockRoundRow : OpenClaim := { program := "ytblbieenfghbdaadoor", sum := "85d9fecd8be21353a35133bb675fe18fd9a8931ef5576c6bce77388a894bed29", func := "intervalmon/intervalmonlaw18.BlockRound", spec := "blockRound", unfollowed := true, recurses := true, named := ["intervalmon/block.ranges", "intervalmon/codec.widths"], apart := false, laid := [("intervalmon/codec.widths", laid_intervalmon_codec_widths), ("intervalmon/block.ranges", laid_intervalmon_block_ranges)] }
def BlockRoundSaid : Prop := blockRoundRow.holds Tryd.pinned (OpenSpec.ofChange blockRoundSpec)

/-- ITS FALSE NEIGHBOUR: 'it returns false'. Refute it at one input. -/
def blockRoundWrong : ChangeSpec := { name := "blockRound", fn := fun _ => fun
  | [d1, d2, d3, d4] => { results := [.lit (.bool false)], args := [d1, d2, d3, d4] }
  | _ => none }
def BlockRoundWrongFalsely : Prop := blockRoundRow.holds Tryd.pinned (OpenSpec.ofChange blockRoundWrong)

/-- 'intervalmonlaw18.BlockIds': WHATEVER THE INPUT: true; the input reads as it did. -/
def blockIdsSpec : ChangeSpec := { name := "blockIds", fn := fun _ => fun
  | [d1, d2, d3, d4] => { results := [.lit (.bool true)], args := [d1, d2, d3, d4] }
  | _ => none }
def blockIdsRow : OpenClaim := { program := "ytblbieenfghbdaadoor", sum := "85d9fecd8be21353a35133bb675fe18fd9a8931ef5576c6bce77388a894bed29", func := "intervalmon/intervalmonlaw18.BlockIds", spec := "blockIds", unfollowed := true, recurses := true, named := ["intervalmon/block.ranges", "intervalmon/codec.widths"], apart := false, laid := [("intervalmon/codec.widths", laid_intervalmon_codec_widths), ("intervalmon/block.ranges", laid_intervalmon_block_ranges)] }
def BlockIdsSaid : Prop := blockIdsRow.holds Tryd.pinned (OpenSpec.ofChange blockIdsSpec)

/-- ITS FALSE NEIGHBOUR: 'it returns false'. Refute it at one input. -/
def blockIdsWrong : ChangeSpec := { name := "blockIds", fn := fun _ => fun
  | [d1, d2, d3, d4] => { results := [.lit (.bool false)], args := [d1, d2, d3, d4] }
  | _ => none }
def BlockIdsWrongFalsely : Prop := blockIdsRow.holds Tryd.pinned (OpenSpec.ofChange blockIdsWrong)

/- THE SECOND FORM. 'bulk': how many values and letters a reading holds, each counted each time it is reached (what is shared counts as often as it is met; a slice's spare places count too). A statement '..UptoSaid' is the law's where the arguments, and the package variables that the reading takes, are together of bulk at most 1048576: NARROWER than '..Said'. Prove '..Said' where nothing that the law and all that it calls make is longer than what came in: it says more and counts as full. Else prove '..UptoSaid'. A law counts once. -/
mutual
def uptoBulk {H : Type} : DataW H → Nat
  | .lit (.string bytes) => bytes.length + 1
  | .lit _ => 1
  | .nil => 1
  | .ptr d => uptoBulk d + 1
  | .slice elems spare => uptoBulkAll elems + uptoBulkAll spare + 1
  | .agg parts => uptoBulkAll parts + 1
  | .iface _ d => uptoBulk d + 1
  | .map entries => uptoBulkEntries entries + 1
  | .held _ => 1
def uptoBulkAll {H : Type} : List (DataW H) → Nat
  | [] => 0
  | d :: r => uptoBulk d + uptoBulkAll r
def uptoBulkEntries {H : Type} : List (Lit × DataW H) → Nat
  | [] => 0
  | x :: r => uptoBulkEntry x + uptoBulkEntries r
def uptoBulkEntry {H : Type} : Lit × DataW H → Nat
  | (.string bytes, d) => bytes.length + uptoBulk d + 1
  | (_, d) => uptoBulk d + 1
 end
def uptoSmall : (H : Type) → List (DataW H) → Bool := fun _ ds => decide (uptoBulkAll ds ≤ 1048576)
def OpenSpec.upto (s : _root_.Go.ChangeSpec) : _root_.Go.OpenSpec := { _root_.Go.OpenSpec.ofChange s with cond := some uptoSmall }

/-- 'intervalmonlaw15.CodecInts', WHERE WHAT IT READS IS OF BULK AT MOST 1048576: true; the input reads as it did. -/
def codecIntsUptoRow : OpenClaim := { program := "ytblbieenfghbdaadoor", sum := "85d9fecd8be21353a35133bb675fe18fd9a8931ef5576c6bce77388a894bed29", func := "intervalmon/intervalmonlaw15.CodecInts", spec := "codecInts", unfollowed := true, recurses := true, named := ["intervalmon/codec.widths"], apart := false, laid := [("intervalmon/codec.widths", laid_intervalmon_codec_widths)], narrowed := true }
def CodecIntsUptoSaid : Prop := codecIntsUptoRow.holds Tryd.pinned (OpenSpec.upto codecIntsSpec)

/-- 'intervalmonlaw15.CodecDict', WHERE WHAT IT READS IS OF BULK AT MOST 1048576: true; the input reads as it did. -/
def codecDictUptoRow : OpenClaim := { program := "ytblbieenfghbdaadoor", sum := "85d9fecd8be21353a35133bb675fe18fd9a8931ef5576c6bce77388a894bed29", func := "intervalmon/intervalmonlaw15.CodecDict", spec := "codecDict", unfollowed := true, recurses := true, named := ["intervalmon/codec.widths"], apart := false, laid := [("intervalmon/codec.widths", laid_intervalmon_codec_widths)], narrowed := true }
def CodecDictUptoSaid : Prop := codecDictUptoRow.holds Tryd.pinned (OpenSpec.upto codecDictSpec)

/-- 'intervalmonlaw18.BlockEncodes', WHERE WHAT IT READS IS OF BULK AT MOST 1048576: true; the input reads as it did. -/
def blockEncodesUptoRow : OpenClaim := { program := "ytblbieenfghbdaadoor", sum := "85d9fecd8be21353a35133bb675fe18fd9a8931ef5576c6bce77388a894bed29", func := "intervalmon/intervalmonlaw18.BlockEncodes", spec := "blockEncodes", unfollowed := true, recurses := true, named := ["intervalmon/block.ranges", "intervalmon/codec.widths"], apart := false, laid := [("intervalmon/codec.widths", laid_intervalmon_codec_widths), ("intervalmon/block.ranges", laid_intervalmon_block_ranges)], narrowed := true }
def BlockEncodesUptoSaid : Prop := blockEncodesUptoRow.holds Tryd.pinned (OpenSpec.upto blockEncodesSpec)

/-- 'intervalmonlaw18.BlockEqual', WHERE WHAT IT READS IS OF BULK AT MOST 1048576: true; the input reads as it did. -/
def blockEqualUptoRow : OpenClaim := { program := "ytblbieenfghbdaadoor", sum := "85d9fecd8be21353a35133bb675fe18fd9a8931ef5576c6bce77388a894bed29", func := "intervalmon/intervalmonlaw18.BlockEqual", spec := "blockEqual", unfollowed := true, recurses := true, named := ["intervalmon/block.ranges", "intervalmon/codec.widths"], apart := false, laid := [("intervalmon/codec.widths", laid_intervalmon_codec_widths), ("intervalmon/block.ranges", laid_intervalmon_block_ranges)], narrowed := true }
def BlockEqualUptoSaid : Prop := blockEqualUptoRow.holds Tryd.pinned (OpenSpec.upto blockEqualSpec)

/-- 'intervalmonlaw15.CodecEncodes', WHERE WHAT IT READS IS OF BULK AT MOST 1048576: true; the input reads as it did. -/
def codecEncodesUptoRow : OpenClaim := { program := "ytblbieenfghbdaadoor", sum := "85d9fecd8be21353a35133bb675fe18fd9a8931ef5576c6bce77388a894bed29", func := "intervalmon/intervalmonlaw15.CodecEncodes", spec := "codecEncodes", unfollowed := true, recurses := true, named := ["intervalmon/codec.widths"], apart := false, laid := [("intervalmon/codec.widths", laid_intervalmon_codec_widths)], narrowed := true }
def CodecEncodesUptoSaid : Prop := codecEncodesUptoRow.holds Tryd.pinned (OpenSpec.upto codecEncodesSpec)

/-- 'intervalmonlaw15.CodecCompact', WHERE WHAT IT READS IS OF BULK AT MOST 1048576: true; the input reads as it did. -/
def codecCompactUptoRow : OpenClaim := { program := "ytblbieenfghbdaadoor", sum := "85d9fecd8be21353a35133bb675fe18fd9a8931ef5576c6bce77388a894bed29", func := "intervalmon/intervalmonlaw15.CodecCompact", spec := "codecCompact", unfollowed := true, recurses := true, named := ["intervalmon/codec.widths"], apart := false, laid := [("intervalmon/codec.widths", laid_intervalmon_codec_widths)], narrowed := true }
def CodecCompactUptoSaid : Prop := codecCompactUptoRow.holds Tryd.pinned (OpenSpec.upto codecCompactSpec)

/-- 'intervalmonlaw15.CodecDecodes', WHERE WHAT IT READS IS OF BULK AT MOST 1048576: true; the input reads as it did. -/
def codecDecodesUptoRow : OpenClaim := { program := "ytblbieenfghbdaadoor", sum := "85d9fecd8be21353a35133bb675fe18fd9a8931ef5576c6bce77388a894bed29", func := "intervalmon/intervalmonlaw15.CodecDecodes", spec := "codecDecodes", unfollowed := true, recurses := true, named := ["intervalmon/codec.widths"], apart := false, laid := [("intervalmon/codec.widths", laid_intervalmon_codec_widths)], narrowed := true }
def CodecDecodesUptoSaid : Prop := codecDecodesUptoRow.holds Tryd.pinned (OpenSpec.upto codecDecodesSpec)

/-- 'intervalmonlaw15.CodecRound', WHERE WHAT IT READS IS OF BULK AT MOST 1048576: true; the input reads as it did. -/
def codecRoundUptoRow : OpenClaim := { program := "ytblbieenfghbdaadoor", sum := "85d9fecd8be21353a35133bb675fe18fd9a8931ef5576c6bce77388a894bed29", func := "intervalmon/intervalmonlaw15.CodecRound", spec := "codecRound", unfollowed := true, recurses := true, named := ["intervalmon/codec.widths"], apart := false, laid := [("intervalmon/codec.widths", laid_intervalmon_codec_widths)], narrowed := true }
def CodecRoundUptoSaid : Prop := codecRoundUptoRow.holds Tryd.pinned (OpenSpec.upto codecRoundSpec)

/-- 'intervalmonlaw15.CodecOne', WHERE WHAT IT READS IS OF BULK AT MOST 1048576: true; the input reads as it did. -/
def codecOneUptoRow : OpenClaim := { program := "ytblbieenfghbdaadoor", sum := "85d9fecd8be21353a35133bb675fe18fd9a8931ef5576c6bce77388a894bed29", func := "intervalmon/intervalmonlaw15.CodecOne", spec := "codecOne", unfollowed := true, recurses := true, named := ["intervalmon/codec.widths"], apart := false, laid := [("intervalmon/codec.widths", laid_intervalmon_codec_widths)], narrowed := true }
def CodecOneUptoSaid : Prop := codecOneUptoRow.holds Tryd.pinned (OpenSpec.upto codecOneSpec)

/-- 'intervalmonlaw15.CodecKeys', WHERE WHAT IT READS IS OF BULK AT MOST 1048576: true; the input reads as it did. -/
def codecKeysUptoRow : OpenClaim := { program := "ytblbieenfghbdaadoor", sum := "85d9fecd8be21353a35133bb675fe18fd9a8931ef5576c6bce77388a894bed29", func := "intervalmon/intervalmonlaw15.CodecKeys", spec := "codecKeys", inPlace := ["internal/abi.NoEscape"], unfollowed := true, recurses := true, named := ["intervalmon/codec.widths"], apart := false, laid := [("intervalmon/codec.widths", laid_intervalmon_codec_widths)], narrowed := true }
def CodecKeysUptoSaid : Prop := codecKeysUptoRow.holds Tryd.pinned (OpenSpec.upto codecKeysSpec)

/-- 'intervalmonlaw18.BlockDetects', WHERE WHAT IT READS IS OF BULK AT MOST 1048576: true; the input reads as it did. -/
def blockDetectsUptoRow : OpenClaim := { program := "ytblbieenfghbdaadoor", sum := "85d9fecd8be21353a35133bb675fe18fd9a8931ef5576c6bce77388a894bed29", func := "intervalmon/intervalmonlaw18.BlockDetects", spec := "blockDetects", unfollowed := true, recurses := true, named := ["intervalmon/block.ranges", "intervalmon/codec.widths"], apart := false, laid := [("intervalmon/codec.widths", laid_intervalmon_codec_widths), ("intervalmon/block.ranges", laid_intervalmon_block_ranges)], narrowed := true }
def BlockDetectsUptoSaid : Prop := blockDetectsUptoRow.holds Tryd.pinned (OpenSpec.upto blockDetectsSpec)

/-- 'intervalmonlaw18.BlockRound', WHERE WHAT IT READS IS OF BULK AT MOST 1048576: true; the input reads as it did. -/
def blockRoundUptoRow : OpenClaim := { program := "ytblbieenfghbdaadoor", sum := "85d9fecd8be21353a35133bb675fe18fd9a8931ef5576c6bce77388a894bed29", func := "intervalmon/intervalmonlaw18.BlockRound", spec := "blockRound", unfollowed := true, recurses := true, named := ["intervalmon/block.ranges", "intervalmon/codec.widths"], apart := false, laid := [("intervalmon/codec.widths", laid_intervalmon_codec_widths), ("intervalmon/block.ranges", laid_intervalmon_block_ranges)], narrowed := true }
def BlockRoundUptoSaid : Prop := blockRoundUptoRow.holds Tryd.pinned (OpenSpec.upto blockRoundSpec)

/-- 'intervalmonlaw18.BlockIds', WHERE WHAT IT READS IS OF BULK AT MOST 1048576: true; the input reads as it did. -/
def blockIdsUptoRow : OpenClaim := { program := "ytblbieenfghbdaadoor", sum := "85d9fecd8be21353a35133bb675fe18fd9a8931ef5576c6bce77388a894bed29", func := "intervalmon/intervalmonlaw18.BlockIds", spec := "blockIds", unfollowed := true, recurses := true, named := ["intervalmon/block.ranges", "intervalmon/codec.widths"], apart := false, laid := [("intervalmon/codec.widths", laid_intervalmon_codec_widths), ("intervalmon/block.ranges", laid_intervalmon_block_ranges)], narrowed := true }
def BlockIdsUptoSaid : Prop := blockIdsUptoRow.holds Tryd.pinned (OpenSpec.upto blockIdsSpec)

end Rows
end Go.Proofs.YtblbieenfghbdaaDoor
