/- Out of the translation, by a program of this session: for each Go function a Lean function of the same results, and the proof that the call comes to them whenever that function gives a result. -/
import Derived.Test.YtblbieenfghbdaaQx0
import Derived.Test.YtblbieenfghbdaaQxA0
namespace Go.Proofs.Ytblbieenfghbdaa.Q
open Go.RowKit Go.Proofs.YtblbieenfghbdaaW.PrintWords Go.Proofs.YtblbieenfghbdaaW.PrintLast Go.Proofs.YtblbieenfghbdaaW.PrintMore
attribute [local go_sem] max2_int min2_int max_two min_two max_three min_three max_four min_four   -- for this text's walks alone
set_option linter.unusedVariables false
set_option linter.unusedSimpArgs false

end Go.Proofs.Ytblbieenfghbdaa.Q
