/- Out of the translation, by a program of this session: for each Go function a Lean function of the same results, and the proof that the call comes to them whenever that function gives a result. -/
import Derived.Test.YtblbieenfghbdaaDoorDx0
import Derived.Test.YtblbieenfghbdaaDoorDxA0
import Derived.Test.YtblbieenfghbdaaDoorDxA1
import Derived.Test.YtblbieenfghbdaaDoorDxA2
import Derived.Test.YtblbieenfghbdaaDoorDxA3
import Derived.Test.YtblbieenfghbdaaDoorDxA4
import Derived.Test.YtblbieenfghbdaaDoorDxA5
namespace Go.Proofs.YtblbieenfghbdaaDoor.D
open Go.RowKit Go.Proofs.YtblbieenfghbdaaDoorW.PrintWords Go.Proofs.YtblbieenfghbdaaDoorW.PrintLast Go.Proofs.YtblbieenfghbdaaDoorW.PrintMore
attribute [local go_sem] max2_int min2_int max_two min_two max_three min_three max_four min_four
set_option linter.unusedVariables false
set_option linter.unusedSimpArgs false

end Go.Proofs.YtblbieenfghbdaaDoor.D
