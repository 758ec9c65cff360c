/- A claim that comes in by value, opened and shut again. -/
import Derived.Test.YtblbieenfghbdaaDoorEx0
import Derived.Lib.SmallJoins
namespace Go.Proofs.YtblbieenfghbdaaDoor.E
open Go.RowKit Go.ChangeShapes Go.WideShapes Go.Joins
set_option linter.unusedVariables false
end Go.Proofs.YtblbieenfghbdaaDoor.E
