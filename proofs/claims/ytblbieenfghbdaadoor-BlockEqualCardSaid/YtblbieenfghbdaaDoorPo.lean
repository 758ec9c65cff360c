/- The plain law of codec.Decode: it comes to what parseClaims tells. -/
import Derived.Test.YtblbieenfghbdaaDoorKd
import Derived.Test.YtblbieenfghbdaaDoorHa
namespace Go.Proofs.YtblbieenfghbdaaDoor.E
open Go.RowKit Go.Proofs.YtblbieenfghbdaaDoor.D Go.Proofs.YtblbieenfghbdaaDoorW.PrintWords Go.Proofs.YtblbieenfghbdaaDoorW.PrintLast Go.Proofs.YtblbieenfghbdaaDoorW.PrintMore
set_option linter.unusedVariables false
set_option linter.unusedSimpArgs false
/-- What Decode gives. -/
def claimRes (bs : List Int) : List S44 × Int := match parseClaims bs with
  | some l => (l, 0)
  | none => ([], 2)
end Go.Proofs.YtblbieenfghbdaaDoor.E
