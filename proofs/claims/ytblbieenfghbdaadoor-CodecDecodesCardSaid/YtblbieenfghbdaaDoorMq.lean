/- intervalmonref15_Read.f gives no less with more rounds. -/
import Derived.Test.YtblbieenfghbdaaDoorHa
namespace Go.Proofs.YtblbieenfghbdaaDoor.D
open Go.RowKit Go.Proofs.YtblbieenfghbdaaDoorW.PrintWords Go.Proofs.YtblbieenfghbdaaDoorW.PrintLast Go.Proofs.YtblbieenfghbdaaDoorW.PrintMore
theorem intervalmonref15_Read.mono : ∀ a0 a1 a2 k, LeO (intervalmonref15_Read.f k a0 a1 a2) (intervalmonref15_Read.f (k + 1) a0 a1 a2) := by
  intro a0 a1 a2 k
  unfold intervalmonref15_Read.f
  repeat' first
      | (with_reducible exact intervalmonref14_Reader_Unary.mono _ _ _ _ _)
      | (with_reducible exact intervalmonref14_Reader_Bits.mono _ _ _ _ _)
      | (with_reducible exact intervalmonref15_Code.mono _ _)
      | (with_reducible exact LeO.refl _)
      | (with_reducible exact LeO.none _)
      | (with_reducible refine LeO.ite ?_ ?_)
      | (with_reducible refine LeO.bind ?_ (fun _ => ?_))
end Go.Proofs.YtblbieenfghbdaaDoor.D
