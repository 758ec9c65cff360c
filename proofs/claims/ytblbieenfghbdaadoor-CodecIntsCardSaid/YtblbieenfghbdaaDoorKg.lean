/- The words of package codec's table of widths, which lies in the program's first block: what stands there, and that no call moves it. -/
import Derived.Test.YtblbieenfghbdaaDoorDxA
namespace Go.Proofs.YtblbieenfghbdaaDoor.D
open Go.RowKit Go.Proofs.YtblbieenfghbdaaDoorW.PrintWords Go.Proofs.YtblbieenfghbdaaDoorW.PrintLast Go.Proofs.YtblbieenfghbdaaDoorW.PrintMore
/-- The six widths. -/
def widths : List Int := [0, 4, 8, 16, 32, 64]
/-- The table lies in the first block. -/
def Glob (w : World) : Prop := ∀ j v, widths[j]? = some v → w.cell? ⟨0, j, none⟩ = some (.int .i64 v)
theorem Glob.below {w W : World} (h : Glob w) (hB : Below w.heap.size w W) : Glob W := fun j v e => pw_cell_below hB (h j v e)
theorem Glob.at_ {w : World} (h : Glob w) (i : Int) (h0 : 0 ≤ i) (h1 : i < 6) : w.cell? ⟨0, i.toNat, none⟩ = some (.int .i64 (rd widths i)) := by
  have hl : i.toNat < widths.length := by simp only [widths, List.length_cons, List.length_nil]; omega
  refine h i.toNat _ ?_
  rw [rd, List.getD_eq_getElem?_getD, List.getElem?_eq_getElem hl]; rfl
end Go.Proofs.YtblbieenfghbdaaDoor.D
