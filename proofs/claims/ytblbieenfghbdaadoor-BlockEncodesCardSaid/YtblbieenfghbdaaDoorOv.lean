/- A claim that comes in by value, opened and shut again. -/
import Derived.Test.YtblbieenfghbdaaDoorEx0
import Derived.Lib.SmallJoins
namespace Go.Proofs.YtblbieenfghbdaaDoor.E
open Go.RowKit Go.ChangeShapes Go.WideShapes Go.Joins
set_option linter.unusedVariables false
section
variable {H : Type} {enc : TypeId × Value → H} {w : World} {base : Nat} {spare : Nat → Bool} {held : Bool}
set_option maxRecDepth 100000 in
theorem open_claim {r : Reach} {b0 : Nat} {v : Value} {d : DataW H} {p : List MemPlace} (hv : Value.okWide Tryd.prog w r b0 44 v) (h : DataW.Trod enc Tryd.prog w base spare held 44 v d p) :
    ∃ z0 z1 z2 z3 : Int, v = .agg #[.int .i64 z0, .int .i64 z1, .int .i64 z2, .int .i64 z3] ∧ d = .agg [.lit (.int .i64 z0), .lit (.int .i64 z1), .lit (.int .i64 z2), .lit (.int .i64 z3)] ∧ p = [] ∧
      (Lit.int .i64 z0).wf = true ∧ (Lit.int .i64 z1).wf = true ∧ (Lit.int .i64 z2).wf = true ∧ (Lit.int .i64 z3).wf = true := by
  obtain ⟨v0, v1, v2, v3, y0, y1, y2, y3, n, rfl, rfl, rfl, h0, h1, h2, h3⟩ := open_agg4 Tryd.underlying44 (by kernel_rfl) (by kernel_rfl) hv h
  have get : ∀ {v : Value} {y : DataW H × List MemPlace}, DataW.trod enc Tryd.prog w base spare held n 3 [v] = some y → ∃ z, v = .int .i64 z ∧ y = (.lit (.int .i64 z), []) ∧ (Lit.int .i64 z).wf = true := by
    intro v y hy
    obtain ⟨z, hz, hx, hw⟩ := DataW.trod_int Tryd.underlying3 hy
    simp at hz
    exact ⟨z, hz, hx, hw⟩
  obtain ⟨z0, rfl, rfl, w0⟩ := get h0
  obtain ⟨z1, rfl, rfl, w1⟩ := get h1
  obtain ⟨z2, rfl, rfl, w2⟩ := get h2
  obtain ⟨z3, rfl, rfl, w3⟩ := get h3
  exact ⟨z0, z1, z2, z3, rfl, rfl, rfl, w0, w1, w2, w3⟩
set_option maxRecDepth 100000 in
theorem shut_claim {z0 z1 z2 z3 : Int} (w0 : (Lit.int .i64 z0).wf = true) (w1 : (Lit.int .i64 z1).wf = true) (w2 : (Lit.int .i64 z2).wf = true) (w3 : (Lit.int .i64 z3).wf = true) :
    DataW.Trod enc Tryd.prog w base spare held 44 (.agg #[.int .i64 z0, .int .i64 z1, .int .i64 z2, .int .i64 z3]) (.agg [.lit (.int .i64 z0), .lit (.int .i64 z1), .lit (.int .i64 z2), .lit (.int .i64 z3)]) [] := by
  have one : ∀ {z : Int}, (Lit.int .i64 z).wf = true → ∃ n, DataW.trod enc Tryd.prog w base spare held n 3 [Value.int .i64 z] = some (.lit (.int .i64 z), []) := fun {z} hw => by
    obtain ⟨n, hn⟩ := shut_int (enc := enc) (P := Tryd.prog) (w := w) (base := base) (spare := spare) (held := held) Tryd.underlying3 hw
    exact ⟨n, by simpa [Value.cells] using hn⟩
  exact shut_agg4 Tryd.underlying44 (by kernel_rfl) (by kernel_rfl) (one w0) (one w1) (one w2) (one w3)
end
end Go.Proofs.YtblbieenfghbdaaDoor.E
