/- The calls of slices.Clone for bytes and of bits.Read, and what they leave in memory. -/
import Derived.Test.YtblbieenfghbdaaDoorKc
import Derived.Lib.SliceRun
namespace Go.Proofs.YtblbieenfghbdaaDoor.D
open Go.RowKit Go.Proofs.YtblbieenfghbdaaDoorW.PrintWords Go.Proofs.YtblbieenfghbdaaDoorW.PrintLast Go.Proofs.YtblbieenfghbdaaDoorW.PrintMore
set_option linter.unusedVariables false
set_option linter.unusedSimpArgs false
@[local go_sem] theorem eqlNil23 (W : World) (a : Option Addr) (n c : Nat) : (binOp .eql 23 (.slice a n c) (.slice none 0 0)).run Tryd.prog W = .ok (.bool a.isNone) W := Lib.run_eql_slice_nil W 23 5 a n c 0 0 Tryd.underlying23
/-! ### slices.Clone for bytes: function 89 -/
set_option maxHeartbeats 8000000 in
set_option maxRecDepth 100000 in
theorem slices_Clone.calls (A0 : Option Addr) (c0 : Nat) (l0 : List Int) (w : World) (hr0 : Kd.C (Kd.int .u8) w A0 l0.length l0) (hl : l0.length ≤ 140737488355328) :
    Calls Tryd.prog 89 #[.slice A0 l0.length c0] w fun e w' => ∃ v : Value, e = .returned v ∧ Kd.R (Kd.int .u8) 5 w' w.heap.size (fun _ => True) v l0 ∧ Below w.heap.size w w' := by
  go_enter Tryd.func89, Tryd.ntmps89
  cases A0 with
  | none =>
    have hn : l0 = [] := by
      cases l0 with
      | nil => rfl
      | cons x xs => obtain ⟨ad, e, _⟩ := Kd.at_int hr0 0 (by omega) (by simp); cases e
    subst hn
    go_wp2
    go_ret
    exact ⟨_, rfl, Kd.R_nil _ _ _ _ (fun _ => True), Below.refl _ _⟩
  | some ad =>
    go_wp2_with (first | ((with_reducible refine gate_dst (N := 5) rfl ?_); refine Kd.R_lit (Kd.int .u8) _ 5 ?hg (N := 5) ?hd (xs := ([] : List Int)) (inner := []) (ok := fun _ => True) (okp := fun _ => True) ?hr ?hp (fun _ hk => hk) trivial (Below.refl _ _) (Nat.le_refl _) (by simp) ?_; (case hd => rfl); (case hg => rfl); (case hr => first | (go_simp; done) | (go_simp; rfl)); (case hp => exact (Reps.none _ _)); intro v1 w1 ho hb hg_ hnew_; clear hg_ hnew_) | ((with_reducible refine gate_builtin (b := .append) (xs := #[.tmp 5, .tmp 6]) rfl ?_); at_builtin; refine Kd.R_append_rows (Kd.int .u8) (w0 := w) w.heap.size rfl (.tmp 5) (.tmp 6) 23 5 (.int .u8 0) 1 rfl Tryd.underlying23 info5 rfl (by decide) (by omega) v1 ([] : List Int) l0 _ _ _ (fun _ => True) (fun _ => False) rfl rfl ho (Kd.C_below hr0 hb) (fun _ _ h => h) (fun _ h => h.elim) (fun _ _ => trivial) hb hb.size (by simpa using hl) ?_; intro v2 w2 ho2 hb2 hg2 hat2))
    go_ret
    exact ⟨v2, rfl, by simpa using ho2, hb2⟩

/-! ### bits_Read: function 69 -/
set_option maxHeartbeats 8000000 in
set_option maxRecDepth 100000 in
theorem bits_Read.calls (A0 : Option Addr) (c0 : Nat) (l0 : List Int) (w : World) (hr0 : Kd.C (Kd.int .u8) w A0 l0.length l0) (hl : l0.length ≤ 140737488355328) :
    Calls Tryd.prog 69 #[.slice A0 l0.length c0] w fun e w' => ∃ (w0 : World) (g : Nat), e = .returned (.pointer (some ⟨g, 0, none⟩)) ∧ IsS154 w0 w' g l0 0 0 ∧ Below w.heap.size w w0 ∧ Below w0.heap.size w0 w' := by
  go_enter Tryd.func69, Tryd.ntmps69
  go_wp2_with (first | (go_at_call 89; refine (slices_Clone.calls A0 c0 l0 w hr0 hl).mono ?_; rintro e w1 ⟨v, rfl, hR, hB⟩; obtain ⟨A1, c1, rfl⟩ := Kd.R_slice hR))
  go_ret
  exact ⟨w1, w1.heap.size, rfl, IsS154.new w1 w1 A1 c1 l0 0 0 (Below.refl _ _) (Kd.R_reads' hR).2.2, hB, below_alloc (Below.refl _ _) _⟩
end Go.Proofs.YtblbieenfghbdaaDoor.D
