/- The calls of codec.encodable and codec.Encode, and what they say. -/
import Derived.Test.YtblbieenfghbdaaDoorKe
import Derived.Test.YtblbieenfghbdaaDoorPe
namespace Go.Proofs.YtblbieenfghbdaaDoor.E
open Go.RowKit Go.Proofs.YtblbieenfghbdaaDoor.D Go.Proofs.YtblbieenfghbdaaDoorW.PrintWords Go.Proofs.YtblbieenfghbdaaDoorW.PrintLast Go.Proofs.YtblbieenfghbdaaDoorW.PrintMore
set_option linter.unusedVariables false
set_option linter.unusedSimpArgs false
theorem min4 (a b c d t : Int) : t ≤ [b, c, d].foldl mn a ↔ t ≤ a ∧ t ≤ b ∧ t ≤ c ∧ t ≤ d := by
  simp only [List.foldl_cons, List.foldl_nil, mn]
  (repeat' split) <;> omega
theorem max4 (a b c d t : Int) : [b, c, d].foldl mx a ≤ t ↔ a ≤ t ∧ b ≤ t ∧ c ≤ t ∧ d ≤ t := by
  simp only [List.foldl_cons, List.foldl_nil, mx]
  (repeat' split) <;> omega
set_option maxHeartbeats 2000000 in
set_option maxRecDepth 100000 in
theorem codec_encodable.calls (a b c d : Int) (w : World) :
    Calls Tryd.prog 81 #[.agg #[.int .i64 a, .int .i64 b, .int .i64 c, .int .i64 d]] w fun e w' => e = .returned (.bool (encB ⟨a, b, c, d⟩)) ∧ Below w.heap.size w w' := by
  obtain ⟨lo, hlo⟩ : ∃ m, [b, c, d].foldl mn a = m := ⟨_, rfl⟩
  obtain ⟨hi, hhi⟩ : ∃ m, [b, c, d].foldl mx a = m := ⟨_, rfl⟩
  have h1 := min4 a b c d (-1099511627776)
  have h2 := max4 a b c d 1099511627776
  rw [hlo] at h1
  rw [hhi] at h2
  have he : encB ⟨a, b, c, d⟩ = (decide (lo ≥ -1099511627776) && decide (hi ≤ 1099511627776)) := by
    rw [Bool.eq_iff_iff, encB_iff, Bool.and_eq_true, decide_eq_true_eq, decide_eq_true_eq]
    simp only []
    omega
  rw [he]
  obtain ⟨r, hr⟩ : ∃ r, (decide (lo ≥ -1099511627776) && decide (hi ≤ 1099511627776)) = r := ⟨_, rfl⟩
  rw [hr]
  have hr' := Aside0.mk hr
  clear hr
  have hlo' := Aside0.mk hlo
  have hhi' := Aside0.mk hhi
  clear hlo hhi h1 h2 he
  go_enter Tryd.func81, Tryd.ntmps81
  go_upto_region 1 with (fail)
  have hB0 : Below w.heap.size w (w.alloc (.cells #[.int .i64 a, .int .i64 b, .int .i64 c, .int .i64 d] 44)) := below_alloc (Below.refl _ _) _
  have hblk : (w.alloc (.cells #[.int .i64 a, .int .i64 b, .int .i64 c, .int .i64 d] 44)).heap[w.heap.size]? = some (.cells #[.int .i64 a, .int .i64 b, .int .i64 c, .int .i64 d] 44 (0, 0)) := by simpa using heap_alloc_new w _
  generalize hq : w.heap.size = q at hblk ⊢
  clear hq
  generalize w.alloc (.cells #[.int .i64 a, .int .i64 b, .int .i64 c, .int .i64 d] 44) = w0 at hB0 hblk ⊢
  have k0 : w0.cell? ⟨q, 0, none⟩ = some (.int .i64 a) := (blk_cell hblk 0).trans rfl
  have k1 : w0.cell? ⟨q, 1, none⟩ = some (.int .i64 b) := (blk_cell hblk 1).trans rfl
  have k2 : w0.cell? ⟨q, 2, none⟩ = some (.int .i64 c) := (blk_cell hblk 2).trans rfl
  have k3 : w0.cell? ⟨q, 3, none⟩ = some (.int .i64 d) := (blk_cell hblk 3).trans rfl
  clear hblk
  go_upto_region 2 with (fail)
  have hC := lit_i64 w0 [a, b, c, d] 3 (by simp)
  have hB1 : Below w.heap.size w (w0.alloc (.cells #[.int .i64 a, .int .i64 b, .int .i64 c, .int .i64 d] 3)) := below_alloc hB0 _
  change Kd.C (Kd.int .i64) (w0.alloc (.cells #[.int .i64 a, .int .i64 b, .int .i64 c, .int .i64 d] 3)) (some ⟨w0.heap.size, 0, none⟩) (a :: [b, c, d]).length (a :: [b, c, d]) at hC
  generalize w0.alloc (.cells #[.int .i64 a, .int .i64 b, .int .i64 c, .int .i64 d] 3) = w1 at hC hB1 ⊢
  generalize w0.heap.size = q1 at hC ⊢
  have hC' := Aside0.mk hC
  clear hC hB0 k0 k1 k2 k3
  by_cases c1 : lo ≥ -1099511627776
  · have c1b : decide (lo ≥ -1099511627776) = true := decide_eq_true c1
    have c1b' := Aside0.mk c1b
    clear c1
    go_wp2_with (fail)
    refine (slices_Min.calls _ 4 a [b, c, d] w1 hC'.out).mono ?_
    rintro e w2 ⟨rfl, rfl⟩
    rw [hlo'.out]
    go_wp2_with (fail)
    refine (slices_Max.calls _ 4 a [b, c, d] w2 hC'.out).mono ?_
    rintro e w3 ⟨rfl, rfl⟩
    rw [hhi'.out]
    obtain ⟨bb, hbb⟩ : ∃ bb, decide (hi ≤ 1099511627776) = bb := ⟨_, rfl⟩
    replace hbb := Aside0.mk hbb
    go_wp2
    go_ret
    exact ⟨by rw [← hr'.out, c1b'.out, Bool.true_and]; rfl, hB1⟩
  · have c1b : decide (lo ≥ -1099511627776) = false := decide_eq_false c1
    have c1b' := Aside0.mk c1b
    clear c1
    go_wp2_with (fail)
    refine (slices_Min.calls _ 4 a [b, c, d] w1 hC'.out).mono ?_
    rintro e w2 ⟨rfl, rfl⟩
    rw [hlo'.out]
    go_wp2
    go_ret
    exact ⟨by rw [← hr'.out, c1b'.out, Bool.false_and]; rfl, hB1⟩
end Go.Proofs.YtblbieenfghbdaaDoor.E
