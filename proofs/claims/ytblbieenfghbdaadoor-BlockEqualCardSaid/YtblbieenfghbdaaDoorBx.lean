/- Merged texts of this seat: hand walks and plain laws that several claims share (Bv Tb Bf Ba Bh Bi Bk Bm Bn Bw Bs). -/
import Derived.Test.YtblbieenfghbdaaDoorHa
import Derived.Test.YtblbieenfghbdaaDoorFxA
import Derived.Lib.LaidTab
import Derived.Laws.BitsAllLaws
import Derived.RangeFuncNested
import Derived.RangeFuncBound
import Derived.RangeFuncCalls
import Derived.RangeFuncLeaves
import Derived.RangeFuncFrom
import Derived.RangeFuncBox
import Derived.Shelf.Abstract
import Derived.Shelf.RegionOpen
import Derived.WalkKit
import Derived.OwnWalkIn
import Derived.TacticsInMore
import Derived.LoopNIn
import Derived.LoopIn
import Derived.Sort.LoopGhostIn
import Derived.Test.YtblbieenfghbdaaDoorPm
import Derived.Test.YtblbieenfghbdaaDoorKj
import Derived.Test.YtblbieenfghbdaaDoorKk
section
namespace Go.Proofs.YtblbieenfghbdaaDoor.F
open Go.RowKit Go.Proofs.YtblbieenfghbdaaDoor.D Go.Proofs.YtblbieenfghbdaaDoor.E Go.Proofs.YtblbieenfghbdaaDoorW.PrintWords Go.Proofs.YtblbieenfghbdaaDoorW.PrintLast Go.Proofs.YtblbieenfghbdaaDoorW.PrintMore
set_option linter.unusedVariables false
set_option linter.unusedSimpArgs false
/-- The least and the greatest parameter of each kind. -/
def rangesL : List Int := [0, 0, 1, 1073741824, 0, 1073741824, 1, 4096, 0, 1048576]
/-- The table lies in the second block. -/
def GlobB (w : World) : Prop := ∀ j v, rangesL[j]? = some v → w.cell? ⟨1, j, none⟩ = some (.int .i64 v)
theorem GlobB.below {w W : World} (h : GlobB w) (hB : Below w.heap.size w W) : GlobB W := fun j v e => pw_cell_below hB (h j v e)
theorem GlobB.at_ {w : World} (h : GlobB w) (j : Nat) (hj : j < 10) : w.cell? ⟨1, j, none⟩ = some (.int .i64 (rd rangesL (j : Int))) := by
  have hl : j < rangesL.length := hj
  refine h j _ ?_
  rw [rd, Int.toNat_natCast, List.getD_eq_getElem?_getD, List.getElem?_eq_getElem hl]; rfl
/-- Whether three numbers are increasing. -/
theorem sorted3 (a b c : Int) (ha : a < 9000000000000000000) : slices_IsSorted_int_int.f 4 [a, b, c] = some (decide (a ≤ b) && decide (b ≤ c)) := by
  have w1 : wrap64 2 = 2 := by decide +kernel
  have w2 : wrap64 1 = 1 := by decide +kernel
  have w3 : wrap64 0 = 0 := by decide +kernel
  have r0 : rd [a, b, c] 0 = a := rfl
  have r1 : rd [a, b, c] 1 = b := rfl
  have r2 : rd [a, b, c] 2 = c := rfl
  simp only [slices_IsSorted_int_int.f, slices_IsSorted_int_int.l0, cmp_Less_int.f, cmp_isNaN_int.f, List.length_cons, List.length_nil, Option.bind_some, bne_self_eq_false, Bool.false_eq_true, if_false]
  simp [w1, w2, w3, r0, r1, r2]
  by_cases h1 : c < b
  · have h2 : ¬ b ≤ c := by omega
    simp [h1, h2]
  · have h2 : b ≤ c := by omega
    by_cases h3 : b < a
    · have h4 : ¬ a ≤ b := by omega
      simp [h1, h2, h3, h4]
    · have h4 : a ≤ b := by omega
      simp [h1, h2, h3, h4]
theorem isSorted3.calls (a b c : Int) (B : Nat) (w : World) (hb : w.heap[B]? = some (.cells #[.int .i64 a, .int .i64 b, .int .i64 c] 3 (0, 0))) (ha : a < 9000000000000000000) :
    Calls Tryd.prog 111 #[.slice (some ⟨B, 0, none⟩) 3 3] w fun e w' => e = .returned (.bool (decide (a ≤ b) && decide (b ≤ c))) ∧ Drawn0 w w' := by
  refine slices_IsSorted_int_int.calls 4 (some ⟨B, 0, none⟩) 3 [a, b, c] _ w ?_ (Nat.le_refl _) (sorted3 a b c ha)
  refine Kd.C_of_reads (enc := Value.int .i64) (d := 0) (h1 := fun _ => rfl) ⟨rfl, (by decide : 3 ≤ 9223372036854775807), fun _ => ⟨_, rfl, fun j hj => ?_⟩⟩
  rw [add_plain, blk_cell hb]
  have hj2 : j < 3 := hj
  have : j = 0 ∨ j = 1 ∨ j = 2 := by omega
  rcases this with rfl | rfl | rfl <;> rfl
/-- Whether a block's numbers are in their ranges. -/
def inR (s k : Int) : Bool := decide (0 ≤ k) && decide (k < 5) && decide (0 ≤ s) && decide (s < 4096)
def parR (k p : Int) : Bool := decide (rd rangesL (2 * k) ≤ p) && decide (p ≤ rd rangesL (2 * k + 1))
def costR (c : Int) : Bool := decide (0 ≤ c) && decide (c ≤ 4398046511104)
def vldB (s k p c : Int) : Bool := inR s k && parR k p && costR c && (!decide (k = 0) || decide (c = 0))
set_option maxHeartbeats 8000000 in
set_option maxRecDepth 100000 in
theorem block_valid.calls (s k p c : Int) (v : Value) (hv : ∃ A n m, v = .slice A n m) (w : World) (hG : GlobB w) :
    Calls Tryd.prog 75 #[.agg #[.int .i64 s, .int .i64 k, .int .i64 p, .int .i64 c, v]] w fun e w' => e = .returned (.bool (vldB s k p c)) ∧ Below w.heap.size w w' := by
  obtain ⟨A, n, m, rfl⟩ := hv
  have hu53 := Tryd.underlying53
  go_enter Tryd.func75, Tryd.ntmps75
  go_upto_region 1 with (fail)
  have hb1 : Below w.heap.size w (w.alloc (.cells #[.int .i64 s, .int .i64 k, .int .i64 p, .int .i64 c, .slice A n m] 53)) := below_alloc (Below.refl _ _) _
  have hk1 : (w.alloc (.cells #[.int .i64 s, .int .i64 k, .int .i64 p, .int .i64 c, .slice A n m] 53)).heap[w.heap.size]? = some (.cells #[.int .i64 s, .int .i64 k, .int .i64 p, .int .i64 c, .slice A n m] 53 (0, 0)) := by
    simpa using heap_alloc_new w (.cells #[.int .i64 s, .int .i64 k, .int .i64 p, .int .i64 c, .slice A n m] 53)
  have hG1 := hG.below hb1
  obtain ⟨q, hq⟩ : ∃ q, w.heap.size = q := ⟨_, rfl⟩
  generalize w.alloc (.cells #[.int .i64 s, .int .i64 k, .int .i64 p, .int .i64 c, .slice A n m] 53) = w1 at hb1 hk1 hG1 ⊢
  rw [hq] at hk1 ⊢
  have c0 : w1.cell? ⟨q, 0, none⟩ = some (.int .i64 s) := (blk_cell hk1 0).trans rfl
  have c1 : w1.cell? ⟨q, 1, none⟩ = some (.int .i64 k) := (blk_cell hk1 1).trans rfl
  by_cases h : inR s k = false
  · have hr : vldB s k p c = false := by rw [vldB, h]; rfl
    have hr' := Aside0.mk hr
    have hb1' := Aside0.mk hb1
    clear hr hb1 hG1 hk1 hG hq
    by_cases k0 : k < 0
    · have d0 : decide (k < 0) = true := decide_eq_true k0
      clear h
      go_wp2
      go_ret
      exact ⟨by rw [hr'.out]; rfl, hb1'.out⟩
    · by_cases k5 : 5 ≤ k
      · have d0 : decide (k < 0) = false := decide_eq_false k0
        have d1 : decide (k ≥ 5) = true := decide_eq_true k5
        clear h
        go_wp2
        go_ret
        exact ⟨by rw [hr'.out]; rfl, hb1'.out⟩
      · by_cases s0 : s < 0
        · have d0 : decide (k < 0) = false := decide_eq_false k0
          have d1 : decide (k ≥ 5) = false := decide_eq_false k5
          have d2 : decide (s < 0) = true := decide_eq_true s0
          clear h
          go_wp2
          go_ret
          exact ⟨by rw [hr'.out]; rfl, hb1'.out⟩
        · have s4 : 4096 ≤ s := by
            simp [inR] at h
            have := h (by omega) (by omega) (by omega)
            omega
          have d0 : decide (k < 0) = false := decide_eq_false k0
          have d1 : decide (k ≥ 5) = false := decide_eq_false k5
          have d2 : decide (s < 0) = false := decide_eq_false s0
          have d3 : decide (s ≥ 4096) = true := decide_eq_true s4
          clear h
          go_wp2
          go_ret
          exact ⟨by rw [hr'.out]; rfl, hb1'.out⟩
  · have h' : inR s k = true := by cases e : inR s k with
      | true => rfl
      | false => exact absurd e h
    have hr : vldB s k p c = (parR k p && costR c && (!decide (k = 0) || decide (c = 0))) := by rw [vldB, h', Bool.true_and]
    have hr' := Aside0.mk hr
    simp [inR] at h'
    obtain ⟨⟨⟨k0, k5⟩, s0⟩, s4⟩ := h'
    have d0 : decide (k < 0) = false := decide_eq_false (by omega)
    have d1 : decide (k ≥ 5) = false := decide_eq_false (by omega)
    have d2 : decide (s < 0) = false := decide_eq_false (by omega)
    have d3 : decide (s ≥ 4096) = false := decide_eq_false (by omega)
    clear h hr
    go_upto_region 3 with (fail)
    have c2 : w1.cell? ⟨q, 2, none⟩ = some (.int .i64 p) := (blk_cell hk1 2).trans rfl
    have c3 : w1.cell? ⟨q, 3, none⟩ = some (.int .i64 c) := (blk_cell hk1 3).trans rfl
    have hb1' := Aside0.mk hb1
    have hG1' := Aside0.mk hG1
    clear hb1 hG1 hG hq c0
    have hu157 := Tryd.underlying157
    have hu156 := Tryd.underlying156
    have hpar : Aside0 (parR k p = (decide (rd rangesL (2 * k) ≤ p) && decide (p ≤ rd rangesL (2 * k + 1)))) := ⟨rfl⟩
    have hlob0 : rd rangesL (2 * k) < 9000000000000000000 := by
      have : k = 0 ∨ k = 1 ∨ k = 2 ∨ k = 3 ∨ k = 4 := by omega
      rcases this with rfl | rfl | rfl | rfl | rfl <;> decide
    obtain ⟨lo, hlo0⟩ : ∃ lo, rd rangesL (2 * k) = lo := ⟨_, rfl⟩
    obtain ⟨hi, hhi0⟩ : ∃ hi, rd rangesL (2 * k + 1) = hi := ⟨_, rfl⟩
    rw [hlo0, hhi0] at hpar
    rw [hlo0] at hlob0
    have hlo := Aside0.mk hlo0
    have hhi := Aside0.mk hhi0
    have hlob := hlob0
    clear hlo0 hhi0 hlob0
    have hcase : k = 0 ∨ k = 1 ∨ k = 2 ∨ k = 3 ∨ k = 4 := by omega
    clear k0 k5 s0 s4 d0 d1 d2 d3
    rcases hcase with rfl | rfl | rfl | rfl | rfl
    · have g0 : w1.cell? ⟨1, 0, none⟩ = some (.int .i64 lo) := (hG1'.out.at_ 0 (by decide)).trans (by rw [← hlo.out]; rfl)
      have g1 : w1.cell? ⟨1, 1, none⟩ = some (.int .i64 hi) := (hG1'.out.at_ 1 (by decide)).trans (by rw [← hhi.out]; rfl)
      have kz : ((0 : Int) == 0) = true := by decide
      have kn : ((0 : Int) != 0) = false := by decide
      go_upto_region 4 with (fail)
      clear g0 g1
      have hk2 : (w1.alloc (.cells #[.int .i64 lo, .int .i64 hi] 156)).heap[q]? = some (.cells #[.int .i64 s, .int .i64 0, .int .i64 p, .int .i64 c, .slice A n m] 53 (0, 0)) := blk_alloc hk1 _
      have hr2 : (w1.alloc (.cells #[.int .i64 lo, .int .i64 hi] 156)).heap[w1.heap.size]? = some (.cells #[.int .i64 lo, .int .i64 hi] 156 (0, 0)) := by simpa using heap_alloc_new w1 (.cells #[.int .i64 lo, .int .i64 hi] 156)
      have hb2 := Aside0.mk (below_alloc hb1'.out (.cells #[.int .i64 lo, .int .i64 hi] 156))
      generalize w1.alloc (.cells #[.int .i64 lo, .int .i64 hi] 156) = w2 at hk2 hr2 hb2 ⊢
      generalize w1.heap.size = B at hr2 ⊢
      clear hk1 hb1' hG1' c1 c2 c3
      have c1 : w2.cell? ⟨q, 1, none⟩ = some (.int .i64 0) := (blk_cell hk2 1).trans rfl
      have c2 : w2.cell? ⟨q, 2, none⟩ = some (.int .i64 p) := (blk_cell hk2 2).trans rfl
      have c3 : w2.cell? ⟨q, 3, none⟩ = some (.int .i64 c) := (blk_cell hk2 3).trans rfl
      have r0 : w2.cell? ⟨B, 0, none⟩ = some (.int .i64 lo) := (blk_cell hr2 0).trans rfl
      have r1 : w2.cell? ⟨B, 1, none⟩ = some (.int .i64 hi) := (blk_cell hr2 1).trans rfl
      go_wp2_with (fail)
      refine (isSorted3.calls lo p hi _ _ (by simpa using heap_alloc_new _ _) hlob).mono ?_
      rintro e w3 ⟨rfl, hd⟩
      have hb3 := Aside0.mk (below_then (below_alloc hb2.out (.cells #[.int .i64 lo, .int .i64 p, .int .i64 hi] 3)) (by have := hb2.out.size; simp; omega) hd.below)
      have hk3 := (hd.below.block q (blk_lt (blk_alloc hk2 _))).trans (blk_alloc hk2 (.cells #[.int .i64 lo, .int .i64 p, .int .i64 hi] 3))
      clear hd hb2 hk2 hr2 c1 c2 c3 r0 r1
      have c1 : w3.cell? ⟨q, 1, none⟩ = some (.int .i64 0) := (blk_cell hk3 1).trans rfl
      have c3 : w3.cell? ⟨q, 3, none⟩ = some (.int .i64 c) := (blk_cell hk3 3).trans rfl
      rw [← hpar.out]
      cases hP : parR 0 p with
      | false =>
        have hres : vldB s 0 p c = false := by rw [hr'.out, hP]; rfl
        have hres' := Aside0.mk hres
        clear hres hP
        go_wp2
        go_ret
        exact ⟨by rw [hres'.out]; rfl, hb3.out⟩
      | true =>
        go_wp2_with (fail)
        refine (isSorted3.calls 0 c 4398046511104 _ _ (by simpa using heap_alloc_new _ _) (by decide)).mono ?_
        rintro e w4 ⟨rfl, hd⟩
        have hb4 := Aside0.mk (below_then (below_alloc hb3.out (.cells #[.int .i64 0, .int .i64 c, .int .i64 4398046511104] 3)) (by have := hb3.out.size; simp; omega) hd.below)
        have hk4 := (hd.below.block q (blk_lt (blk_alloc hk3 _))).trans (blk_alloc hk3 (.cells #[.int .i64 0, .int .i64 c, .int .i64 4398046511104] 3))
        clear hd hb3 hk3 c1 c3
        have c1 : w4.cell? ⟨q, 1, none⟩ = some (.int .i64 0) := (blk_cell hk4 1).trans rfl
        have c3 : w4.cell? ⟨q, 3, none⟩ = some (.int .i64 c) := (blk_cell hk4 3).trans rfl
        rw [show (decide (0 ≤ c) && decide (c ≤ 4398046511104)) = costR c from rfl]
        cases hC : costR c with
        | false =>
          have hres : vldB s 0 p c = false := by rw [hr'.out, hP, hC]; rfl
          have hres' := Aside0.mk hres
          clear hres hP hC
          go_wp2
          go_ret
          exact ⟨by rw [hres'.out]; rfl, hb4.out⟩
        | true =>
          have hres : vldB s 0 p c = (c == 0) := by rw [hr'.out, hP, hC]; rfl
          have hres' := Aside0.mk hres
          clear hres hP hC
          go_wp2
          go_ret
          exact ⟨by rw [hres'.out]; rfl, hb4.out⟩
    · have g0 : w1.cell? ⟨1, 2, none⟩ = some (.int .i64 lo) := (hG1'.out.at_ 2 (by decide)).trans (by rw [← hlo.out]; rfl)
      have g1 : w1.cell? ⟨1, 3, none⟩ = some (.int .i64 hi) := (hG1'.out.at_ 3 (by decide)).trans (by rw [← hhi.out]; rfl)
      have kz : ((1 : Int) == 0) = false := by decide
      have kn : ((1 : Int) != 0) = true := by decide
      go_upto_region 4 with (fail)
      clear g0 g1
      have hk2 : (w1.alloc (.cells #[.int .i64 lo, .int .i64 hi] 156)).heap[q]? = some (.cells #[.int .i64 s, .int .i64 1, .int .i64 p, .int .i64 c, .slice A n m] 53 (0, 0)) := blk_alloc hk1 _
      have hr2 : (w1.alloc (.cells #[.int .i64 lo, .int .i64 hi] 156)).heap[w1.heap.size]? = some (.cells #[.int .i64 lo, .int .i64 hi] 156 (0, 0)) := by simpa using heap_alloc_new w1 (.cells #[.int .i64 lo, .int .i64 hi] 156)
      have hb2 := Aside0.mk (below_alloc hb1'.out (.cells #[.int .i64 lo, .int .i64 hi] 156))
      generalize w1.alloc (.cells #[.int .i64 lo, .int .i64 hi] 156) = w2 at hk2 hr2 hb2 ⊢
      generalize w1.heap.size = B at hr2 ⊢
      clear hk1 hb1' hG1' c1 c2 c3
      have c1 : w2.cell? ⟨q, 1, none⟩ = some (.int .i64 1) := (blk_cell hk2 1).trans rfl
      have c2 : w2.cell? ⟨q, 2, none⟩ = some (.int .i64 p) := (blk_cell hk2 2).trans rfl
      have c3 : w2.cell? ⟨q, 3, none⟩ = some (.int .i64 c) := (blk_cell hk2 3).trans rfl
      have r0 : w2.cell? ⟨B, 0, none⟩ = some (.int .i64 lo) := (blk_cell hr2 0).trans rfl
      have r1 : w2.cell? ⟨B, 1, none⟩ = some (.int .i64 hi) := (blk_cell hr2 1).trans rfl
      go_wp2_with (fail)
      refine (isSorted3.calls lo p hi _ _ (by simpa using heap_alloc_new _ _) hlob).mono ?_
      rintro e w3 ⟨rfl, hd⟩
      have hb3 := Aside0.mk (below_then (below_alloc hb2.out (.cells #[.int .i64 lo, .int .i64 p, .int .i64 hi] 3)) (by have := hb2.out.size; simp; omega) hd.below)
      have hk3 := (hd.below.block q (blk_lt (blk_alloc hk2 _))).trans (blk_alloc hk2 (.cells #[.int .i64 lo, .int .i64 p, .int .i64 hi] 3))
      clear hd hb2 hk2 hr2 c1 c2 c3 r0 r1
      have c1 : w3.cell? ⟨q, 1, none⟩ = some (.int .i64 1) := (blk_cell hk3 1).trans rfl
      have c3 : w3.cell? ⟨q, 3, none⟩ = some (.int .i64 c) := (blk_cell hk3 3).trans rfl
      rw [← hpar.out]
      cases hP : parR 1 p with
      | false =>
        have hres : vldB s 1 p c = false := by rw [hr'.out, hP]; rfl
        have hres' := Aside0.mk hres
        clear hres hP
        go_wp2
        go_ret
        exact ⟨by rw [hres'.out]; rfl, hb3.out⟩
      | true =>
        go_wp2_with (fail)
        refine (isSorted3.calls 0 c 4398046511104 _ _ (by simpa using heap_alloc_new _ _) (by decide)).mono ?_
        rintro e w4 ⟨rfl, hd⟩
        have hb4 := Aside0.mk (below_then (below_alloc hb3.out (.cells #[.int .i64 0, .int .i64 c, .int .i64 4398046511104] 3)) (by have := hb3.out.size; simp; omega) hd.below)
        have hk4 := (hd.below.block q (blk_lt (blk_alloc hk3 _))).trans (blk_alloc hk3 (.cells #[.int .i64 0, .int .i64 c, .int .i64 4398046511104] 3))
        clear hd hb3 hk3 c1 c3
        have c1 : w4.cell? ⟨q, 1, none⟩ = some (.int .i64 1) := (blk_cell hk4 1).trans rfl
        have c3 : w4.cell? ⟨q, 3, none⟩ = some (.int .i64 c) := (blk_cell hk4 3).trans rfl
        rw [show (decide (0 ≤ c) && decide (c ≤ 4398046511104)) = costR c from rfl]
        cases hC : costR c with
        | false =>
          have hres : vldB s 1 p c = false := by rw [hr'.out, hP, hC]; rfl
          have hres' := Aside0.mk hres
          clear hres hP hC
          go_wp2
          go_ret
          exact ⟨by rw [hres'.out]; rfl, hb4.out⟩
        | true =>
          have hres : vldB s 1 p c = true := by rw [hr'.out, hP, hC]; rfl
          have hres' := Aside0.mk hres
          clear hres hP hC
          go_wp2
          go_ret
          exact ⟨by rw [hres'.out]; rfl, hb4.out⟩
    · have g0 : w1.cell? ⟨1, 4, none⟩ = some (.int .i64 lo) := (hG1'.out.at_ 4 (by decide)).trans (by rw [← hlo.out]; rfl)
      have g1 : w1.cell? ⟨1, 5, none⟩ = some (.int .i64 hi) := (hG1'.out.at_ 5 (by decide)).trans (by rw [← hhi.out]; rfl)
      have kz : ((2 : Int) == 0) = false := by decide
      have kn : ((2 : Int) != 0) = true := by decide
      go_upto_region 4 with (fail)
      clear g0 g1
      have hk2 : (w1.alloc (.cells #[.int .i64 lo, .int .i64 hi] 156)).heap[q]? = some (.cells #[.int .i64 s, .int .i64 2, .int .i64 p, .int .i64 c, .slice A n m] 53 (0, 0)) := blk_alloc hk1 _
      have hr2 : (w1.alloc (.cells #[.int .i64 lo, .int .i64 hi] 156)).heap[w1.heap.size]? = some (.cells #[.int .i64 lo, .int .i64 hi] 156 (0, 0)) := by simpa using heap_alloc_new w1 (.cells #[.int .i64 lo, .int .i64 hi] 156)
      have hb2 := Aside0.mk (below_alloc hb1'.out (.cells #[.int .i64 lo, .int .i64 hi] 156))
      generalize w1.alloc (.cells #[.int .i64 lo, .int .i64 hi] 156) = w2 at hk2 hr2 hb2 ⊢
      generalize w1.heap.size = B at hr2 ⊢
      clear hk1 hb1' hG1' c1 c2 c3
      have c1 : w2.cell? ⟨q, 1, none⟩ = some (.int .i64 2) := (blk_cell hk2 1).trans rfl
      have c2 : w2.cell? ⟨q, 2, none⟩ = some (.int .i64 p) := (blk_cell hk2 2).trans rfl
      have c3 : w2.cell? ⟨q, 3, none⟩ = some (.int .i64 c) := (blk_cell hk2 3).trans rfl
      have r0 : w2.cell? ⟨B, 0, none⟩ = some (.int .i64 lo) := (blk_cell hr2 0).trans rfl
      have r1 : w2.cell? ⟨B, 1, none⟩ = some (.int .i64 hi) := (blk_cell hr2 1).trans rfl
      go_wp2_with (fail)
      refine (isSorted3.calls lo p hi _ _ (by simpa using heap_alloc_new _ _) hlob).mono ?_
      rintro e w3 ⟨rfl, hd⟩
      have hb3 := Aside0.mk (below_then (below_alloc hb2.out (.cells #[.int .i64 lo, .int .i64 p, .int .i64 hi] 3)) (by have := hb2.out.size; simp; omega) hd.below)
      have hk3 := (hd.below.block q (blk_lt (blk_alloc hk2 _))).trans (blk_alloc hk2 (.cells #[.int .i64 lo, .int .i64 p, .int .i64 hi] 3))
      clear hd hb2 hk2 hr2 c1 c2 c3 r0 r1
      have c1 : w3.cell? ⟨q, 1, none⟩ = some (.int .i64 2) := (blk_cell hk3 1).trans rfl
      have c3 : w3.cell? ⟨q, 3, none⟩ = some (.int .i64 c) := (blk_cell hk3 3).trans rfl
      rw [← hpar.out]
      cases hP : parR 2 p with
      | false =>
        have hres : vldB s 2 p c = false := by rw [hr'.out, hP]; rfl
        have hres' := Aside0.mk hres
        clear hres hP
        go_wp2
        go_ret
        exact ⟨by rw [hres'.out]; rfl, hb3.out⟩
      | true =>
        go_wp2_with (fail)
        refine (isSorted3.calls 0 c 4398046511104 _ _ (by simpa using heap_alloc_new _ _) (by decide)).mono ?_
        rintro e w4 ⟨rfl, hd⟩
        have hb4 := Aside0.mk (below_then (below_alloc hb3.out (.cells #[.int .i64 0, .int .i64 c, .int .i64 4398046511104] 3)) (by have := hb3.out.size; simp; omega) hd.below)
        have hk4 := (hd.below.block q (blk_lt (blk_alloc hk3 _))).trans (blk_alloc hk3 (.cells #[.int .i64 0, .int .i64 c, .int .i64 4398046511104] 3))
        clear hd hb3 hk3 c1 c3
        have c1 : w4.cell? ⟨q, 1, none⟩ = some (.int .i64 2) := (blk_cell hk4 1).trans rfl
        have c3 : w4.cell? ⟨q, 3, none⟩ = some (.int .i64 c) := (blk_cell hk4 3).trans rfl
        rw [show (decide (0 ≤ c) && decide (c ≤ 4398046511104)) = costR c from rfl]
        cases hC : costR c with
        | false =>
          have hres : vldB s 2 p c = false := by rw [hr'.out, hP, hC]; rfl
          have hres' := Aside0.mk hres
          clear hres hP hC
          go_wp2
          go_ret
          exact ⟨by rw [hres'.out]; rfl, hb4.out⟩
        | true =>
          have hres : vldB s 2 p c = true := by rw [hr'.out, hP, hC]; rfl
          have hres' := Aside0.mk hres
          clear hres hP hC
          go_wp2
          go_ret
          exact ⟨by rw [hres'.out]; rfl, hb4.out⟩
    · have g0 : w1.cell? ⟨1, 6, none⟩ = some (.int .i64 lo) := (hG1'.out.at_ 6 (by decide)).trans (by rw [← hlo.out]; rfl)
      have g1 : w1.cell? ⟨1, 7, none⟩ = some (.int .i64 hi) := (hG1'.out.at_ 7 (by decide)).trans (by rw [← hhi.out]; rfl)
      have kz : ((3 : Int) == 0) = false := by decide
      have kn : ((3 : Int) != 0) = true := by decide
      go_upto_region 4 with (fail)
      clear g0 g1
      have hk2 : (w1.alloc (.cells #[.int .i64 lo, .int .i64 hi] 156)).heap[q]? = some (.cells #[.int .i64 s, .int .i64 3, .int .i64 p, .int .i64 c, .slice A n m] 53 (0, 0)) := blk_alloc hk1 _
      have hr2 : (w1.alloc (.cells #[.int .i64 lo, .int .i64 hi] 156)).heap[w1.heap.size]? = some (.cells #[.int .i64 lo, .int .i64 hi] 156 (0, 0)) := by simpa using heap_alloc_new w1 (.cells #[.int .i64 lo, .int .i64 hi] 156)
      have hb2 := Aside0.mk (below_alloc hb1'.out (.cells #[.int .i64 lo, .int .i64 hi] 156))
      generalize w1.alloc (.cells #[.int .i64 lo, .int .i64 hi] 156) = w2 at hk2 hr2 hb2 ⊢
      generalize w1.heap.size = B at hr2 ⊢
      clear hk1 hb1' hG1' c1 c2 c3
      have c1 : w2.cell? ⟨q, 1, none⟩ = some (.int .i64 3) := (blk_cell hk2 1).trans rfl
      have c2 : w2.cell? ⟨q, 2, none⟩ = some (.int .i64 p) := (blk_cell hk2 2).trans rfl
      have c3 : w2.cell? ⟨q, 3, none⟩ = some (.int .i64 c) := (blk_cell hk2 3).trans rfl
      have r0 : w2.cell? ⟨B, 0, none⟩ = some (.int .i64 lo) := (blk_cell hr2 0).trans rfl
      have r1 : w2.cell? ⟨B, 1, none⟩ = some (.int .i64 hi) := (blk_cell hr2 1).trans rfl
      go_wp2_with (fail)
      refine (isSorted3.calls lo p hi _ _ (by simpa using heap_alloc_new _ _) hlob).mono ?_
      rintro e w3 ⟨rfl, hd⟩
      have hb3 := Aside0.mk (below_then (below_alloc hb2.out (.cells #[.int .i64 lo, .int .i64 p, .int .i64 hi] 3)) (by have := hb2.out.size; simp; omega) hd.below)
      have hk3 := (hd.below.block q (blk_lt (blk_alloc hk2 _))).trans (blk_alloc hk2 (.cells #[.int .i64 lo, .int .i64 p, .int .i64 hi] 3))
      clear hd hb2 hk2 hr2 c1 c2 c3 r0 r1
      have c1 : w3.cell? ⟨q, 1, none⟩ = some (.int .i64 3) := (blk_cell hk3 1).trans rfl
      have c3 : w3.cell? ⟨q, 3, none⟩ = some (.int .i64 c) := (blk_cell hk3 3).trans rfl
      rw [← hpar.out]
      cases hP : parR 3 p with
      | false =>
        have hres : vldB s 3 p c = false := by rw [hr'.out, hP]; rfl
        have hres' := Aside0.mk hres
        clear hres hP
        go_wp2
        go_ret
        exact ⟨by rw [hres'.out]; rfl, hb3.out⟩
      | true =>
        go_wp2_with (fail)
        refine (isSorted3.calls 0 c 4398046511104 _ _ (by simpa using heap_alloc_new _ _) (by decide)).mono ?_
        rintro e w4 ⟨rfl, hd⟩
        have hb4 := Aside0.mk (below_then (below_alloc hb3.out (.cells #[.int .i64 0, .int .i64 c, .int .i64 4398046511104] 3)) (by have := hb3.out.size; simp; omega) hd.below)
        have hk4 := (hd.below.block q (blk_lt (blk_alloc hk3 _))).trans (blk_alloc hk3 (.cells #[.int .i64 0, .int .i64 c, .int .i64 4398046511104] 3))
        clear hd hb3 hk3 c1 c3
        have c1 : w4.cell? ⟨q, 1, none⟩ = some (.int .i64 3) := (blk_cell hk4 1).trans rfl
        have c3 : w4.cell? ⟨q, 3, none⟩ = some (.int .i64 c) := (blk_cell hk4 3).trans rfl
        rw [show (decide (0 ≤ c) && decide (c ≤ 4398046511104)) = costR c from rfl]
        cases hC : costR c with
        | false =>
          have hres : vldB s 3 p c = false := by rw [hr'.out, hP, hC]; rfl
          have hres' := Aside0.mk hres
          clear hres hP hC
          go_wp2
          go_ret
          exact ⟨by rw [hres'.out]; rfl, hb4.out⟩
        | true =>
          have hres : vldB s 3 p c = true := by rw [hr'.out, hP, hC]; rfl
          have hres' := Aside0.mk hres
          clear hres hP hC
          go_wp2
          go_ret
          exact ⟨by rw [hres'.out]; rfl, hb4.out⟩
    · have g0 : w1.cell? ⟨1, 8, none⟩ = some (.int .i64 lo) := (hG1'.out.at_ 8 (by decide)).trans (by rw [← hlo.out]; rfl)
      have g1 : w1.cell? ⟨1, 9, none⟩ = some (.int .i64 hi) := (hG1'.out.at_ 9 (by decide)).trans (by rw [← hhi.out]; rfl)
      have kz : ((4 : Int) == 0) = false := by decide
      have kn : ((4 : Int) != 0) = true := by decide
      go_upto_region 4 with (fail)
      clear g0 g1
      have hk2 : (w1.alloc (.cells #[.int .i64 lo, .int .i64 hi] 156)).heap[q]? = some (.cells #[.int .i64 s, .int .i64 4, .int .i64 p, .int .i64 c, .slice A n m] 53 (0, 0)) := blk_alloc hk1 _
      have hr2 : (w1.alloc (.cells #[.int .i64 lo, .int .i64 hi] 156)).heap[w1.heap.size]? = some (.cells #[.int .i64 lo, .int .i64 hi] 156 (0, 0)) := by simpa using heap_alloc_new w1 (.cells #[.int .i64 lo, .int .i64 hi] 156)
      have hb2 := Aside0.mk (below_alloc hb1'.out (.cells #[.int .i64 lo, .int .i64 hi] 156))
      generalize w1.alloc (.cells #[.int .i64 lo, .int .i64 hi] 156) = w2 at hk2 hr2 hb2 ⊢
      generalize w1.heap.size = B at hr2 ⊢
      clear hk1 hb1' hG1' c1 c2 c3
      have c1 : w2.cell? ⟨q, 1, none⟩ = some (.int .i64 4) := (blk_cell hk2 1).trans rfl
      have c2 : w2.cell? ⟨q, 2, none⟩ = some (.int .i64 p) := (blk_cell hk2 2).trans rfl
      have c3 : w2.cell? ⟨q, 3, none⟩ = some (.int .i64 c) := (blk_cell hk2 3).trans rfl
      have r0 : w2.cell? ⟨B, 0, none⟩ = some (.int .i64 lo) := (blk_cell hr2 0).trans rfl
      have r1 : w2.cell? ⟨B, 1, none⟩ = some (.int .i64 hi) := (blk_cell hr2 1).trans rfl
      go_wp2_with (fail)
      refine (isSorted3.calls lo p hi _ _ (by simpa using heap_alloc_new _ _) hlob).mono ?_
      rintro e w3 ⟨rfl, hd⟩
      have hb3 := Aside0.mk (below_then (below_alloc hb2.out (.cells #[.int .i64 lo, .int .i64 p, .int .i64 hi] 3)) (by have := hb2.out.size; simp; omega) hd.below)
      have hk3 := (hd.below.block q (blk_lt (blk_alloc hk2 _))).trans (blk_alloc hk2 (.cells #[.int .i64 lo, .int .i64 p, .int .i64 hi] 3))
      clear hd hb2 hk2 hr2 c1 c2 c3 r0 r1
      have c1 : w3.cell? ⟨q, 1, none⟩ = some (.int .i64 4) := (blk_cell hk3 1).trans rfl
      have c3 : w3.cell? ⟨q, 3, none⟩ = some (.int .i64 c) := (blk_cell hk3 3).trans rfl
      rw [← hpar.out]
      cases hP : parR 4 p with
      | false =>
        have hres : vldB s 4 p c = false := by rw [hr'.out, hP]; rfl
        have hres' := Aside0.mk hres
        clear hres hP
        go_wp2
        go_ret
        exact ⟨by rw [hres'.out]; rfl, hb3.out⟩
      | true =>
        go_wp2_with (fail)
        refine (isSorted3.calls 0 c 4398046511104 _ _ (by simpa using heap_alloc_new _ _) (by decide)).mono ?_
        rintro e w4 ⟨rfl, hd⟩
        have hb4 := Aside0.mk (below_then (below_alloc hb3.out (.cells #[.int .i64 0, .int .i64 c, .int .i64 4398046511104] 3)) (by have := hb3.out.size; simp; omega) hd.below)
        have hk4 := (hd.below.block q (blk_lt (blk_alloc hk3 _))).trans (blk_alloc hk3 (.cells #[.int .i64 0, .int .i64 c, .int .i64 4398046511104] 3))
        clear hd hb3 hk3 c1 c3
        have c1 : w4.cell? ⟨q, 1, none⟩ = some (.int .i64 4) := (blk_cell hk4 1).trans rfl
        have c3 : w4.cell? ⟨q, 3, none⟩ = some (.int .i64 c) := (blk_cell hk4 3).trans rfl
        rw [show (decide (0 ≤ c) && decide (c ≤ 4398046511104)) = costR c from rfl]
        cases hC : costR c with
        | false =>
          have hres : vldB s 4 p c = false := by rw [hr'.out, hP, hC]; rfl
          have hres' := Aside0.mk hres
          clear hres hP hC
          go_wp2
          go_ret
          exact ⟨by rw [hres'.out]; rfl, hb4.out⟩
        | true =>
          have hres : vldB s 4 p c = true := by rw [hr'.out, hP, hC]; rfl
          have hres' := Aside0.mk hres
          clear hres hP hC
          go_wp2
          go_ret
          exact ⟨by rw [hres'.out]; rfl, hb4.out⟩
end Go.Proofs.YtblbieenfghbdaaDoor.F
end

section
namespace Go.Proofs.YtblbieenfghbdaaDoor.F
open Go.RowKit Go.Proofs.YtblbieenfghbdaaDoor.D Go.Proofs.YtblbieenfghbdaaDoor.E
set_option linter.unusedVariables false
theorem gTabB : Tryd.prog.globalNamed "intervalmon/block.ranges" = some 1 := by kernel_rfl
theorem gTabBType : (Tryd.prog.globals[1]?).map (·.type) = some 157 := by kernel_rfl
theorem u157 : Tryd.prog.underlying 157 = some (.array 5 156) := by kernel_rfl
theorem u156 : Tryd.prog.underlying 156 = some (.array 2 3) := by kernel_rfl
theorem u3 : Tryd.prog.underlying 3 = some (.int .i64) := by kernel_rfl
theorem c157 : Tryd.prog.cellsOf 157 = 10 := by kernel_rfl
theorem c156 : Tryd.prog.cellsOf 156 = 2 := by kernel_rfl
theorem c3 : Tryd.prog.cellsOf 3 = 1 := by kernel_rfl
def rowsB : List (List Int) := [[0, 0], [1, 1073741824], [0, 1073741824], [1, 4096], [0, 1048576]]
/-- An array of five rows of two that reads as the table holds its numbers. -/
theorem cells_of_rows {H : Type} {enc : TypeId × Value → H} {w : World} {base : Nat} {sp : Nat → Bool} {held : Bool} {fuel : Nat} {cs : List Value} {p : List MemPlace}
    (h : DataW.trod enc Tryd.prog w base sp held fuel 157 cs = some (.agg (rowsB.map (Lib.tabData .i64)), p)) : ∀ i r, rowsB[i]? = some r → (cs.drop (i * 2)).take 2 = r.map fun z => Value.int .i64 z := by
  cases fuel with
  | zero => simp [DataW.trod] at h
  | succ fuel =>
    simp only [DataW.trod, u157, c156, c157] at h
    split at h
    · rename_i hl
      obtain ⟨xs, hm, hx⟩ := Option.map_eq_some_iff.1 h
      have hxs : xs.map (·.1) = rowsB.map (Lib.tabData .i64) := by
        have := congrArg Prod.fst hx
        simpa using this
      intro i r hr
      have hi : i < 5 := by
        have := (List.getElem?_eq_some_iff.1 hr).1
        simpa [rowsB] using this
      obtain ⟨b, hb, hf⟩ := Lib.mapM_at hm i i (by simp [hi])
      have h2 : (xs.map (·.1))[i]? = some b.1 := by simp [hb]
      rw [hxs] at h2
      simp only [List.getElem?_map, hr, Option.map_some, Option.some.injEq] at h2
      obtain ⟨b1, b2⟩ := b
      simp only at h2
      subst h2
      exact Lib.cells_of_tab u156 u3 c3 c156 hf
    · cases h
theorem globB_of {W : World} {a : String × DataW Unit} (h : laidMet Tryd.prog (a :: [("intervalmon/block.ranges", .agg (rowsB.map (Lib.tabData .i64)))]) W) : GlobB W := by
  obtain ⟨ps, ⟨_, _, _, _, _, q0, _, _, _, _, hq0, _⟩, _⟩ := h
  obtain ⟨g', t', cs, fuel, p, q, hg', ht', hvar, hd, _, _⟩ := hq0
  obtain rfl := Option.some.inj (gTabB.symm.trans hg')
  obtain rfl := Option.some.inj (gTabBType.symm.trans ht')
  have hr := cells_of_rows hd
  have hat : ∀ (j : Nat) (v : Int), rangesL[j]? = some v → cs[j]? = some (Value.int .i64 v) := by
    intro j v hj
    have hj10 : j < 10 := by
      have := (List.getElem?_eq_some_iff.1 hj).1
      simpa [rangesL] using this
    obtain ⟨r, hr0⟩ : ∃ r, rowsB[j / 2]? = some r := ⟨_, List.getElem?_eq_getElem (show j / 2 < rowsB.length by simp [rowsB]; omega)⟩
    have := congrArg (·[j % 2]?) (hr _ _ hr0)
    simp only [List.getElem?_take, List.getElem?_drop, List.getElem?_map] at this
    rw [if_pos (by omega), show j / 2 * 2 + j % 2 = j by omega] at this
    rw [← Array.getElem?_toList, this]
    have : j = 0 ∨ j = 1 ∨ j = 2 ∨ j = 3 ∨ j = 4 ∨ j = 5 ∨ j = 6 ∨ j = 7 ∨ j = 8 ∨ j = 9 := by omega
    rcases this with rfl | rfl | rfl | rfl | rfl | rfl | rfl | rfl | rfl | rfl <;> (simp [rowsB] at hr0; subst hr0; simp [rangesL] at hj; subst hj; rfl)
  intro j v hj
  have := World.var?_cell gTabB hvar j
  rw [this]
  exact hat j v hj
end Go.Proofs.YtblbieenfghbdaaDoor.F
end

section
namespace Go.Proofs.YtblbieenfghbdaaDoor.F
open Go.RowKit Go.Proofs.YtblbieenfghbdaaDoor.D Go.Proofs.YtblbieenfghbdaaDoorW.PrintWords Go.Proofs.YtblbieenfghbdaaDoorW.PrintLast Go.Proofs.YtblbieenfghbdaaDoorW.PrintMore
set_option linter.unusedVariables false
set_option linter.unusedSimpArgs false
/-- What lies below B, but for block g, stays. -/
structure FrG (B g : Nat) (w W : World) : Prop where
  os : W.os = w.os
  tape : W.tape = w.tape
  output : W.output = w.output
  size : w.heap.size ≤ W.heap.size
  block : ∀ k, k < B → k ≠ g → W.heap[k]? = w.heap[k]?
section
variable {B B' g b : Nat} {w W W1 : World}
theorem FrG.refl (B g : Nat) (w : World) : FrG B g w w := ⟨rfl, rfl, rfl, Nat.le_refl _, fun _ _ _ => rfl⟩
theorem FrG.trans (h : FrG B g w W) (k : FrG B g W W1) : FrG B g w W1 :=
  ⟨k.os.trans h.os, k.tape.trans h.tape, k.output.trans h.output, Nat.le_trans h.size k.size, fun i hi hn => (k.block i hi hn).trans (h.block i hi hn)⟩
theorem FrG.mono (h : FrG B g w W) (hb : B' ≤ B) : FrG B' g w W := ⟨h.os, h.tape, h.output, h.size, fun i hi hn => h.block i (Nat.lt_of_lt_of_le hi hb) hn⟩
theorem FrG.of_below (h : Below B w W) (g : Nat) : FrG B g w W := ⟨h.os, h.tape, h.output, h.size, fun i hi _ => h.block i hi⟩
theorem FrG.below (h : FrG B g w W) (hB : b ≤ B) (hg : b ≤ g) : Below b w W := ⟨h.os, h.tape, h.output, h.size, fun i hi => h.block i (Nat.lt_of_lt_of_le hi hB) (by omega)⟩
theorem FrG.set_ (h : FrG B g w W) (j : Nat) (u : Value) : FrG B g w (W.setCell ⟨g, j, none⟩ u) :=
  ⟨h.os, h.tape, h.output, by simpa using h.size, fun i hi hn => (Below.heap_setCell W ⟨g, j, none⟩ u i hn).trans (h.block i hi hn)⟩
theorem FrG.drew (h : FrG B g w W) : FrG B g w W.drew := ⟨h.os, h.tape, h.output, h.size, h.block⟩
theorem FrG.drewN (h : FrG B g w W) (m : Nat) : FrG B g w (W.drewN m) := ⟨h.os, h.tape, h.output, h.size, h.block⟩
theorem FrG.then_ (h : FrG B g w W) (hB : B ≤ W.heap.size) (k : Below W.heap.size W W1) : FrG B g w W1 := h.trans (FrG.of_below (k.mono hB) g)
theorem FrG.grown {row : Option Nat} (h : FrG B g w W) (hB : B ≤ W.heap.size) (hg : W.grownBy W1 row) (hr : ∀ k, row = some k → B ≤ k) : FrG B g w W1 :=
  h.trans (FrG.of_below ((Below.refl B W).grown hg hB hr) g)
theorem FrG.blk {k : Nat} {o : Obj} (h : FrG B g w W) (hk : w.heap[k]? = some o) (hB : k < B) (hn : k ≠ g) : W.heap[k]? = some o := (h.block k hB hn).trans hk
/-- The next frame begins where this one ends. -/
theorem FrG.later (h : FrG B g w W) (hB : B ≤ w.heap.size) (k : FrG W.heap.size g W W1) : FrG B g w W1 := h.trans (k.mono (Nat.le_trans hB h.size))
end
/-- A writer at block g, its bytes in a row of its own that lies at or beyond B. -/
structure Ww (B g : Nat) (W : World) (bs : List Int) (v : Value) : Prop where
  blk : W.heap[g]? = some (.cells #[v] 79 (0, 0))
  own : Kd.R (Kd.int .u8) 5 W B (fun k => k ≠ g) v bs
  hB : B ≤ W.heap.size
def WwE (B g : Nat) (W : World) (bs : List Int) : Prop := ∃ v, Ww B g W bs v
section
variable {B g : Nat} {W W1 : World} {bs bs1 : List Int} {v v1 : Value}
theorem Ww.lt (h : Ww B g W bs v) : g < W.heap.size := blk_lt h.blk
theorem WwE.lt (h : WwE B g W bs) : g < W.heap.size := by obtain ⟨v, h⟩ := h; exact h.lt
theorem WwE.hB (h : WwE B g W bs) : B ≤ W.heap.size := by obtain ⟨v, h⟩ := h; exact h.hB
theorem Ww.below (h : Ww B g W bs v) (hb : Below W.heap.size W W1) : Ww B g W1 bs v :=
  ⟨(hb.block g h.lt).trans h.blk, Kd.R_below h.own hb, Nat.le_trans h.hB hb.size⟩
theorem WwE.below (h : WwE B g W bs) (hb : Below W.heap.size W W1) : WwE B g W1 bs := by obtain ⟨v, h⟩ := h; exact ⟨v, h.below hb⟩
theorem Ww.drew (h : Ww B g W bs v) : Ww B g W.drew bs v := ⟨h.blk, Kd.R_drew h.own, h.hB⟩
/-- A new writer without bytes. -/
theorem WwE.new (hg : W.heap[g]? = some (.cells #[.slice none 0 0] 79 (0, 0))) (hB : B ≤ W.heap.size) : WwE B g W [] := ⟨_, hg, Kd.R_nil _ _ _ _ _, hB⟩
/-- The row has grown, its value is stored. -/
theorem Ww.append (h : Ww B g W bs v) (ho : Kd.R (Kd.int .u8) 5 W1 B (fun k => k ≠ g) v1 bs1) (hg : W.grownBy W1 v.ownBlock) : Ww B g (W1.setCell ⟨g, 0, none⟩ v1) bs1 v1 ∧ FrG B g W (W1.setCell ⟨g, 0, none⟩ v1) := by
  have hbk := blk_grown h.blk hg (fun e => h.own.1 g e.symm rfl)
  have hb : B ≤ W1.heap.size := Nat.le_trans h.hB hg.size
  refine ⟨⟨by simpa using blk_set hbk 0 v1, Kd.R_far (p := ⟨g, 0, none⟩) ho (fun k hk => hk) _, by simpa using hb⟩, ?_⟩
  exact ((FrG.refl B g W).grown h.hB hg (Kd.R_base h.own)).set_ 0 v1
end
/-- The varint of a number. -/
def uvN (n : Nat) : List Int := if h : n < 128 then [(n : Int)] else ((n % 128 + 128 : Nat) : Int) :: uvN (n / 128)
termination_by n
decreasing_by omega
theorem uvN_small {n : Nat} (h : n < 128) : uvN n = [(n : Int)] := by rw [uvN, dif_pos h]
theorem uvN_big {n : Nat} (h : 128 ≤ n) : uvN n = ((n % 128 + 128 : Nat) : Int) :: uvN (n / 128) := by rw [uvN, dif_neg (by omega)]
theorem uvN_len : ∀ (k n : Nat), n < 128 ^ (k + 1) → (uvN n).length ≤ k + 1
  | 0, n, h => by rw [uvN_small (by simpa using h)]; simp
  | k + 1, n, h => by
    by_cases c : n < 128
    · rw [uvN_small c]; simp
    · rw [uvN_big (by omega), List.length_cons]
      have := uvN_len k (n / 128) (by rw [Nat.pow_succ] at h; omega)
      omega
theorem uvN_ten {n : Nat} (h : n < 18446744073709551616) : (uvN n).length ≤ 10 := uvN_len 9 n (by omega)
theorem uvN_allB (n : Nat) : AllB (uvN n) := by
  induction n using Nat.strongRecOn with
  | ind n ih =>
    intro x hx
    by_cases h : n < 128
    · rw [uvN_small h] at hx
      have := List.mem_singleton.1 hx
      omega
    · rw [uvN_big (by omega)] at hx
      rcases List.mem_cons.1 hx with rfl | hx
      · omega
      · exact ih (n / 128) (by omega) x hx
theorem or128 (n : Nat) : bits .or .u8 ((n : Int) % 256) 128 = ((n % 128 + 128 : Nat) : Int) := by
  have key : ∀ y : Nat, y < 256 → y ||| 128 = y % 128 + 128 := by decide +kernel
  have e : (n : Int) % 256 = ((n % 256 : Nat) : Int) := by omega
  have h := u8_or_nat (n % 256) 128 (by omega) (by omega)
  rw [e, show (128 : Int) = ((128 : Nat) : Int) from rfl, h, key _ (by omega)]
  omega
set_option maxHeartbeats 4000000 in
set_option maxRecDepth 100000 in
theorem wire_Writer_Uint.calls (B g n : Nat) (bs : List Int) (w : World) (hI : WwE B g w bs) (hn : n < 18446744073709551616) (hl : bs.length < 1099511627776) :
    Calls Tryd.prog 57 #[.pointer (some ⟨g, 0, none⟩), .int .u64 (n : Int)] w fun e w' => e = .returned (.tuple #[]) ∧ WwE B g w' (bs ++ uvN n) ∧ FrG B g w w' := by
  have h10 := uvN_ten hn
  have hI' := Aside0.mk hI
  clear hI
  go_enter Tryd.func57, Tryd.ntmps57
  go_wp2
  go_loopg [1] ((uvN n).length) (fun kq v1 w' => ∃ (m : Nat) (cs : List Int), v1 = .int .u64 (m : Int) ∧ Aside0 (WwE B g w' cs) ∧ Aside0 (FrG B g w w') ∧ Aside0 (cs ++ uvN m = bs ++ uvN n) ∧ Aside0 ((uvN m).length = kq ∧ m < 18446744073709551616))
  case atStart => exact ⟨n, bs, rfl, hI', ⟨FrG.refl _ _ _⟩, ⟨rfl⟩, ⟨rfl, hn⟩⟩
  case round =>
    clear hI'
    obtain ⟨m, cs, rfl, hW, hF, he, hk⟩ := hrel
    obtain ⟨v, hv⟩ := hW.out
    have hcl : cs.length ≤ bs.length + 10 := by
      have h1 := congrArg List.length he.out
      simp only [List.length_append] at h1
      omega
    obtain ⟨A, c, rfl⟩ := Kd.R_slice hv.own
    have k0 : wr.cell? ⟨g, 0, none⟩ = some (.slice A cs.length c) := (blk_cell hv.blk 0).trans rfl
    have f0 := blk_frozen hv.blk 0
    by_cases c1 : m < 128
    · have cb : decide ((m : Int) ≥ 128) = false := decide_eq_false (by omega)
      have hm := uvN_small c1
      have hm' := Aside0.mk hm
      clear hm
      go_wp2_with (first | ((with_reducible refine gate_builtin (b := .append) (xs := #[.tmp 24, .tmp 27]) rfl ?_); at_builtin; refine Kd.R_append (Kd.int .u8) (w0 := wr) B rfl (.tmp 24) (.tmp 27) 23 5 (.int .u8 0) 1 rfl Tryd.underlying23 info5 rfl (by decide) (by omega) (.slice A cs.length c) cs ((m : Int)) [.int .u8 ((m : Int))] (fun k => k ≠ g) (fun _ => False) rfl rfl rfl (fun _ hk => hk.elim) ?aF1 hv.own (Below.refl _ _) hv.hB (by omega) ?_; (case aF1 => intro k_ hk; have h2 := hv.lt; omega); intro v2 w2 ho2 hb2 hg2 hat2; obtain ⟨A2, c2, rfl⟩ := Kd.R_slice ho2; have bk2 := blk_grown hv.blk hg2 (fun e => hv.own.1 g e.symm rfl); have f2 := blk_frozen bk2 0; have q2 : w2.cell? ⟨g, 0, none⟩ = some (.slice A cs.length c) := (blk_cell bk2 0).trans rfl; clear k0 f0))
      go_end0
      obtain ⟨hW2, hF2⟩ := hv.append ho2 hg2
      have hl2 : (cs ++ [(m : Int)]).length = cs.length + 1 := by simp
      rw [hl2] at hW2 hF2
      refine ⟨rfl, ⟨.slice A2 (cs.length + 1) c2, ?_⟩, hF.out.trans hF2⟩
      rw [← he.out, hm'.out]
      exact hW2
    · have cb : decide ((m : Int) ≥ 128) = true := decide_eq_true (by omega)
      have ho := Aside0.mk (or128 m)
      have hm := Aside0.mk (uvN_big (show 128 ≤ m by omega))
      clear c1
      go_wp2_with (first | ((with_reducible refine gate_builtin (b := .append) (xs := #[.tmp 12, .tmp 16]) rfl ?_); at_builtin; refine Kd.R_append (Kd.int .u8) (w0 := wr) B rfl (.tmp 12) (.tmp 16) 23 5 (.int .u8 0) 1 rfl Tryd.underlying23 info5 rfl (by decide) (by omega) (.slice A cs.length c) cs (bits .or .u8 ((m : Int) % 256) 128) [.int .u8 (bits .or .u8 ((m : Int) % 256) 128)] (fun k => k ≠ g) (fun _ => False) rfl rfl rfl (fun _ hk => hk.elim) ?aF2 hv.own (Below.refl _ _) hv.hB (by omega) ?_; (case aF2 => intro k_ hk; have h2 := hv.lt; omega); intro v2 w2 ho2 hb2 hg2 hat2; obtain ⟨A2, c2, rfl⟩ := Kd.R_slice ho2; have bk2 := blk_grown hv.blk hg2 (fun e => hv.own.1 g e.symm rfl); have f2 := blk_frozen bk2 0; have q2 : w2.cell? ⟨g, 0, none⟩ = some (.slice A cs.length c) := (blk_cell bk2 0).trans rfl; clear k0 f0))
      obtain ⟨hW2, hF2⟩ := hv.append ho2 hg2
      have hl2 : (cs ++ [bits .or .u8 ((m : Int) % 256) 128]).length = cs.length + 1 := by simp
      rw [hl2] at hW2 hF2
      have hx : (uvN (m / 128)).length + 1 = gk := by rw [← hk.out.1, hm.out, List.length_cons]
      cases gk with
      | zero => omega
      | succ j =>
        go_roundg j
        case measure => omega
        case rel =>
          refine ⟨m / 128, cs ++ [bits .or .u8 ((m : Int) % 256) 128], by first | rfl | simp, ⟨⟨_, hW2⟩⟩, ⟨hF.out.trans hF2⟩, ⟨?_⟩, ⟨by omega, by have := hk.out.2; omega⟩⟩
          rw [← he.out, hm.out, ho.out, List.append_assoc]
          rfl
theorem wire_zigzag_eq (n : Int) (h : I64 n) : wire_zigzag.f n = some (((zig n).toNat : Nat) : Int) := by
  have hz := zig_range n h
  rw [Int.toNat_of_nonneg hz.1, ← codec_zig_eq n h]
  rfl
set_option maxHeartbeats 4000000 in
set_option maxRecDepth 100000 in
theorem wire_Writer_Int.calls (B g : Nat) (n : Int) (bs : List Int) (w : World) (hI : WwE B g w bs) (hn : I64 n) (hl : bs.length < 1099511627776) :
    Calls Tryd.prog 76 #[.pointer (some ⟨g, 0, none⟩), .int .i64 n] w fun e w' => e = .returned (.tuple #[]) ∧ WwE B g w' (bs ++ uvN (zig n).toNat) ∧ FrG B g w w' := by
  have hz := zig_range n hn
  have hzz := Aside0.mk (wire_zigzag_eq n hn)
  have hlt : (zig n).toNat < 18446744073709551616 := by omega
  obtain ⟨z, hz2⟩ : ∃ z, (zig n).toNat = z := ⟨_, rfl⟩
  rw [hz2] at hzz hlt ⊢
  clear hz hz2
  have hI' := Aside0.mk hI
  have hBw := Aside0.mk hI.hB
  clear hI
  go_enter Tryd.func76, Tryd.ntmps76
  go_wp2_with (fail)
  refine (wire_zigzag.calls n (z : Int) w hzz.out).mono ?_
  rintro e w1 ⟨rfl, hd⟩
  replace hI' := Aside0.mk (hI'.out.below hd.below)
  have hF := Aside0.mk (FrG.of_below (hd.below.mono hBw.out) g)
  clear hd
  go_wp2_with (fail)
  refine (wire_Writer_Uint.calls B g z bs w1 hI'.out hlt hl).mono ?_
  rintro e w2 ⟨rfl, hW2, hF2⟩
  go_wp2
  go_end0
  exact ⟨rfl, hW2, hF.out.trans hF2⟩
set_option maxHeartbeats 4000000 in
set_option maxRecDepth 100000 in
theorem wire_Writer_Text.calls (B g : Nat) (s : ByteArray) (bs : List Int) (w : World) (hI : WwE B g w bs) (hs : s.size < 1099511627776) (hl : bs.length < 1099511627776) :
    Calls Tryd.prog 49 #[.pointer (some ⟨g, 0, none⟩), .string s] w fun e w' => e = .returned (.tuple #[]) ∧ WwE B g w' (bs ++ uvN s.size ++ bytesOf s) ∧ FrG B g w w' := by
  have hI' := Aside0.mk hI
  have h10 := uvN_ten (n := s.size) (by omega)
  clear hI
  go_enter Tryd.func49, Tryd.ntmps49
  go_wp2_with (fail)
  refine (wire_Writer_Uint.calls B g s.size bs w hI'.out (by omega) hl).mono ?_
  rintro e w1 ⟨rfl, hW1, hF1⟩
  have hF1' := Aside0.mk hF1
  clear hI' hF1
  obtain ⟨v, hv⟩ := hW1
  obtain ⟨cs, hcs⟩ : ∃ cs, bs ++ uvN s.size = cs := ⟨_, rfl⟩
  rw [hcs] at hv
  have hcl : cs.length < 1099511628000 := by rw [← hcs, List.length_append]; omega
  have hcs' := Aside0.mk hcs
  clear hcs
  obtain ⟨A, c, rfl⟩ := Kd.R_slice hv.own
  have k0 : w1.cell? ⟨g, 0, none⟩ = some (.slice A cs.length c) := (blk_cell hv.blk 0).trans rfl
  have f0 := blk_frozen hv.blk 0
  have ho := Kd.own_of_R hv.own
  go_wp2_with (first | ((with_reducible refine gate_builtin (b := .append) (xs := #[.tmp 13, .tmp 14]) rfl ?_); at_builtin; refine print_append_str (w0 := w1) B rfl (.tmp 13) (.tmp 14) 23 9 5 rfl Tryd.underlying23 Tryd.underlying9 info5 (.slice A cs.length c) cs s rfl rfl ho (Below.refl _ _) hv.hB (by omega) ?_; intro v2 w2 ho2 hb2 hg2; have bk2 := blk_grown hv.blk hg2 (fun e => hv.own.1 g e.symm rfl); have hR2 : Kd.R (Kd.int .u8) 5 w2 B (fun k => k ≠ g) v2 (cs ++ bytesOf s) := Kd.R_of_own (enc := Value.int .u8) (h1 := fun _ => rfl) ho2 (fun k hk e => own_ne ho2 bk2 (by decide) (by rw [hk, e])); clear ho2 ho; obtain ⟨A2, c2, rfl⟩ := Kd.R_slice hR2; have f2 := blk_frozen bk2 0; have q2 : w2.cell? ⟨g, 0, none⟩ = some (.slice A cs.length c) := (blk_cell bk2 0).trans rfl; clear k0 f0))
  go_end0
  obtain ⟨hW2, hF2⟩ := hv.append hR2 hg2
  rw [List.length_append] at hW2 hF2
  rw [hcs'.out]
  exact ⟨rfl, ⟨_, hW2⟩, hF1'.out.trans hF2⟩
theorem bytesOf_str (l : List Int) (h : AllB l) : bytesOf (strOfNums l) = l := by
  rw [bytesOf, strOfNums_data, List.map_map]
  have key : ∀ x, x ∈ l → ((fun b : UInt8 => (b.toNat : Int)) ∘ fun n : Int => UInt8.ofNat n.toNat) x = x := by
    intro x hx
    have h2 := h x hx
    simp only [Function.comp_apply, UInt8.toNat_ofNat']
    omega
  rw [List.map_congr_left key]
  simp
/-- A byte list behind its length. -/
def rawV (l : List Int) : List Int := uvN l.length ++ l
set_option maxHeartbeats 4000000 in
set_option maxRecDepth 100000 in
theorem wire_Writer_Raw.calls (B g : Nat) (A0 : Option Addr) (c0 : Nat) (l : List Int) (bs : List Int) (w : World) (hI : WwE B g w bs) (hr : Kd.C (Kd.int .u8) w A0 l.length l) (hb : AllB l) (hs : l.length < 1099511627776) (hl : bs.length < 1099511627776) :
    Calls Tryd.prog 50 #[.pointer (some ⟨g, 0, none⟩), .slice A0 l.length c0] w fun e w' => e = .returned (.tuple #[]) ∧ WwE B g w' (bs ++ rawV l) ∧ FrG B g w w' := by
  have hI' := Aside0.mk hI
  clear hI
  have kc := Kd.C_string (P := Tryd.prog) (c := c0) (dst := 9) Tryd.underlying23 Tryd.underlying5 Tryd.underlying9 hr
  have hsz : (strOfNums l).size = l.length := strOfNums_size l
  have hby := bytesOf_str l hb
  obtain ⟨s, hs2⟩ : ∃ s, strOfNums l = s := ⟨_, rfl⟩
  rw [hs2] at kc hsz hby
  have hby' := Aside0.mk hby
  have hsz' := Aside0.mk hsz
  clear hs2 hby hsz
  go_enter Tryd.func50, Tryd.ntmps50
  go_wp2_with (fail)
  refine (wire_Writer_Text.calls B g s bs w hI'.out (by rw [hsz'.out]; exact hs) hl).mono ?_
  rintro e w2 ⟨rfl, hW2, hF2⟩
  rw [hsz'.out, hby'.out, List.append_assoc] at hW2
  go_wp2
  go_end0
  exact ⟨rfl, hW2, hF2⟩
set_option maxHeartbeats 4000000 in
set_option maxRecDepth 100000 in
theorem wire_Writer_Done.calls (B g : Nat) (bs : List Int) (w : World) (hI : WwE B g w bs) (hl : bs.length < 2199023255552) :
    Calls Tryd.prog 52 #[.pointer (some ⟨g, 0, none⟩)] w fun e w' => ∃ v : Value, e = .returned v ∧ Kd.R (Kd.int .u8) 5 w' w.heap.size (fun _ => True) v bs ∧ Below w.heap.size w w' := by
  obtain ⟨v, hv⟩ := hI
  obtain ⟨A, c, rfl⟩ := Kd.R_slice hv.own
  have k0 : w.cell? ⟨g, 0, none⟩ = some (.slice A bs.length c) := (blk_cell hv.blk 0).trans rfl
  have hl2 : bs.length ≤ 140737488355328 := by omega
  go_enter Tryd.func52, Tryd.ntmps52
  go_wp2_with (first | (go_at_call 89; refine (slices_Clone.calls A c bs w (Kd.R_reads' hv.own).2.2 hl2).mono ?_; rintro e w1 ⟨v1, rfl, hR, hB⟩))
  go_ret
  exact ⟨_, rfl, hR, hB⟩
end Go.Proofs.YtblbieenfghbdaaDoor.F
end

section
namespace Go.Proofs.YtblbieenfghbdaaDoor.F
open Go.RowKit Go.Proofs.YtblbieenfghbdaaDoor.D Go.Proofs.YtblbieenfghbdaaDoorW.PrintWords
set_option linter.unusedVariables false
set_option linter.unusedSimpArgs false
theorem AllB.take {a : List Int} (ha : AllB a) (n : Nat) : AllB (a.take n) := fun y hy => ha y (List.mem_of_mem_take hy)
theorem AllB.drop {a : List Int} (ha : AllB a) (n : Nat) : AllB (a.drop n) := fun y hy => ha y (List.mem_of_mem_drop hy)
theorem allB_bytesOf (s : ByteArray) : AllB (bytesOf s) := fun x hx => by
  obtain ⟨b, _, rfl⟩ := List.mem_map.1 hx
  have := b.toNat_lt
  omega
/-- The number whose digits to the base 256 are the bytes, the lowest first. -/
def leV : List Int → Int
  | [] => 0
  | x :: l => x + 256 * leV l
theorem leV_range {l : List Int} (h : AllB l) : 0 ≤ leV l ∧ leV l < 256 ^ l.length := by
  induction l with
  | nil => simp [leV]
  | cons x l ih =>
    have h1 := ih (fun y hy => h y (List.mem_cons_of_mem _ hy))
    have h2 := h x List.mem_cons_self
    simp only [leV, List.length_cons, Int.pow_succ]
    omega
theorem leV_snoc (l : List Int) (x : Int) : leV (l ++ [x]) = leV l + x * 256 ^ l.length := by
  induction l with
  | nil => simp [leV]
  | cons y l ih =>
    simp only [List.cons_append, leV, ih, List.length_cons, Int.pow_succ]
    have e : x * (256 ^ l.length * 256) = 256 * (x * 256 ^ l.length) := by rw [← Int.mul_assoc, Int.mul_comm]
    rw [e, Int.mul_add]
    omega
/-- One more byte behind a word, as the program lays it there. -/
theorem or_step (w c : Int) (j : Nat) (hj : j < 8) (h0 : 0 ≤ w) (h1 : w < 256 ^ j) (c0 : 0 ≤ c) (c1 : c < 256) :
    bits .or .u64 w (IntKind.u64.wrap (c * 2 ^ (8 * j))) = w + c * 256 ^ j := by
  have hp : (256 : Int) ^ j = 2 ^ (8 * j) := by rw [Int.pow_mul]; rfl
  have hj8 : (2 : Int) ^ (8 * j) * 256 ≤ 18446744073709551616 := by
    have : j = 0 ∨ j = 1 ∨ j = 2 ∨ j = 3 ∨ j = 4 ∨ j = 5 ∨ j = 6 ∨ j = 7 := by omega
    rcases this with rfl | rfl | rfl | rfl | rfl | rfl | rfl | rfl <;> decide
  have hpos : (0 : Int) < 2 ^ (8 * j) := Int.pow_pos (by decide)
  have hc0 : 0 ≤ c * 2 ^ (8 * j) := Int.mul_nonneg c0 (Int.le_of_lt hpos)
  have hc1 : c * 2 ^ (8 * j) < 18446744073709551616 := by
    have := Int.mul_lt_mul_of_pos_right c1 hpos
    have e : (256 : Int) * 2 ^ (8 * j) = 2 ^ (8 * j) * 256 := Int.mul_comm _ _
    omega
  have hw1 : w < 18446744073709551616 := by rw [hp] at h1; omega
  have ew : IntKind.u64.wrap (c * 2 ^ (8 * j)) = c * 2 ^ (8 * j) := by
    rw [show ∀ n, IntKind.u64.wrap n = n % 18446744073709551616 from fun n => by simp [IntKind.wrap, IntKind.bits, IntKind.signed]]
    exact Int.emod_eq_of_lt hc0 hc1
  rw [ew, u64_or _ _ h0 hw1 hc0 hc1]
  obtain ⟨a, rfl⟩ := Int.eq_ofNat_of_zero_le h0
  obtain ⟨b, rfl⟩ := Int.eq_ofNat_of_zero_le c0
  have e2 : ((b : Int) * 2 ^ (8 * j)).toNat = b * 2 ^ (8 * j) := by
    have : ((b * 2 ^ (8 * j) : Nat) : Int) = (b : Int) * 2 ^ (8 * j) := by simp
    omega
  rw [e2, Int.toNat_natCast, hp]
  have hlt : a < 2 ^ (8 * j) := by
    rw [hp] at h1
    have : ((2 ^ (8 * j) : Nat) : Int) = 2 ^ (8 * j) := by simp
    omega
  have h := Nat.shiftLeft_add_eq_or_of_lt hlt b
  rw [Nat.shiftLeft_eq] at h
  rw [Nat.or_comm, ← h]
  simp
  omega
/-- The word at a place. -/
def wordAt (b : List Int) (i : Nat) : Int := leV ((b.drop (8 * i)).take 8)
/-- The words of a byte list. -/
def wordsV (b : List Int) : List Int := (List.range ((b.length + 7) / 8)).map (wordAt b)
/-- A step of the hash's state. -/
def mixV (s w : Int) : Int :=
  bits .xor .u64 (IntKind.u64.wrap (bits .xor .u64 s w * 11400714819323198485)) (IntKind.u64.wrap (bits .xor .u64 s w * 11400714819323198485) / 4294967296)
/-- The hash of a label's bytes and of a list of numbers. -/
def sumV (label : List Int) (l : List Int) : Int :=
  mixV (l.foldl (fun s n => mixV s (IntKind.u64.wrap n)) (mixV (mixV ((wordsV label).foldl mixV 0) label.length) l.length)) 0
/-- The hash of a label's bytes and of bytes. -/
def hashV (label b : List Int) : Int := sumV label ((wordsV b).map IntKind.i64.wrap ++ [(b.length : Int)])
theorem u64_range (n : Int) : 0 ≤ IntKind.u64.wrap n ∧ IntKind.u64.wrap n < 18446744073709551616 := by
  have e : IntKind.u64.wrap n = n % 18446744073709551616 := by simp [IntKind.wrap, IntKind.bits, IntKind.signed]
  rw [e]
  omega
theorem xor_range (a b : Int) : 0 ≤ bits .xor .u64 a b ∧ bits .xor .u64 a b < 18446744073709551616 := u64_range _
theorem mixV_range (s w : Int) : 0 ≤ mixV s w ∧ mixV s w < 18446744073709551616 := xor_range _ _
theorem sumV_range (label l : List Int) : 0 ≤ sumV label l ∧ sumV label l < 18446744073709551616 := mixV_range _ _
theorem hashV_range (label b : List Int) : 0 ≤ hashV label b ∧ hashV label b < 18446744073709551616 := sumV_range _ _
end Go.Proofs.YtblbieenfghbdaaDoor.F
end

section
namespace Go.Proofs.YtblbieenfghbdaaDoor.F
open Go.RowKit Go.Shelf Go.Proofs.YtblbieenfghbdaaDoor.D Go.Proofs.YtblbieenfghbdaaDoorW.PrintWords Go.Proofs.YtblbieenfghbdaaDoorW.PrintLast Go.Proofs.YtblbieenfghbdaaDoorW.PrintMore
attribute [local go_sem] Oper.semAt_some
set_option linter.unusedVariables false
set_option linter.unusedSimpArgs false
/-- The words of a list's first rounds. -/
def wordsUpto (b : List Int) (k : Nat) : List Int := (List.range k).map (wordAt b)
theorem wordsUpto_succ (b : List Int) (k : Nat) : wordsUpto b (k + 1) = wordsUpto b k ++ [wordAt b k] := by simp [wordsUpto, List.range_succ]
theorem wordsUpto_length (b : List Int) (k : Nat) : (wordsUpto b k).length = k := by simp [wordsUpto]
/-- What a round keeps: all below n₀, and the closure's box. -/
def KpB (n₀ Bs : Nat) (W W' : World) : Prop := ∀ k, k < n₀ ∨ k = Bs → W'.heap[k]? = W.heap[k]?
theorem KpB.t {n₀ Bs : Nat} {A B C : World} (h : KpB n₀ Bs A B) (k : KpB n₀ Bs B C) : KpB n₀ Bs A C := fun i hi => (k i hi).trans (h i hi)
theorem KpB.b {n₀ Bs : Nat} {w : World} (hn : n₀ ≤ w.heap.size) (hB : Bs < w.heap.size) (W : World) (l : Nat) (o o' : Obj) (hl : w.heap.size ≤ l) (h : W.heap[l]? = some o) (_ : o.isCells = false) (_ : o.isWalk = false) : KpB n₀ Bs W (W.putObj l o') :=
  fun k hk => World.putObj_heap_other (by omega)
theorem cell_same {W W' : World} {B : Nat} (h : W'.heap[B]? = W.heap[B]?) (j : Nat) : W'.cell? ⟨B, j, none⟩ = W.cell? ⟨B, j, none⟩ := by
  simp only [World.cell?, h]
theorem word_full (b : List Int) (k c : Nat) (hc : c = 8 ∨ c = b.length - 8 * k) (h8 : c ≤ 8) : leV ((b.drop (8 * k)).take c) = wordAt b k := by
  unfold wordAt
  rcases hc with rfl | hc
  · rfl
  · have e : (b.drop (8 * k)).length = c := by rw [List.length_drop]; omega
    rw [List.take_of_length_le (by omega), List.take_of_length_le (by omega)]
theorem word_step (b : List Int) (hb : AllB b) (k j : Nat) (hj : j < 8) (hl : 8 * k + j < b.length) :
    bits .or .u64 (leV ((b.drop (8 * k)).take j)) (IntKind.u64.wrap (rd b ((8 * k + j : Nat) : Int) * 2 ^ (8 * j))) = leV ((b.drop (8 * k)).take (j + 1)) := by
  have hr := rd_allB hb (8 * k + j) hl
  have hT := AllB.take (AllB.drop hb (8 * k)) j
  have hlen : ((b.drop (8 * k)).take j).length = j := by rw [List.length_take, List.length_drop]; omega
  have h1 := leV_range hT
  rw [hlen] at h1
  rw [or_step _ _ j hj h1.1 h1.2 hr.1 hr.2]
  have e : (b.drop (8 * k)).take (j + 1) = (b.drop (8 * k)).take j ++ [rd b ((8 * k + j : Nat) : Int)] := by
    rw [List.take_succ_eq_append_getElem (by rw [List.length_drop]; omega), List.getElem_drop]
    congr 2
    rw [rd, Int.toNat_natCast, List.getD_eq_getElem?_getD, List.getElem?_eq_getElem hl]
    rfl
  rw [e, leV_snoc, hlen]
theorem u64_byte (x : Int) (h0 : 0 ≤ x) (h1 : x < 256) : IntKind.u64.wrap x = x := by
  have e : IntKind.u64.wrap x = x % 18446744073709551616 := by simp [IntKind.wrap, IntKind.bits, IntKind.signed]
  rw [e]
  omega
theorem word_step_s (s : ByteArray) (k j : Nat) (hj : j < 8) (hl : 8 * k + j < s.size) :
    bits .or .u64 (leV (((bytesOf s).drop (8 * k)).take j)) (IntKind.u64.wrap (IntKind.u64.wrap ((s[8 * k + j]'hl).toNat : Int) * 2 ^ (8 * j))) = leV (((bytesOf s).drop (8 * k)).take (j + 1)) := by
  have hb := bt_at s ((8 * k + j : Nat) : Int) (by rw [Int.toNat_natCast]; exact hl)
  have e : ((s[8 * k + j]'hl).toNat : Int) = rd (bytesOf s) ((8 * k + j : Nat) : Int) := by
    rw [rd_bytesOf, ← hb]
    rfl
  have h256 := UInt8.toNat_lt (s[8 * k + j]'hl)
  rw [u64_byte ((s[8 * k + j]'hl).toNat : Int) (by omega) (by omega), e]
  exact word_step (bytesOf s) (allB_bytesOf s) k j hj (by rw [bytesOf_length]; exact hl)
set_option maxHeartbeats 4000000 in
set_option maxRecDepth 100000 in
/-- The closure that hash.words hands back for a string yields the string's words. -/
theorem words_string_stops (m : Nat) (hm : 1 ≤ m) (Bs : Nat) (s : ByteArray) (hs : s.size < 1099511627776) (w : World) (hc : w.cell? ⟨Bs, 0, none⟩ = some (.string s)) :
    SeqStopsK Fence.wide m Tryd.prog 138 #[.pointer (some ⟨Bs, 0, none⟩)] (fun x : Int => #[.int .u64 x]) (KpB 0 Bs) (fun xs => xs = wordsV (bytesOf s)) (fun _ => True) ((s.size + 7) / 8) w := fun l J Jx W hW hJ hJx hY h0 => by
  have hcW : W.cell? ⟨Bs, 0, none⟩ = some (.string s) := pw_cell_below hW hc
  obtain ⟨N, hN⟩ : ∃ N, (s.size + 7) / 8 = N := ⟨_, rfl⟩
  rw [hN] at hY
  refine callsIn_of_wp Tryd.func138 rfl trivial ?_ rfl
  simp only [Tryd.ntmps138, List.size_toArray, List.length_cons, List.length_nil, Nat.reduceAdd, Nat.reduceSub, Array.replicate_succ, Array.replicate_zero, List.push_toArray, List.append_toArray, List.nil_append, List.cons_append]
  gi_wp2
  gi_loopw [3] (fun p wr => ∃ (k : Nat), p = .int .i64 (8 * (k : Int)) ∧ Aside0 (k ≤ N) ∧ Aside0 (J (wordsUpto (bytesOf s) k) wr) ∧ wr.cell? ⟨Bs, 0, none⟩ = some (.string s)) (fun p wr => N - (intOf p / 8).toNat)
  case atStart => exact ⟨0, rfl, ⟨Nat.zero_le _⟩, ⟨h0⟩, hcW⟩
  case round =>
    obtain ⟨k, rfl, hk, hJs, hcw⟩ := hrel
    clear hcW hc h0
    by_cases hlt : 8 * k < s.size
    · have cb : decide (8 * (k : Int) < (s.size : Int)) = true := decide_eq_true (by omega)
      obtain ⟨fn, tmps, assign, body, hy, hR⟩ := hY (wordsUpto (bytesOf s) k) (wordAt (bytesOf s) k) wr hJs.out (by rw [wordsUpto_length]; omega)
      have hw1 : wrap64 (8 * (k : Int) + 8) = 8 * (k : Int) + 8 := wrap_in _ (by omega) (by omega)
      obtain ⟨c, hcc⟩ : ∃ c : Nat, (if (s.size : Int) < 8 * (k : Int) + 8 then (s.size : Int) else 8 * (k : Int) + 8) = 8 * (k : Int) + (c : Int) ∧ (c = 8 ∨ c = (bytesOf s).length - 8 * k) ∧ c ≤ 8 ∧ 8 * k + c ≤ s.size := by
        rw [bytesOf_length]
        by_cases h : (s.size : Int) < 8 * (k : Int) + 8
        · exact ⟨s.size - 8 * k, by rw [if_pos h]; omega, .inr rfl, by omega, by omega⟩
        · exact ⟨8, by rw [if_neg h]; rfl, .inl rfl, by omega, by omega⟩
      obtain ⟨hmn, hc1, hc2, hc3⟩ := hcc
      have hc1' := Aside0.mk hc1
      clear hc1
      gi_wp2
      obtain ⟨wo, rfl⟩ : ∃ wo : World, wo = wr := ⟨_, rfl⟩
      gi_loopw [4, 5] (fun v4 v5 W' => ∃ (j : Nat), v5 = .int .i64 (8 * (k : Int) + (j : Int)) ∧ v4 = .int .u64 (leV (((bytesOf s).drop (8 * k)).take j)) ∧ W' = wo ∧ j ≤ c) (fun v4 v5 _ => (8 * k + c - (intOf v5).toNat))
      case atStart => exact ⟨0, by simp, by simp [leV], rfl, Nat.zero_le _⟩
      case round =>
        obtain ⟨j, rfl, rfl, rfl, hj⟩ := hrel
        by_cases hin : j < c
        · have d1 : decide (8 * (k : Int) + (j : Int) < 8 * (k : Int) + (c : Int)) = true := decide_eq_true (by omega)
          have d2 : 8 * (k : Int) + (j : Int) < (s.size : Int) := by omega
          have d3 : 0 ≤ 8 * (k : Int) + (j : Int) := by omega
          have hst := Aside0.mk (word_step_s s k j (by omega) (by omega))
          gi_wp2
          go_roundw
          case rel => exact ⟨j + 1, congrArg (Value.int .i64) (by omega), congrArg (Value.int .u64) hst.out, trivial, by omega⟩
          case measure => simp [intOf]; omega
        · obtain rfl : j = c := by omega
          have hf := word_full (bytesOf s) k j hc1'.out hc2
          rw [hf]
          clear hf
          have d1 : decide (8 * (k : Int) + (j : Int) < 8 * (k : Int) + (j : Int)) = false := decide_eq_false (by omega)
          gi_wp2
          refine hR.mono ?_
          rintro e W3 (⟨rfl, hJ3, hk3⟩ | ⟨rfl, hJx3⟩)
          · have hcw3 : W3.cell? ⟨Bs, 0, none⟩ = some (.string s) := (cell_same (hk3 Bs (.inr rfl)) 0).trans hcw
            have hJ3' := Aside0.mk hJ3
            clear hJ3 hy
            gi_wp2
            go_roundw
            case rel => exact ⟨k + 1, congrArg (Value.int .i64) (by omega), ⟨by omega⟩, ⟨by rw [wordsUpto_succ]; exact hJ3'.out⟩, hcw3⟩
            case measure => simp [intOf]; omega
          · gi_wp2
            refine bodyPost_ret (results_none rfl _ _ _) rfl ?_
            exact ⟨⟨_, rfl⟩, .inr ⟨_, trivial, hJx3⟩⟩
    · have cb : decide (8 * (k : Int) < (s.size : Int)) = false := decide_eq_false (by omega)
      gi_wp2
      go_end0
      refine ⟨⟨_, rfl⟩, .inl ⟨_, ?_, hJs.out⟩⟩
      have hkN : k = N := by have := hk.out; omega
      rw [wordsUpto, wordsV, bytesOf_length, hN, hkN]
/-- What a round keeps beside a byte slice that is read: all below n₀, and the closure's box. -/
def KpR (n₀ Bs : Nat) (W W' : World) : Prop := Below n₀ W W' ∧ W'.heap[Bs]? = W.heap[Bs]?
theorem KpR.t {n₀ Bs : Nat} {A B C : World} (h : KpR n₀ Bs A B) (k : KpR n₀ Bs B C) : KpR n₀ Bs A C := ⟨h.1.trans k.1, k.2.trans h.2⟩
theorem KpR.b {n₀ Bs : Nat} {w : World} (hn : n₀ ≤ w.heap.size) (hB : Bs < w.heap.size) (W : World) (l : Nat) (o o' : Obj) (hl : w.heap.size ≤ l) (h : W.heap[l]? = some o) (h1 : o.isCells = false) (h2 : o.isWalk = false) : KpR n₀ Bs W (W.putObj l o') :=
  ⟨belowK_b hn W l o o' hl h h1 h2, World.putObj_heap_other (by omega)⟩
set_option maxHeartbeats 4000000 in
set_option maxRecDepth 100000 in
/-- The closure that hash.words hands back for a byte slice yields its words. -/
theorem words_bytes_stops (m : Nat) (hm : 1 ≤ m) (Bs : Nat) (A0 : Option Addr) (c0 : Nat) (b : List Int) (hb : AllB b) (hs : b.length < 1099511627776) (wR w : World) (hr : Kd.C (Kd.int .u8) wR A0 b.length b) (hw : Below wR.heap.size wR w) (hc : w.cell? ⟨Bs, 0, none⟩ = some (.slice A0 b.length c0)) :
    SeqStopsK Fence.wide m Tryd.prog 122 #[.pointer (some ⟨Bs, 0, none⟩)] (fun x : Int => #[.int .u64 x]) (KpR wR.heap.size Bs) (fun xs => xs = wordsV b) (fun _ => True) ((b.length + 7) / 8) w := fun l J Jx W hW hJ hJx hY h0 => by
  have hwW := Aside0.mk (below_then hw hw.size hW)
  have hcW : W.cell? ⟨Bs, 0, none⟩ = some (.slice A0 b.length c0) := pw_cell_below hW hc
  obtain ⟨N, hN⟩ : ∃ N, (b.length + 7) / 8 = N := ⟨_, rfl⟩
  rw [hN] at hY
  refine callsIn_of_wp Tryd.func122 rfl trivial ?_ rfl
  simp only [Tryd.ntmps122, List.size_toArray, List.length_cons, List.length_nil, Nat.reduceAdd, Nat.reduceSub, Array.replicate_succ, Array.replicate_zero, List.push_toArray, List.append_toArray, List.nil_append, List.cons_append]
  gi_wp2
  gi_loopw [3] (fun p wr => ∃ (k : Nat), p = .int .i64 (8 * (k : Int)) ∧ Aside0 (k ≤ N) ∧ Aside0 (J (wordsUpto b k) wr) ∧ wr.cell? ⟨Bs, 0, none⟩ = some (.slice A0 b.length c0) ∧ Aside0 (Below wR.heap.size wR wr)) (fun p wr => N - (intOf p / 8).toNat)
  case atStart => exact ⟨0, rfl, ⟨Nat.zero_le _⟩, ⟨h0⟩, hcW, hwW⟩
  case round =>
    obtain ⟨k, rfl, hk, hJs, hcw, hBw⟩ := hrel
    clear hcW hc h0 hwW
    by_cases hlt : 8 * k < b.length
    · have cb : decide (8 * (k : Int) < (b.length : Int)) = true := decide_eq_true (by omega)
      obtain ⟨ad, e, _⟩ := Kd.at_int (Kd.C_below hr hBw.out) (8 * (k : Int)) (by omega) (by omega)
      subst e
      obtain ⟨fn, tmps, assign, body, hy, hR⟩ := hY (wordsUpto b k) (wordAt b k) wr hJs.out (by rw [wordsUpto_length]; omega)
      have hw1 : wrap64 (8 * (k : Int) + 8) = 8 * (k : Int) + 8 := wrap_in _ (by omega) (by omega)
      obtain ⟨c, hcc⟩ : ∃ c : Nat, (if (b.length : Int) < 8 * (k : Int) + 8 then (b.length : Int) else 8 * (k : Int) + 8) = 8 * (k : Int) + (c : Int) ∧ (c = 8 ∨ c = b.length - 8 * k) ∧ c ≤ 8 ∧ 8 * k + c ≤ b.length := by
        by_cases h : (b.length : Int) < 8 * (k : Int) + 8
        · exact ⟨b.length - 8 * k, by rw [if_pos h]; omega, .inr rfl, by omega, by omega⟩
        · exact ⟨8, by rw [if_neg h]; rfl, .inl rfl, by omega, by omega⟩
      obtain ⟨hmn, hc1, hc2, hc3⟩ := hcc
      have hc1' := Aside0.mk hc1
      clear hc1
      gi_wp2
      obtain ⟨wo, rfl⟩ : ∃ wo : World, wo = wr := ⟨_, rfl⟩
      gi_loopw [4, 5] (fun v4 v5 W' => ∃ (j : Nat), v5 = .int .i64 (8 * (k : Int) + (j : Int)) ∧ v4 = .int .u64 (leV ((b.drop (8 * k)).take j)) ∧ W' = wo ∧ j ≤ c) (fun v4 v5 _ => (8 * k + c - (intOf v5).toNat))
      case atStart => exact ⟨0, by simp, by simp [leV], rfl, Nat.zero_le _⟩
      case round =>
        obtain ⟨j, rfl, rfl, rfl, hj⟩ := hrel
        by_cases hin : j < c
        · have d1 : decide (8 * (k : Int) + (j : Int) < 8 * (k : Int) + (c : Int)) = true := decide_eq_true (by omega)
          have d2 : 8 * (k : Int) + (j : Int) < (b.length : Int) := by omega
          have d3 : 0 ≤ 8 * (k : Int) + (j : Int) := by omega
          have hst := Aside0.mk (word_step b hb k j (by omega) (by omega))
          obtain ⟨ad', e, hx⟩ := Kd.at_int (Kd.C_below hr hBw.out) (8 * (k : Int) + (j : Int)) (by omega) (by omega)
          cases e
          rw [show (8 * (k : Int) + (j : Int)).toNat = 8 * k + j by omega] at hx
          have hby := rd_allB hb (8 * k + j) (by omega)
          rw [show (((8 * k + j : Nat) : Int)) = 8 * (k : Int) + (j : Int) by omega] at hby hst
          have hub := u64_byte (rd b (8 * (k : Int) + (j : Int))) hby.1 hby.2
          gi_wp2
          go_roundw
          case rel => exact ⟨j + 1, congrArg (Value.int .i64) (by omega), congrArg (Value.int .u64) hst.out, trivial, by omega⟩
          case measure => simp [intOf]; omega
        · obtain rfl : j = c := by omega
          have hf := word_full b k j hc1'.out hc2
          rw [hf]
          clear hf
          have d1 : decide (8 * (k : Int) + (j : Int) < 8 * (k : Int) + (j : Int)) = false := decide_eq_false (by omega)
          gi_wp2
          refine hR.mono ?_
          rintro e W3 (⟨rfl, hJ3, hk3⟩ | ⟨rfl, hJx3⟩)
          · have hcw3 : W3.cell? ⟨Bs, 0, none⟩ = some (.slice (some ad) b.length c0) := (cell_same hk3.2 0).trans hcw
            have hJ3' := Aside0.mk hJ3
            have hB3 := Aside0.mk (hBw.out.trans hk3.1)
            clear hJ3 hy
            gi_wp2
            go_roundw
            case rel => exact ⟨k + 1, congrArg (Value.int .i64) (by omega), ⟨by omega⟩, ⟨by rw [wordsUpto_succ]; exact hJ3'.out⟩, hcw3, hB3⟩
            case measure => simp [intOf]; omega
          · gi_wp2
            refine bodyPost_ret (results_none rfl _ _ _) rfl ?_
            exact ⟨⟨_, rfl⟩, .inr ⟨_, trivial, hJx3⟩⟩
    · have cb : decide (8 * (k : Int) < (b.length : Int)) = false := decide_eq_false (by omega)
      gi_wp2
      go_end0
      refine ⟨⟨_, rfl⟩, .inl ⟨_, ?_, hJs.out⟩⟩
      have hkN : k = N := by have := hk.out; omega
      rw [wordsUpto, wordsV, hN, hkN]
end Go.Proofs.YtblbieenfghbdaaDoor.F
end

section
namespace Go.Proofs.YtblbieenfghbdaaDoor.F
open Go.RowKit Go.Shelf Go.Proofs.YtblbieenfghbdaaDoor.D Go.Proofs.YtblbieenfghbdaaDoorW.PrintWords Go.Proofs.YtblbieenfghbdaaDoorW.PrintLast Go.Proofs.YtblbieenfghbdaaDoorW.PrintMore
attribute [local go_sem] Oper.semAt_some
set_option linter.unusedVariables false
set_option linter.unusedSimpArgs false
theorem hash_mix0.calls (a b : Int) (w : World) :
    Calls Tryd.prog 124 #[.int .u64 a, .int .u64 b] w fun e w' => e = .returned (.int .u64 (mixV a b)) ∧ w' = w := by
  go_enter Tryd.func124, Tryd.ntmps124
  go_wp2
  go_ret
  exact ⟨by first | rfl | simp [mixV], rfl⟩
theorem hash_words_string.calls (s : ByteArray) (w : World) :
    Calls Tryd.prog 123 #[.string s] w fun e w' => e = .returned (.func (.func 138) #[] #[.pointer (some ⟨w.heap.size, 0, none⟩)]) ∧ w' = w.alloc (.cells #[.string s] 9) := by
  go_enter Tryd.func123, Tryd.ntmps123
  go_wp2
  go_ret
  exact ⟨rfl, rfl⟩
theorem hash_words_bytes.calls (A : Option Addr) (n c : Nat) (w : World) :
    Calls Tryd.prog 93 #[.slice A n c] w fun e w' => e = .returned (.func (.func 122) #[] #[.pointer (some ⟨w.heap.size, 0, none⟩)]) ∧ w' = w.alloc (.cells #[.slice A n c] 23) := by
  go_enter Tryd.func93, Tryd.ntmps93
  go_wp2
  go_ret
  exact ⟨rfl, rfl⟩
/-- The hash's state in its box. -/
structure SumB (w W : World) (B : Nat) (z : Int) : Prop where
  blk : W.heap[B]? = some (.cells #[.int .u64 z] 87 (0, 0))
  hB : w.heap.size ≤ B
  bel : Below w.heap.size w W
theorem SumB.cells {w W : World} {B : Nat} {z : Int} (h : SumB w W B z) : W.cell? ⟨B, 0, none⟩ = some (.int .u64 z) ∧ W.frozen? ⟨B, 0, none⟩ = false := ⟨(blk_cell h.blk 0).trans rfl, blk_frozen h.blk 0⟩
theorem SumB.set {w W : World} {B : Nat} {z y : Int} (h : SumB w W B z) : SumB w (W.setCell ⟨B, 0, none⟩ (.int .u64 y)) B y := ⟨by simpa using blk_set h.blk 0 (.int .u64 y), h.hB, below_set h.bel h.hB⟩
theorem SumB.turn {w W W' : World} {B N : Nat} {z : Int} (h : SumB w W B z) {row : Option Nat} (hg : W.grownBy W' row) (hN : w.heap.size ≤ N) (hr : ∀ r, row = some r → N ≤ r ∧ ∃ o : Obj, W.heap[r]? = some o ∧ o.isCells = false) : SumB w W' B z :=
  ⟨blk_turn h.blk hg hr, h.hB, pw_below_grown h.bel row h.bel.size hg (fun k e => Nat.le_trans hN (hr k e).1)⟩
set_option maxHeartbeats 8000000 in
set_option maxRecDepth 100000 in
theorem hash_Sum.calls (s : ByteArray) (A1 : Option Addr) (c1 : Nat) (l : List Int) (w : World) (hr : Kd.C (Kd.int .i64) w A1 l.length l) (hs : s.size < 1099511627776) (hl : l.length < 1099511627776) :
    Calls Tryd.prog 94 #[.string s, .slice A1 l.length c1] w fun e w' => e = .returned (.int .u64 (sumV (bytesOf s) l)) ∧ Below w.heap.size w w' := by
  refine (callsIn_wide (n := 5)).1 ?_
  refine callsIn_of_wp_marks Tryd.func94 rfl trivial ?_ rfl
  simp only [Tryd.ntmps94, List.size_toArray, List.length_cons, List.length_nil, Nat.reduceAdd, Nat.reduceSub, Array.replicate_succ, Array.replicate_zero, List.push_toArray, List.append_toArray, List.nil_append, List.cons_append]
  gi_wp2_with (first | (refine ⟨trivial, ?_⟩; gi_at_call 123; refine (callsIn_wide.2 (hash_words_string.calls s _)).mono ?_; rintro e w2 ⟨rfl, rfl⟩))
  have hB0 : SumB w ((w.alloc (.cells #[.int .u64 0] 87)).alloc (.cells #[.string s] 9)) w.heap.size 0 :=
    ⟨blk_alloc (show _ = _ by simpa using heap_alloc_new w (.cells #[.int .u64 0] 87)) _, Nat.le_refl _, below_alloc (below_alloc (Below.refl _ _) _) _⟩
  have hS0 : ((w.alloc (.cells #[.int .u64 0] 87)).alloc (.cells #[.string s] 9)).cell? ⟨w.heap.size + 1, 0, none⟩ = some (.string s) :=
    (blk_cell (show _ = _ by simpa using heap_alloc_new (w.alloc (.cells #[.int .u64 0] 87)) (.cells #[.string s] 9)) 0).trans rfl
  have hsz : ((w.alloc (.cells #[.int .u64 0] 87)).alloc (.cells #[.string s] 9)).heap.size = w.heap.size + 2 := by simp
  obtain ⟨W0, hW0⟩ : ∃ W0, (w.alloc (.cells #[.int .u64 0] 87)).alloc (.cells #[.string s] 9) = W0 := ⟨_, rfl⟩
  rw [hW0] at hB0 hS0 hsz ⊢
  clear hW0
  refine wpIn_rangeFunc_ownF rfl (by omega) (gf := 138) (lb := #[.pointer (some ⟨w.heap.size + 1, 0, none⟩)]) rfl trivial (enters_of Tryd.func138 (by kernel_rfl) rfl)
    (words_string_stops 4 (by omega) (w.heap.size + 1) s hs W0 hS0) KpB.t (KpB.b (Nat.zero_le _) (by omega)) (Below.refl _ _) (fun _ => rfl)
    (fun pre W => SumB w W w.heap.size (pre.foldl mixV 0))
    (fun _ _ _ => False)
    (fun s A B row hs hg hr => hs.turn hg (by omega) hr)
    (fun _ _ _ _ _ hs _ _ => hs)
    hB0
    (fun x => { tmps := #[.string s, .slice A1 l.length c1, undef, undef, .int .u64 0, .pointer (some ⟨w.heap.size, 0, none⟩), .int .u64 x, undef, undef, .string s, .func (.func 138) #[] #[.pointer (some ⟨w.heap.size + 1, 0, none⟩)], .int .u64 x, undef, undef, undef, undef, undef, undef, undef, undef, undef, undef, undef, undef, undef, undef, undef, undef, undef, undef, undef, undef, undef, undef, undef, undef, undef], defers := [] }) ?assign ?body ?done ?stop
  case assign =>
    intro l x W K hK
    gi_wp2
    exact hK
  case body =>
    rintro l pre x W hW hlen
    obtain ⟨c0, f0⟩ := hW.cells
    gi_wp2_with (first | (refine ⟨trivial, ?_⟩; gi_at_call 124; refine (CallsIn.inRound l (callsIn_wide.2 (hash_mix0.calls (pre.foldl mixV 0) x _))).mono ?_; rintro e w' ⟨rfl, rfl⟩))
    refine ⟨KeepsOthers.setCell _ _ _, fun k hk => Below.heap_setCell _ _ _ k (by simp; omega), ?_⟩
    show SumB w _ w.heap.size (List.foldl mixV 0 (pre ++ [x]))
    rw [List.foldl_append, List.foldl_cons, List.foldl_nil]
    exact hW.set
  case done =>
    rintro D xs W hD rfl hW hK
    obtain ⟨c0, f0⟩ := hW.cells
    obtain ⟨z0, hz0⟩ : ∃ z0, (wordsV (bytesOf s)).foldl mixV 0 = z0 := ⟨_, rfl⟩
    rw [hz0] at hW c0
    have hz0' := Aside0.mk hz0
    clear hz0
    have hr' := Aside0.mk hr
    clear hr
    gi_wp2_with (first | (refine ⟨trivial, ?_⟩; gi_at_call 124; refine (callsIn_wide.2 (hash_mix0.calls _ _ _)).mono ?_; rintro e w' ⟨rfl, rfl⟩))
    have hW1 := Aside0.mk (hW.set (y := mixV (mixV z0 (s.size : Int)) (l.length : Int)))
    have hK1 := Aside0.mk ((KeepsOthers.setCell w' ⟨w.heap.size, 0, none⟩ (.int .u64 (mixV (mixV z0 (s.size : Int)) (l.length : Int)))).same D _ hK rfl)
    generalize w'.setCell ⟨w.heap.size, 0, none⟩ (.int .u64 (mixV (mixV z0 (s.size : Int)) (l.length : Int))) = w1 at hW1 hK1 ⊢
    clear hW hK c0 f0 w'
    gi_loopw [26] (fun v26 W => ∃ i : Nat, v26 = .int .i64 (i : Int) ∧ Aside0 (i ≤ l.length) ∧ Aside0 (SumB w W w.heap.size ((l.take i).foldl (fun s n => mixV s (IntKind.u64.wrap n)) (mixV (mixV z0 (s.size : Int)) (l.length : Int)))) ∧ Aside0 (W.heap[D]? = some (.deferred (some [])))) (fun v26 _ => l.length - (intOf v26).toNat)
    case atStart => exact ⟨0, rfl, ⟨Nat.zero_le _⟩, hW1, hK1⟩
    case round =>
      clear hW1 hK1
      obtain ⟨i, rfl, hi, hW, hK⟩ := hrel
      obtain ⟨c0, f0⟩ := hW.out.cells
      obtain ⟨z, hz⟩ : ∃ z, (l.take i).foldl (fun s n => mixV s (IntKind.u64.wrap n)) (mixV (mixV z0 (s.size : Int)) (l.length : Int)) = z := ⟨_, rfl⟩
      rw [hz] at c0 hW
      have hz' := Aside0.mk hz
      clear hz
      by_cases hlt : i < l.length
      · have d1 : decide ((i : Int) < (l.length : Int)) = true := decide_eq_true (by omega)
        have d2 : decide (i < l.length) = true := decide_eq_true hlt
        have p1 : (0 : Int) ≤ (i : Int) := by omega
        have q1 : (i : Int) < (l.length : Int) := by omega
        obtain ⟨ad, e, hx⟩ := Kd.at_int (Kd.C_below hr'.out hW.out.bel) (i : Int) p1 q1
        subst e
        rw [Int.toNat_natCast] at hx
        have hi1 : wrap64 ((i : Int) + 1) = (i : Int) + 1 := wrap_in _ (by omega) (by omega)
        have hst : (l.take (i + 1)).foldl (fun s n => mixV s (IntKind.u64.wrap n)) (mixV (mixV z0 (s.size : Int)) (l.length : Int)) = mixV z (IntKind.u64.wrap (rd l (i : Int))) := by
          rw [List.take_succ_eq_append_getElem hlt, List.foldl_append, hz'.out, List.foldl_cons, List.foldl_nil]
          rw [rd, Int.toNat_natCast, List.getD_eq_getElem?_getD, List.getElem?_eq_getElem hlt]
          rfl
        have hst' := Aside0.mk hst
        clear hst
        gi_wp2_with (first | (refine ⟨trivial, ?_⟩; gi_at_call 124; refine (callsIn_wide.2 (hash_mix0.calls _ _ _)).mono ?_; rintro e w' ⟨rfl, rfl⟩))
        go_roundw
        case rel => exact ⟨i + 1, by first | rfl | simp, ⟨by omega⟩, ⟨by rw [hst'.out]; exact hW.out.set⟩, ⟨(KeepsOthers.setCell _ _ _).same D _ hK.out rfl⟩⟩
        case measure => simp [intOf]; omega
      · have d1 : decide ((i : Int) < (l.length : Int)) = false := decide_eq_false (by omega)
        have d2 : decide (i < l.length) = false := decide_eq_false hlt
        have hK' := hK.out
        gi_wp2_with (first | (refine ⟨trivial, ?_⟩; gi_at_call 124; refine (callsIn_wide.2 (hash_mix0.calls _ _ _)).mono ?_; rintro e w' ⟨rfl, rfl⟩))
        have hres : sumV (bytesOf s) l = mixV z 0 := by
          have hil : i = l.length := by have := hi.out; omega
          have e := hz'.out
          rw [hil, List.take_length] at e
          rw [sumV, hz0'.out, bytesOf_length, e]
        refine ⟨by simp, .inl ⟨_, _, rfl, run_takeDeferred hK', ?_⟩⟩
        refine ⟨_, results_tmp rfl _ _ _, by rw [hres]; rfl, ?_⟩
        exact hW.out.bel.trans (belowK_b (w := w) (Nat.le_refl _) _ D _ _ (by omega) hK' rfl rfl)
  case stop =>
    rintro D c pre W _ _ h _
    exact h.elim
/-- The list of words in its box. -/
structure LstB (w W : World) (B : Nat) (zs : List Int) (v : Value) : Prop where
  blk : W.heap[B]? = some (.cells #[v] 22 (0, 0))
  hB : w.heap.size ≤ B
  own : Kd.R (Kd.int .i64) 3 W w.heap.size (fun k => k ≠ B) v zs
  bel : Below w.heap.size w W
theorem LstB.turn {w W W' : World} {B N : Nat} {zs : List Int} {v : Value} (h : LstB w W B zs v) {row : Option Nat} (hg : W.grownBy W' row) (hN : w.heap.size ≤ N) (hr : ∀ r, row = some r → N ≤ r ∧ ∃ o : Obj, W.heap[r]? = some o ∧ o.isCells = false) : LstB w W' B zs v := by
  have hown := Kd.R_bound h.own
  refine ⟨blk_turn h.blk hg hr, h.hB, Kd.R_mono (Kd.R_grown hown hg (fun k hk e => ?_)) (fun k hk => hk.1), pw_below_grown h.bel row h.bel.size hg (fun k e => Nat.le_trans hN (hr k e).1)⟩
  obtain ⟨_, _, _, q, _, cs, hc⟩ := hk
  obtain ⟨_, o, ho, hcl⟩ := hr k e.symm
  rw [hc] at ho
  cases ho
  cases hcl
theorem LstB.append {w W w2 : World} {B : Nat} {zs : List Int} {A A2 : Option Addr} {c c2 : Nat} {x : Int} {o : Obj} (h : LstB w W B zs (.slice A zs.length c))
    (ho2 : w2.ownsRow w.heap.size 3 1 (.slice A2 (zs.length + 1) c2) (zs.length + 1) (encs (Value.int .i64) zs ++ [.int .i64 x])) (hg2 : (W.alloc o).grownBy w2 (Value.slice A zs.length c).ownBlock) :
    LstB w (w2.setCell ⟨B, 0, none⟩ (.slice A2 (zs.length + 1) c2)) B (zs ++ [x]) (.slice A2 (zs.length + 1) c2) ∧ KeepsOthers W (w2.setCell ⟨B, 0, none⟩ (.slice A2 (zs.length + 1) c2)) ∧ Below w.heap.size W (w2.setCell ⟨B, 0, none⟩ (.slice A2 (zs.length + 1) c2)) ∧
      ∀ k cs t, W.heap[k]? = some (.cells cs t (0, 0)) → t ≠ 3 → k ≠ B → (w2.setCell ⟨B, 0, none⟩ (.slice A2 (zs.length + 1) c2)).heap[k]? = some (.cells cs t (0, 0)) := by
  have bk2 := blk_grown (blk_alloc h.blk o) hg2 (fun e => h.own.1 B e.symm rfl)
  have hbase := Kd.R_base h.own
  have hty := Kd.R_typed h.own
  have hb2 : Below w.heap.size W w2 := ((Below.refl w.heap.size W).alloc h.bel.size o).grown hg2 (by simp; have := h.bel.size; omega) hbase
  have hR2 : Kd.R (Kd.int .i64) 3 w2 w.heap.size (fun k => k ≠ B) (.slice A2 (zs.length + 1) c2) (zs ++ [x]) :=
    Kd.R_of_own (enc := Value.int .i64) (h1 := fun _ => rfl) (by rw [List.length_append, encs_append]; exact ho2) (fun k hk e => own_ne ho2 bk2 (by decide) (by rw [hk, e]))
  refine ⟨⟨by simpa using blk_set bk2 0 (.slice A2 (zs.length + 1) c2), h.hB, Kd.R_far (p := ⟨B, 0, none⟩) hR2 (fun k hk => hk) _, below_set (h.bel.trans hb2) h.hB⟩, ?_, hb2.setCell h.hB _, fun k cs t hk ht hn => ?_⟩
  · refine ((KeepsOthers.alloc W o).trans (KeepsOthers.of_grownBy hg2 (fun j ob hj hob => ?_))).trans (KeepsOthers.setCell _ _ _)
    obtain ⟨cells, hc⟩ := hty j hj
    rw [blk_alloc hc o] at hob
    cases hob
    rfl
  · refine (Below.heap_setCell _ _ _ k hn).trans (blk_grown (blk_alloc hk o) hg2 (fun e => ?_))
    obtain ⟨cells, hc⟩ := hty k e.symm
    rw [hk] at hc
    injection hc with hc
    injection hc with _ hc
    exact ht hc
set_option maxHeartbeats 8000000 in
set_option maxRecDepth 100000 in
theorem hash_Bytes.calls (s : ByteArray) (A1 : Option Addr) (c1 : Nat) (l : List Int) (w : World) (hr : Kd.C (Kd.int .u8) w A1 l.length l) (hb : AllB l) (hs : s.size < 1099511627776) (hl : l.length < 1099511627776) :
    Calls Tryd.prog 58 #[.string s, .slice A1 l.length c1] w fun e w' => e = .returned (.int .u64 (hashV (bytesOf s) l)) ∧ Below w.heap.size w w' := by
  refine (callsIn_wide (n := 5)).1 ?_
  refine callsIn_of_wp_marks Tryd.func58 rfl trivial ?_ rfl
  simp only [Tryd.ntmps58, List.size_toArray, List.length_cons, List.length_nil, Nat.reduceAdd, Nat.reduceSub, Array.replicate_succ, Array.replicate_zero, List.push_toArray, List.append_toArray, List.nil_append, List.cons_append]
  gi_wp2_with (first | (refine ⟨trivial, ?_⟩; gi_at_call 93; refine (callsIn_wide.2 (hash_words_bytes.calls A1 l.length c1 _)).mono ?_; rintro e w2 ⟨rfl, rfl⟩))
  have hB0 : LstB w ((w.alloc (.cells #[.slice none 0 0] 22)).alloc (.cells #[.slice A1 l.length c1] 23)) w.heap.size [] (.slice none 0 0) :=
    ⟨blk_alloc (show _ = _ by simpa using heap_alloc_new w (.cells #[.slice none 0 0] 22)) _, Nat.le_refl _, Kd.R_nil _ _ _ _ _, below_alloc (below_alloc (Below.refl _ _) _) _⟩
  have hX0 : ((w.alloc (.cells #[.slice none 0 0] 22)).alloc (.cells #[.slice A1 l.length c1] 23)).heap[w.heap.size + 1]? = some (.cells #[.slice A1 l.length c1] 23 (0, 0)) := by
    simpa using heap_alloc_new (w.alloc (.cells #[.slice none 0 0] 22)) (.cells #[.slice A1 l.length c1] 23)
  have hS0 : ((w.alloc (.cells #[.slice none 0 0] 22)).alloc (.cells #[.slice A1 l.length c1] 23)).cell? ⟨w.heap.size + 1, 0, none⟩ = some (.slice A1 l.length c1) :=
    (blk_cell (show _ = _ by simpa using heap_alloc_new (w.alloc (.cells #[.slice none 0 0] 22)) (.cells #[.slice A1 l.length c1] 23)) 0).trans rfl
  have hsz : ((w.alloc (.cells #[.slice none 0 0] 22)).alloc (.cells #[.slice A1 l.length c1] 23)).heap.size = w.heap.size + 2 := by simp
  obtain ⟨W0, hW0⟩ : ∃ W0, (w.alloc (.cells #[.slice none 0 0] 22)).alloc (.cells #[.slice A1 l.length c1] 23) = W0 := ⟨_, rfl⟩
  rw [hW0] at hB0 hS0 hX0 hsz ⊢
  clear hW0
  obtain ⟨i0, hi3, hz0, hz1, hz2⟩ := info_parts info3
  refine wpIn_rangeFunc_ownF rfl (by omega) (gf := 122) (lb := #[.pointer (some ⟨w.heap.size + 1, 0, none⟩)]) rfl trivial (enters_of Tryd.func122 (by kernel_rfl) rfl)
    (words_bytes_stops 4 (by omega) (w.heap.size + 1) A1 c1 l hb hl w W0 hr hB0.bel hS0) KpR.t (KpR.b (by omega) (by omega)) (Below.refl _ _) (fun _ => rfl)
    (fun pre W => (∃ v, LstB w W w.heap.size (pre.map IntKind.i64.wrap) v) ∧ W.heap[w.heap.size + 1]? = some (.cells #[.slice A1 l.length c1] 23 (0, 0)))
    (fun _ _ _ => False)
    (fun s A B row hs hg hr => by obtain ⟨⟨v, hv⟩, hb⟩ := hs; exact ⟨⟨v, hv.turn hg (by omega) hr⟩, blk_turn hb hg hr⟩)
    (fun _ _ _ _ _ hs _ _ => hs)
    ⟨⟨_, hB0⟩, hX0⟩
    (fun x => { tmps := #[.string s, .slice A1 l.length c1, undef, undef, .int .u64 0, .pointer (some ⟨w.heap.size, 0, none⟩), .int .u64 x, .slice A1 l.length c1, .func (.func 122) #[] #[.pointer (some ⟨w.heap.size + 1, 0, none⟩)], .int .u64 x, undef, undef, undef, undef, undef, undef, undef, undef, undef, undef, undef, undef], defers := [] }) ?assign ?body ?done ?stop
  case assign =>
    intro l x W K hK
    gi_wp2
    exact hK
  case body =>
    rintro l' pre x W ⟨⟨v, hW⟩, hX⟩ hlen
    obtain ⟨A, c, rfl⟩ := Kd.R_slice hW.own
    obtain ⟨zs, hzs⟩ : ∃ zs, pre.map IntKind.i64.wrap = zs := ⟨_, rfl⟩
    rw [hzs] at hW
    have hzl : (pre.map IntKind.i64.wrap).length = pre.length := List.length_map _
    rw [hzs] at hzl
    have hzs' := Aside0.mk hzs
    clear hzs
    have k0 : W.cell? ⟨w.heap.size, 0, none⟩ = some (.slice A zs.length c) := (blk_cell hW.blk 0).trans rfl
    have f0 := blk_frozen hW.blk 0
    have hlen' : zs.length < 2199023255552 := by omega
    have hzl' := Aside0.mk hzl
    clear hzl hlen
    have ho := Kd.own_of_R hW.own
    gi_wp2_with (first | (gi_at_builtin; refine wpListIn_append_own _ rfl _ _ 22 rfl w.heap.size 3 i0 (.int .i64 0) 1 8 Tryd.underlying22 hi3 hz0 hz1 hz2 rfl (by decide) (.slice A zs.length c) zs.length (encs (Value.int .i64) zs) rfl (pw_own_below ho (below_alloc (Below.refl _ _) _)) ⟨W.heap.size, 0, none⟩ 1 1 [_] rfl rfl (cell_one_new _ _ _) (by simp [Value.oneCell']) (by unfold maxLen; omega) (by omega) (by have := hW.bel.size; simp; omega) ?_; intro v2 w2 ho2 hg2 _; obtain ⟨A2, c2, hv2⟩ := own_slice ho2; subst hv2; have bk2 := blk_grown (blk_alloc hW.blk _) hg2 (fun e => hW.own.1 w.heap.size e.symm rfl); have f2 := blk_frozen bk2 0; have q2 : w2.cell? ⟨w.heap.size, 0, none⟩ = some (.slice A zs.length c) := (blk_cell bk2 0).trans rfl; clear k0 f0))
    obtain ⟨h1, h2, h3, h4⟩ := hW.append ho2 hg2
    refine ⟨h2, ⟨h3, ?_⟩, ⟨.slice A2 (zs.length + 1) c2, ?_⟩, h4 _ _ _ hX (by decide) (by omega)⟩
    · rw [h4 _ _ _ hX (by decide) (by omega), hX]
    · show LstB w _ w.heap.size (List.map IntKind.i64.wrap (pre ++ [x])) _
      rw [List.map_append, hzs'.out, List.map_cons, List.map_nil, i64_w]
      exact h1
  case done =>
    rintro D xs W hD rfl ⟨⟨v, hW⟩, _⟩ hK
    obtain ⟨A, c, rfl⟩ := Kd.R_slice hW.own
    obtain ⟨zs, hzs⟩ : ∃ zs, (wordsV l).map IntKind.i64.wrap = zs := ⟨_, rfl⟩
    rw [hzs] at hW
    have hzl : zs.length < 549755813888 := by rw [← hzs, List.length_map, wordsV, List.length_map, List.length_range]; omega
    have hzs' := Aside0.mk hzs
    clear hzs
    have k0 : W.cell? ⟨w.heap.size, 0, none⟩ = some (.slice A zs.length c) := (blk_cell hW.blk 0).trans rfl
    have f0 := blk_frozen hW.blk 0
    have ho := Kd.own_of_R hW.own
    gi_wp2_with (first | (gi_at_builtin; refine wpListIn_append_own _ rfl _ _ 22 rfl w.heap.size 3 i0 (.int .i64 0) 1 8 Tryd.underlying22 hi3 hz0 hz1 hz2 rfl (by decide) (.slice A zs.length c) zs.length (encs (Value.int .i64) zs) rfl (pw_own_below ho (below_alloc (Below.refl _ _) _)) ⟨W.heap.size, 0, none⟩ 1 1 [_] rfl rfl (cell_one_new _ _ _) (by simp [Value.oneCell']) (by unfold maxLen; omega) (by omega) (by have := hW.bel.size; simp; omega) ?_; intro v2 w2 ho2 hg2 _; obtain ⟨A2, c2, hv2⟩ := own_slice ho2; subst hv2))
    have hR2 : Kd.R (Kd.int .i64) 3 w2 w.heap.size (fun _ => True) (.slice A2 (zs.length + 1) c2) (zs ++ [(l.length : Int)]) :=
      Kd.R_of_own (enc := Value.int .i64) (h1 := fun _ => rfl) (by rw [List.length_append, encs_append]; exact ho2) (fun _ _ => trivial)
    have hC2 := (Kd.R_reads' hR2).2.2
    have hty := Kd.R_typed hW.own
    have hb2 : Below w.heap.size W w2 := ((Below.refl w.heap.size W).alloc hW.bel.size _).grown hg2 (by simp; have := hW.bel.size; omega) (Kd.R_base hW.own)
    have hK2 : w2.heap[D]? = some (.deferred (some [])) := blk_grown (blk_alloc hK _) hg2 (fun e => by
      obtain ⟨cells, hc⟩ := hty D e.symm
      rw [hK] at hc
      cases hc)
    have hbw := hW.bel.trans hb2
    have hll : (zs ++ [(l.length : Int)]).length = zs.length + 1 := by simp
    rw [hll] at hC2
    have hC2' := Aside0.mk hC2
    have hbw' := Aside0.mk hbw
    have hK2' := Aside0.mk hK2
    clear hC2 hbw hK2 hty hb2 hR2 ho2 hg2 ho k0 f0 hW hK
    refine ⟨trivial, ?_⟩
    refine (callsIn_wide.2 (hash_Sum.calls s A2 c2 (zs ++ [(l.length : Int)]) w2 (by rw [hll]; exact hC2'.out) hs (by rw [hll]; omega) |> fun h => by rw [hll] at h; exact h)).mono ?_
    rintro e w3 ⟨rfl, hb3⟩
    have hK3 := (hb3.block D (blk_lt hK2'.out)).trans hK2'.out
    have hbw3 := below_then hbw'.out hbw'.out.size hb3
    have hK3' := Aside0.mk hK3
    have hres : sumV (bytesOf s) (zs ++ [(l.length : Int)]) = hashV (bytesOf s) l := by rw [hashV, hzs'.out]
    rw [hres]
    clear hres hb3 hC2' hK2'
    gi_wp2
    refine ⟨by simp, .inl ⟨_, _, rfl, run_takeDeferred hK3'.out, ?_⟩⟩
    refine ⟨_, results_tmp rfl _ _ _, rfl, ?_⟩
    exact hbw3.trans (belowK_b (w := w) (Nat.le_refl _) _ D _ _ (by omega) hK3'.out rfl rfl)
  case stop =>
    rintro D c pre W _ _ h _
    exact h.elim
end Go.Proofs.YtblbieenfghbdaaDoor.F
end

section
namespace Go.Proofs.YtblbieenfghbdaaDoor.F
open Go.RowKit Go.Proofs.YtblbieenfghbdaaDoor.D Go.Proofs.YtblbieenfghbdaaDoor.E Go.Proofs.YtblbieenfghbdaaDoorW.PrintWords Go.Proofs.YtblbieenfghbdaaDoorW.PrintLast Go.Proofs.YtblbieenfghbdaaDoorW.PrintMore
set_option linter.unusedVariables false
set_option linter.unusedSimpArgs false
/-- The label of a block's hash. -/
def blockS : ByteArray := ⟨#[98, 108, 111, 99, 107]⟩
/-- The varints of some numbers. -/
def numsV (l : List Int) : List Int := l.flatMap fun n => uvN (zig n).toNat
/-- A block's core, and its bytes. -/
def coreV (s k p c : Int) (b : List Int) : List Int := numsV [s, k, p, c] ++ rawV b
def wholeV (core : List Int) : List Int := rawV core ++ uvN (hashV (bytesOf blockS) core).toNat
/-- The bytes of a block, or the error. -/
def encBlk (s k p c : Int) (l : List S44) : List Int × Int :=
  if vldB s k p c = true then (if (encRes l).2 = 0 then (wholeV (coreV s k p c (encRes l).1), 0) else ([], (encRes l).2)) else ([], 1)
theorem numsV_snoc (l : List Int) (n : Int) : numsV (l ++ [n]) = numsV l ++ uvN (zig n).toNat := by simp [numsV]
theorem numsV_all (l : List Int) : AllB (numsV l) := fun x hx => by
  obtain ⟨n, _, hn⟩ := List.mem_flatMap.1 hx
  exact uvN_allB _ x hn
theorem numsV_len (l : List Int) (h : ∀ n, n ∈ l → I64 n) : (numsV l).length ≤ 10 * l.length := by
  induction l with
  | nil => simp [numsV]
  | cons n l ih =>
    have h1 := ih (fun m hm => h m (List.mem_cons_of_mem _ hm))
    have h2 := zig_range n (h n List.mem_cons_self)
    have h3 := uvN_ten (n := (zig n).toNat) (by omega)
    have e : numsV (n :: l) = uvN (zig n).toNat ++ numsV l := by simp [numsV]
    rw [e, List.length_append, List.length_cons]
    omega
theorem rawV_all {l : List Int} (h : AllB l) : AllB (rawV l) := AllB.app (uvN_allB _) h
theorem rawV_len (l : List Int) (h : l.length < 1099511627776) : (rawV l).length ≤ l.length + 10 := by
  have := uvN_ten (n := l.length) (by omega)
  rw [rawV, List.length_append]
  omega
theorem encRes_all (l : List S44) : AllB (encRes l).1 := by
  unfold encRes
  split
  · exact fun x h => by cases h
  · split
    · exact claimsOf_all l
    · exact fun x h => by cases h
theorem encRes_len (l : List S44) : (encRes l).1.length ≤ 200000 := by
  unfold encRes
  split
  · simp
  · split
    · have := claimsOf_len l
      simp only
      omega
    · simp
/-- A writer stays where another one writes. -/
theorem WwE.frame {B g B2 g2 : Nat} {W W1 : World} {bs : List Int} {u : Array Value} (h : WwE B g W bs) (hf : FrG B2 g2 W W1) (hB2 : W.heap.size ≤ B2) (h2 : W.heap[g2]? = some (.cells u 79 (0, 0))) (hn : g ≠ g2) : WwE B g W1 bs := by
  obtain ⟨v, hv⟩ := h
  have hlt := hv.lt
  refine ⟨v, (hf.block g (by omega) hn).trans hv.blk, Kd.R_mono (Kd.R_step (Kd.R_types hv.own h2 (by simp [Kd.int, Kd.scalar])) (fun k hk hlt => hf.block k (by omega) hk.2)) (fun k hk => hk.1), Nat.le_trans hv.hB hf.size⟩
set_option maxHeartbeats 8000000 in
set_option maxRecDepth 100000 in
theorem block_Encode.calls (s k p c : Int) (A : Option Addr) (cap : Nat) (l : List S44) (w : World) (hr : Kd.C k44 w A l.length l) (hc : l.length ≤ cap) (is : I64 s) (ik : I64 k) (ip : I64 p) (ic : I64 c) (hG : Glob w) (hGB : GlobB w) :
    Calls Tryd.prog 32 #[.agg #[.int .i64 s, .int .i64 k, .int .i64 p, .int .i64 c, .slice A l.length cap]] w fun e w' => ∃ v, e = .returned (.tuple #[v, .int .i64 (encBlk s k p c l).2]) ∧ Kd.R (Kd.int .u8) 5 w' w.heap.size (fun _ => True) v (encBlk s k p c l).1 ∧ Below w.heap.size w w' := by
  have hu53 := Tryd.underlying53
  obtain ⟨res, hres⟩ : ∃ res, encBlk s k p c l = res := ⟨_, rfl⟩
  rw [hres]
  have hres' := Aside0.mk hres
  clear hres
  go_enter Tryd.func32, Tryd.ntmps32
  go_upto_region 1 with (fail)
  have hb1 := Aside0.mk (below_alloc (Below.refl w.heap.size w) (.cells #[.int .i64 s, .int .i64 k, .int .i64 p, .int .i64 c, .slice A l.length cap] 53))
  have hk1 : (w.alloc (.cells #[.int .i64 s, .int .i64 k, .int .i64 p, .int .i64 c, .slice A l.length cap] 53)).heap[w.heap.size]? = some (.cells #[.int .i64 s, .int .i64 k, .int .i64 p, .int .i64 c, .slice A l.length cap] 53 (0, 0)) := by
    simpa using heap_alloc_new w (.cells #[.int .i64 s, .int .i64 k, .int .i64 p, .int .i64 c, .slice A l.length cap] 53)
  obtain ⟨q, hq⟩ : ∃ q, w.heap.size = q := ⟨_, rfl⟩
  have hq' := Aside0.mk hq
  rw [hq] at hk1 ⊢
  clear hq
  generalize w.alloc (.cells #[.int .i64 s, .int .i64 k, .int .i64 p, .int .i64 c, .slice A l.length cap] 53) = w1 at hb1 hk1 ⊢
  have c0 : w1.cell? ⟨q, 0, none⟩ = some (.int .i64 s) := (blk_cell hk1 0).trans rfl
  have c1 : w1.cell? ⟨q, 1, none⟩ = some (.int .i64 k) := (blk_cell hk1 1).trans rfl
  have c2 : w1.cell? ⟨q, 2, none⟩ = some (.int .i64 p) := (blk_cell hk1 2).trans rfl
  have c3 : w1.cell? ⟨q, 3, none⟩ = some (.int .i64 c) := (blk_cell hk1 3).trans rfl
  have c4 : w1.cell? ⟨q, 4, none⟩ = some (.slice A l.length cap) := (blk_cell hk1 4).trans rfl
  have hGB' := Aside0.mk hGB
  have hG' := Aside0.mk hG
  have hr' := Aside0.mk hr
  have i4 := Aside0.mk (show ∀ n, n ∈ [s, k, p, c] → I64 n from fun n hn => by
    simp at hn
    rcases hn with rfl | rfl | rfl | rfl <;> assumption)
  clear hGB hG hr is ik ip ic
  go_wp2_with (fail)
  refine (block_valid.calls s k p c _ ⟨_, _, _, rfl⟩ w1 (hGB'.out.below hb1.out)).mono ?_
  rintro e w2 ⟨rfl, hB2⟩
  have hk2 := (hB2.block q (blk_lt hk1)).trans hk1
  have hb2 := Aside0.mk (below_then hb1.out hb1.out.size hB2)
  clear c0 c1 c2 c3 c4 hB2 hk1 hb1
  have hrs := hres'.out
  unfold encBlk at hrs
  cases hV : vldB s k p c with
  | false =>
    rw [if_neg (by rw [hV]; simp)] at hrs
    clear hk2 hV
    subst hrs
    go_wp2
    go_ret2
    exact ⟨_, rfl, Kd.R_nil _ _ _ _ (fun _ => True), hb2.out⟩
  | true =>
    rw [if_pos hV] at hrs
    have hrs' := Aside0.mk hrs
    clear hrs hV hres'
    have c4 : w2.cell? ⟨q, 4, none⟩ = some (.slice A l.length cap) := (blk_cell hk2 4).trans rfl
    obtain ⟨b, er, hbe⟩ : ∃ b er, encRes l = (b, er) := ⟨_, _, rfl⟩
    have hbl := Aside0.mk (encRes_len l)
    have hba := Aside0.mk (encRes_all l)
    rw [hbe] at hrs' hbl hba
    simp only [] at hrs' hbl hba
    have hE := Aside0.mk ((codec_Encode_res 0 l).trans (by rw [hbe]))
    clear hbe
    go_wp2_with (fail)
    refine (codec_Encode.calls 0 A cap l b er w2 (Kd.C_below hr'.out hb2.out) hc (hG'.out.below hb2.out) hE.out).mono ?_
    rintro e w3 ⟨v3, rfl, hR3, hB3⟩
    obtain ⟨Ab, cb, rfl⟩ := Kd.R_slice hR3
    have kb := Aside0.mk (Kd.R_reads' hR3).2
    have hk3 := (hB3.block q (blk_lt hk2)).trans hk2
    have hb3 := Aside0.mk (below_then hb2.out hb2.out.size hB3)
    clear c4 hB3 hk2 hb2 hR3 hE hr' hc
    by_cases he : er = 0
    · subst he
      have hrs := hrs'.out
      rw [if_pos rfl] at hrs
      subst hrs
      clear hrs'
      go_upto_region 7 with (fail)
      have hba1 := Aside0.mk (below_alloc (below_alloc (Below.refl w3.heap.size w3) (.cells #[.slice none 0 0] 79)) (.cells #[.slice none 0 0] 79))
      have hg1 : ((w3.alloc (.cells #[.slice none 0 0] 79)).alloc (.cells #[.slice none 0 0] 79)).heap[w3.heap.size]? = some (.cells #[.slice none 0 0] 79 (0, 0)) := blk_alloc (show _ = _ by simpa using heap_alloc_new w3 (.cells #[.slice none 0 0] 79)) _
      have hg2 : ((w3.alloc (.cells #[.slice none 0 0] 79)).alloc (.cells #[.slice none 0 0] 79)).heap[w3.heap.size + 1]? = some (.cells #[.slice none 0 0] 79 (0, 0)) := by simpa using heap_alloc_new (w3.alloc (.cells #[.slice none 0 0] 79)) (.cells #[.slice none 0 0] 79)
      have hk4 : ((w3.alloc (.cells #[.slice none 0 0] 79)).alloc (.cells #[.slice none 0 0] 79)).heap[q]? = some (.cells #[.int .i64 s, .int .i64 k, .int .i64 p, .int .i64 c, .slice A l.length cap] 53 (0, 0)) := blk_alloc (blk_alloc hk3 _) _
      have hg12 : w3.heap.size ≠ w3.heap.size + 1 := by omega
      have hle1 : w3.heap.size ≤ w3.heap.size := Nat.le_refl _
      have hle2 : w3.heap.size ≤ w3.heap.size + 1 := by omega
      obtain ⟨S3, hS3⟩ : ∃ S, w3.heap.size = S := ⟨_, rfl⟩
      obtain ⟨g1, hgg1⟩ : ∃ g, w3.heap.size = g := ⟨_, rfl⟩
      obtain ⟨g2, hgg2⟩ : ∃ g, w3.heap.size + 1 = g := ⟨_, rfl⟩
      generalize (w3.alloc (.cells #[.slice none 0 0] 79)).alloc (.cells #[.slice none 0 0] 79) = w5 at hba1 hg1 hg2 hk4 ⊢
      rw [hgg2] at hg2 hg12 hle2 ⊢
      rw [hgg1] at hg1 hg12 ⊢
      clear hk3
      have c0 : w5.cell? ⟨q, 0, none⟩ = some (.int .i64 s) := (blk_cell hk4 0).trans rfl
      have c1 : w5.cell? ⟨q, 1, none⟩ = some (.int .i64 k) := (blk_cell hk4 1).trans rfl
      have c2 : w5.cell? ⟨q, 2, none⟩ = some (.int .i64 p) := (blk_cell hk4 2).trans rfl
      have c3 : w5.cell? ⟨q, 3, none⟩ = some (.int .i64 c) := (blk_cell hk4 3).trans rfl
      go_wp2
      clear c0 c1 c2 c3
      have hi4 : (w5.alloc (.cells #[.int .i64 s, .int .i64 k, .int .i64 p, .int .i64 c] 3)).heap[w5.heap.size]? = some (.cells #[.int .i64 s, .int .i64 k, .int .i64 p, .int .i64 c] 3 (0, 0)) := by
        simpa using heap_alloc_new w5 (.cells #[.int .i64 s, .int .i64 k, .int .i64 p, .int .i64 c] 3)
      have hg1' : (w5.alloc (.cells #[.int .i64 s, .int .i64 k, .int .i64 p, .int .i64 c] 3)).heap[g1]? = some (.cells #[.slice none 0 0] 79 (0, 0)) := blk_alloc hg1 _
      have hg2' : (w5.alloc (.cells #[.int .i64 s, .int .i64 k, .int .i64 p, .int .i64 c] 3)).heap[g2]? = some (.cells #[.slice none 0 0] 79 (0, 0)) := blk_alloc hg2 _
      have hb6 := Aside0.mk (below_alloc hba1.out (.cells #[.int .i64 s, .int .i64 k, .int .i64 p, .int .i64 c] 3))
      have h41 : w5.heap.size ≠ g1 := by have := blk_lt hg1; omega
      generalize w5.alloc (.cells #[.int .i64 s, .int .i64 k, .int .i64 p, .int .i64 c] 3) = w6 at hi4 hg1' hg2' hb6 ⊢
      generalize w5.heap.size = B4 at hi4 h41 ⊢
      clear hg1 hg2 hk4 hba1
      have hB4 := blk_lt hi4
      have hB2 := blk_lt hg2'
      have hW6 := Aside0.mk (WwE.new hg1' (Nat.le_refl w6.heap.size))
      obtain ⟨B, hB⟩ : ∃ B, w6.heap.size = B := ⟨_, rfl⟩
      rw [hB] at hB4 hB2 hW6
      replace hB := Aside0.mk hB
      have hle1' := Aside0.mk hle1
      have hle2' := Aside0.mk hle2
      have hgn := Aside0.mk hg12
      have hgg := Aside0.mk (And.intro hgg1 hgg2)
      clear hg1' hle1 hle2 hg12 hgg1 hgg2 hS3 S3
      go_loopg [32] 4 (fun kq v32 W => ∃ i : Nat, v32 = .int .i64 (i : Int) ∧ Aside0 (i + kq = 4) ∧ Aside0 (WwE B g1 W (numsV ([s, k, p, c].take i))) ∧ Aside0 (FrG B g1 w6 W))
      case atStart => exact ⟨0, rfl, ⟨rfl⟩, hW6, ⟨FrG.refl _ _ _⟩⟩
      case round =>
        clear hW6
        obtain ⟨i, rfl, hi, hW, hF⟩ := hrel
        cases gk with
        | zero =>
          obtain rfl : i = 4 := hi.out
          have d1 : decide ((4 : Int) < 4) = false := by decide
          have hP := Aside0.mk (hb6.out.trans (hF.out.below (b := w3.heap.size) (by have := hb6.out.size; rw [← hB.out]; exact this) (by have := hgg.out.1; omega)))
          have hln := numsV_len [s, k, p, c] i4.out
          have hln' : (numsV [s, k, p, c]).length ≤ 40 := hln
          clear hln
          go_wp2_with (fail)
          refine (wire_Writer_Raw.calls B g1 Ab cb b (numsV [s, k, p, c]) wr hW.out (Kd.C_below kb.out.2 hP.out) hba.out (by have := hbl.out; omega) (by omega)).mono ?_
          rintro e w7 ⟨rfl, hW7, hF7⟩
          have hrl := rawV_len b (by have := hbl.out; omega)
          have hcl : (coreV s k p c b).length < 1000000 := by
            rw [coreV, List.length_append]
            have := hbl.out
            omega
          have hca : AllB (coreV s k p c b) := AllB.app (numsV_all _) (rawV_all hba.out)
          replace hW7 : WwE B g1 w7 (coreV s k p c b) := hW7
          obtain ⟨core, hco⟩ : ∃ core, coreV s k p c b = core := ⟨_, rfl⟩
          rw [hco] at hW7 hcl hca
          have hca' := Aside0.mk hca
          have hW7' := Aside0.mk hW7
          have hg27 := Aside0.mk ((hF.out.trans hF7).blk hg2' hB2 (fun e => hgn.out e.symm))
          have hP7 := Aside0.mk (hP.out.trans (hF7.below (b := w3.heap.size) (by have := hb6.out.size; rw [← hB.out]; exact this) (by have := hgg.out.1; omega)))
          clear hW7 hF7 hW hF hP hrl hln' hca
          go_wp2_with (fail)
          refine (wire_Writer_Done.calls B g1 core w7 hW7'.out (by omega)).mono ?_
          rintro e w8 ⟨v8, rfl, hR8, hB8⟩
          obtain ⟨A8, c8, rfl⟩ := Kd.R_slice hR8
          have k8 := Aside0.mk (Kd.R_reads' hR8).2.2
          have hg28 := Aside0.mk ((hB8.block g2 (blk_lt hg27.out)).trans hg27.out)
          have hW8 := Aside0.mk (hW7'.out.below hB8)
          have hP8 := Aside0.mk (below_then hP7.out hP7.out.size hB8)
          clear hR8 hB8 hW7' hg27 hP7
          go_wp2_with (fail)
          refine (wire_Writer_Raw.calls w8.heap.size g2 A8 c8 core [] w8 (WwE.new hg28.out (Nat.le_refl _)) k8.out hca'.out (by omega) (by simp)).mono ?_
          rintro e w9 ⟨rfl, hW9, hF9⟩
          have hC9 := Aside0.mk (hW8.out.frame hF9 (Nat.le_refl _) hg28.out hgn.out)
          have hP9 := Aside0.mk (hP8.out.trans (hF9.below (b := w3.heap.size) hP8.out.size hle2'.out))
          have hS8 := Aside0.mk hP8.out.size
          have hW9' := Aside0.mk hW9
          clear hW9 hF9 hW8 hg28 hP8 k8
          go_wp2_with (fail)
          refine (wire_Writer_Done.calls B g1 core w9 hC9.out (by omega)).mono ?_
          rintro e w10 ⟨v10, rfl, hR10, hB10⟩
          obtain ⟨A10, c10, rfl⟩ := Kd.R_slice hR10
          have k10 := Aside0.mk (Kd.R_reads' hR10).2.2
          have hP10 := Aside0.mk (below_then hP9.out hP9.out.size hB10)
          replace hW9' := Aside0.mk (hW9'.out.below hB10)
          clear hR10 hB10 hP9 hC9
          go_wp2_with (fail)
          refine (hash_Bytes.calls blockS A10 c10 core w10 k10.out hca'.out (by decide) (by omega)).mono ?_
          rintro e w11 ⟨rfl, hB11⟩
          have hhr := hashV_range (bytesOf blockS) core
          obtain ⟨h, hh⟩ : ∃ h : Nat, hashV (bytesOf blockS) core = (h : Int) := ⟨(hashV (bytesOf blockS) core).toNat, by omega⟩
          rw [hh] at hhr ⊢
          have hh' := Aside0.mk hh
          have hP11 := Aside0.mk (below_then hP10.out hP10.out.size hB11)
          replace hW9' := Aside0.mk (hW9'.out.below hB11)
          have hlt : h < 18446744073709551616 := by omega
          clear hh hhr hB11 hP10 k10
          have hrl := rawV_len core (by omega)
          go_wp2_with (fail)
          refine (wire_Writer_Uint.calls w8.heap.size g2 h ([] ++ rawV core) w11 hW9'.out hlt (by rw [List.nil_append]; omega)).mono ?_
          rintro e w12 ⟨rfl, hW12, hF12⟩
          have h10 := uvN_ten hlt
          have hP12 := Aside0.mk (hP11.out.trans (hF12.below (b := w3.heap.size) hS8.out hle2'.out))
          have hW12' := Aside0.mk hW12
          clear hW12 hF12 hP11 hW9'
          go_wp2_with (fail)
          refine (wire_Writer_Done.calls w8.heap.size g2 ([] ++ rawV core ++ uvN h) w12 hW12'.out (by rw [List.nil_append, List.length_append]; omega)).mono ?_
          rintro e w13 ⟨v13, rfl, hR13, hB13⟩
          have hfin : [] ++ rawV core ++ uvN h = wholeV (coreV s k p c b) := by
            rw [List.nil_append, wholeV, hco, hh'.out, Int.toNat_natCast]
          rw [hfin] at hR13
          have hP13 := below_then hP12.out hP12.out.size hB13
          have hle : w.heap.size ≤ w12.heap.size := Nat.le_trans hb3.out.size hP12.out.size
          have hR13' := Aside0.mk (Kd.R_lower hR13 hle)
          have hP13' := Aside0.mk (below_then hb3.out hb3.out.size hP13)
          clear hfin hR13 hB13 hP13 hle hW12' hP12 hco h10 hrl hcl
          go_wp2
          go_ret2
          exact ⟨_, rfl, hR13'.out, hP13'.out⟩
        | succ j =>
          have hi3 : i < 4 := by have := hi.out; omega
          have d1 : decide ((i : Int) < 4) = true := decide_eq_true (by omega)
          have d2 : decide (i < 4) = true := decide_eq_true hi3
          have hi1 : wrap64 ((i : Int) + 1) = (i : Int) + 1 := wrap_in _ (by omega) (by omega)
          have hx : wr.cell? ⟨B4, i, none⟩ = some (.int .i64 (rd [s, k, p, c] (i : Int))) := by
            rw [blk_cell (hF.out.blk hi4 hB4 h41)]
            have : i = 0 ∨ i = 1 ∨ i = 2 ∨ i = 3 := by omega
            rcases this with rfl | rfl | rfl | rfl <;> rfl
          have hm : rd [s, k, p, c] (i : Int) ∈ [s, k, p, c] := by
            have : i = 0 ∨ i = 1 ∨ i = 2 ∨ i = 3 := by omega
            rcases this with rfl | rfl | rfl | rfl <;> simp [rd]
          have hI := i4.out _ hm
          have hst := Aside0.mk (show numsV ([s, k, p, c].take (i + 1)) = numsV ([s, k, p, c].take i) ++ uvN (zig (rd [s, k, p, c] (i : Int))).toNat by
            rw [← numsV_snoc]
            have : i = 0 ∨ i = 1 ∨ i = 2 ∨ i = 3 := by omega
            rcases this with rfl | rfl | rfl | rfl <;> rfl)
          have hln := numsV_len ([s, k, p, c].take i) (fun n hn => i4.out n (List.mem_of_mem_take hn))
          have hln2 : ([s, k, p, c].take i).length ≤ 4 := Nat.le_trans (List.length_take_le _ _) (by omega)
          obtain ⟨x, hxx⟩ : ∃ x, rd [s, k, p, c] (i : Int) = x := ⟨_, rfl⟩
          rw [hxx] at hx hI hst
          have hln3 : (numsV ([s, k, p, c].take i)).length < 1099511627776 := by omega
          clear hxx hm hln hln2
          go_wp2_with (fail)
          refine (wire_Writer_Int.calls B g1 x _ wr hW.out hI hln3).mono ?_
          rintro e w7 ⟨rfl, hW7, hF7⟩
          go_wp2
          go_roundg j
          case measure => omega
          case rel => exact ⟨i + 1, by first | rfl | simp, ⟨by have := hi.out; omega⟩, ⟨by rw [hst.out]; exact hW7⟩, ⟨hF.out.trans hF7⟩⟩
    · have d0 : (er != 0) = true := bne_iff_ne.mpr he
      have hrs := hrs'.out
      rw [if_neg he] at hrs
      clear hrs' he
      subst hrs
      go_wp2
      go_ret2
      exact ⟨_, rfl, Kd.R_nil _ _ _ _ (fun _ => True), hb3.out⟩
end Go.Proofs.YtblbieenfghbdaaDoor.F
end

section
namespace Go.Proofs.YtblbieenfghbdaaDoor.F
open Go.RowKit Go.Proofs.YtblbieenfghbdaaDoor.D Go.Proofs.YtblbieenfghbdaaDoor.E Go.Proofs.YtblbieenfghbdaaDoorW.PrintWords Go.Proofs.YtblbieenfghbdaaDoorW.PrintLast Go.Proofs.YtblbieenfghbdaaDoorW.PrintMore
set_option linter.unusedVariables false
set_option linter.unusedSimpArgs false
theorem around_rng (a m : Int) (ha : I64 a) (hm : 0 < m) : 0 ≤ aroundV a m ∧ aroundV a m < m := by
  unfold aroundV
  by_cases c : a < 0
  · rw [if_pos c]
    have e : wrap64 (-wrap64 (a + 1)) = -(a + 1) := by unfold I64 at ha; unfold wrap64; omega
    rw [e]
    exact ⟨Int.tmod_nonneg m (by omega), Int.tmod_lt_of_pos _ hm⟩
  · rw [if_neg c]
    exact ⟨Int.tmod_nonneg m (by omega), Int.tmod_lt_of_pos _ hm⟩
set_option maxHeartbeats 4000000 in
set_option maxRecDepth 100000 in
theorem of_.calls (s k p c : Int) (A : Option Addr) (n m : Nat) (w : World) :
    Calls Tryd.prog 33 #[.agg #[.int .i64 s, .int .i64 k, .int .i64 p, .int .i64 c, .slice A n m]] w fun e w' => e = .returned (.agg #[.int .i64 s, .int .i64 k, .int .i64 p, .int .i64 c, .slice A n m]) ∧ Below w.heap.size w w' := by
  have hu47 := Tryd.underlying47
  have hu53 := Tryd.underlying53
  go_enter Tryd.func33, Tryd.ntmps33
  go_wp2
  refine bodyPost_ret (v := .agg #[.int .i64 s, .int .i64 k, .int .i64 p, .int .i64 c, .slice A n m]) (by simp [results, Tryd.results33, go_sem]) rfl ⟨rfl, ?_⟩
  exact below_alloc (below_alloc (Below.refl _ _) _) _
/-- One number of a block replaced. -/
def bentV (z x : Int) (b : Int × Int × Int × Int) : Int × Int × Int × Int :=
  if z = 0 then (x, b.2.1, b.2.2.1, b.2.2.2) else if z = 1 then (b.1, x, b.2.2.1, b.2.2.2) else if z = 2 then (b.1, b.2.1, x, b.2.2.2) else (b.1, b.2.1, b.2.2.1, x)
set_option maxHeartbeats 4000000 in
set_option maxRecDepth 100000 in
theorem Bent_.calls (s k p c : Int) (A : Option Addr) (n m : Nat) (at_ x : Int) (w : World) :
    Calls Tryd.prog 31 #[.agg #[.int .i64 s, .int .i64 k, .int .i64 p, .int .i64 c, .slice A n m], .int .i64 at_, .int .i64 x] w fun e w' => ∃ s' k' p' c', bentV (aroundV at_ 4) x (s, k, p, c) = (s', k', p', c') ∧ e = .returned (.agg #[.int .i64 s', .int .i64 k', .int .i64 p', .int .i64 c', .slice A n m]) ∧ Below w.heap.size w w' := by
  have hu47 := Tryd.underlying47
  obtain ⟨z, hz⟩ : ∃ z, aroundV at_ 4 = z := ⟨_, rfl⟩
  rw [hz]
  have hz' := Aside0.mk hz
  clear hz
  go_enter Tryd.func31, Tryd.ntmps31
  go_wp2_with (fail)
  refine (around_still at_ 4 _ (by decide)).mono ?_
  rintro e w2 ⟨rfl, rfl⟩
  rw [hz'.out]
  by_cases z0 : z = 0
  · subst z0
    go_wp2
    refine bodyPost_ret (v := .agg #[.int .i64 x, .int .i64 k, .int .i64 p, .int .i64 c, .slice A n m]) (by simp [results, Tryd.results31, go_sem]) rfl ⟨x, k, p, c, rfl, rfl, below_alloc (below_alloc (Below.refl _ _) _) _⟩
  · by_cases z1 : z = 1
    · subst z1
      go_wp2
      refine bodyPost_ret (v := .agg #[.int .i64 s, .int .i64 x, .int .i64 p, .int .i64 c, .slice A n m]) (by simp [results, Tryd.results31, go_sem]) rfl ⟨s, x, p, c, rfl, rfl, below_alloc (below_alloc (Below.refl _ _) _) _⟩
    · by_cases z2 : z = 2
      · subst z2
        go_wp2
        refine bodyPost_ret (v := .agg #[.int .i64 s, .int .i64 k, .int .i64 x, .int .i64 c, .slice A n m]) (by simp [results, Tryd.results31, go_sem]) rfl ⟨s, k, x, c, rfl, rfl, below_alloc (below_alloc (Below.refl _ _) _) _⟩
      · have b0 : (z == 0) = false := beq_eq_false_iff_ne.mpr z0
        have b1 : (z == 1) = false := beq_eq_false_iff_ne.mpr z1
        have b2 : (z == 2) = false := beq_eq_false_iff_ne.mpr z2
        have hbv := Aside0.mk (show bentV z x (s, k, p, c) = (s, k, p, x) by rw [bentV, if_neg z0, if_neg z1, if_neg z2])
        clear z0 z1 z2
        go_wp2
        refine bodyPost_ret (v := .agg #[.int .i64 s, .int .i64 k, .int .i64 p, .int .i64 x, .slice A n m]) (by simp [results, Tryd.results31, go_sem]) rfl ⟨s, k, p, x, hbv.out, rfl, below_alloc (below_alloc (Below.refl _ _) _) _⟩
theorem numsV_four' (s k p c : Int) : numsV [s, k, p, c] = uvN (zig s).toNat ++ uvN (zig k).toNat ++ uvN (zig p).toNat ++ uvN (zig c).toNat := by simp [numsV]
theorem blk0_enc : encBlk 2 3 5 1 [] = (wholeV [4, 6, 10, 2, 1, 0], 0) := by
  have hv : vldB 2 3 5 1 = true := by decide +kernel
  have he : encRes [] = ([0], 0) := by decide +kernel
  have hc : coreV 2 3 5 1 [0] = [4, 6, 10, 2, 1, 0] := by
    have u4 : uvN 4 = [4] := uvN_small (by decide)
    have u6 : uvN 6 = [6] := uvN_small (by decide)
    have u10 : uvN 10 = [10] := uvN_small (by decide)
    have u2 : uvN 2 = [2] := uvN_small (by decide)
    have u1 : uvN 1 = [1] := uvN_small (by decide)
    rw [coreV, numsV_four', rawV]
    show uvN 4 ++ uvN 6 ++ uvN 10 ++ uvN 2 ++ (uvN 1 ++ [0]) = _
    rw [u4, u6, u10, u2, u1]
    rfl
  rw [encBlk, if_pos hv, he, if_pos rfl, hc]
theorem blk1_enc : encBlk 0 0 0 1 [] = ([], 1) := by
  have hv : vldB 0 0 0 1 = false := by decide +kernel
  rw [encBlk, if_neg (by rw [hv]; simp)]
set_option maxHeartbeats 8000000 in
set_option maxRecDepth 100000 in
theorem lives18.calls (w : World) (hG : Glob w) (hGB : GlobB w) :
    Calls Tryd.prog 35 #[] w fun e w' => e = .returned (.bool true) ∧ Below w.heap.size w w' := by
  have hi0 : I64 0 := by unfold I64; omega
  have hi1 : I64 1 := by unfold I64; omega
  have hi2 : I64 2 := by unfold I64; omega
  have hi3 : I64 3 := by unfold I64; omega
  have hi5 : I64 5 := by unfold I64; omega
  have h1 := Aside0.mk (block_Encode.calls 2 3 5 1 none 0 [] w (Kd.C_nil _ _) (Nat.le_refl _) hi2 hi3 hi5 hi1 hG hGB)
  rw [blk0_enc] at h1
  have hl : ([4, 6, 10, 2, 1, 0] : List Int).length = 6 := rfl
  have hca : AllB [4, 6, 10, 2, 1, 0] := by
    intro x hx
    simp at hx
    rcases hx with rfl | rfl | rfl | rfl | rfl | rfl <;> omega
  obtain ⟨core, hco⟩ : ∃ core : List Int, [4, 6, 10, 2, 1, 0] = core := ⟨_, rfl⟩
  have hco' := Aside0.mk hco
  rw [hco] at h1 hl hca
  clear hco
  have hG' := Aside0.mk hG
  have hGB' := Aside0.mk hGB
  have hca' := Aside0.mk hca
  have hl' := Aside0.mk hl
  clear hG hGB hca hl
  go_enter Tryd.func35, Tryd.ntmps35
  go_wp2_with (fail)
  refine h1.out.mono ?_
  clear h1
  rintro e w1 ⟨v1, rfl, hR1, hB1⟩
  obtain ⟨A1, c1, rfl⟩ := Kd.R_slice hR1
  have k1 := Aside0.mk (Kd.R_reads' hR1).2
  have hr1 := Aside0.mk hB1
  clear hR1 hB1
  go_wp2_with (fail)
  have h2 := block_Encode.calls 0 0 0 1 none 0 [] w1 (Kd.C_nil _ _) (Nat.le_refl _) hi0 hi0 hi0 hi1 (hG'.out.below hr1.out) (hGB'.out.below hr1.out)
  rw [blk1_enc] at h2
  refine h2.mono ?_
  clear h2
  rintro e w2 ⟨v2, rfl, hR2, hB2⟩
  replace k1 := Aside0.mk (And.intro k1.out.1 (Kd.C_below k1.out.2 hB2))
  have hr2 := Aside0.mk (below_then hr1.out hr1.out.size hB2)
  clear hR2 hB2 hr1
  go_wp2_with (fail)
  have hb0 : ((w2.alloc (.cells #[.int .u8 4, .int .u8 6, .int .u8 10, .int .u8 2, .int .u8 1, .int .u8 0] 5)).alloc (.cells #[.slice none 0 0] 79)).heap[w2.heap.size]? = some (.cells #[.int .u8 4, .int .u8 6, .int .u8 10, .int .u8 2, .int .u8 1, .int .u8 0] 5 (0, 0)) := blk_alloc (show _ = _ by simpa using heap_alloc_new w2 (.cells #[.int .u8 4, .int .u8 6, .int .u8 10, .int .u8 2, .int .u8 1, .int .u8 0] 5)) _
  have hg0 : ((w2.alloc (.cells #[.int .u8 4, .int .u8 6, .int .u8 10, .int .u8 2, .int .u8 1, .int .u8 0] 5)).alloc (.cells #[.slice none 0 0] 79)).heap[w2.heap.size + 1]? = some (.cells #[.slice none 0 0] 79 (0, 0)) := by simpa using heap_alloc_new (w2.alloc (.cells #[.int .u8 4, .int .u8 6, .int .u8 10, .int .u8 2, .int .u8 1, .int .u8 0] 5)) (.cells #[.slice none 0 0] 79)
  have hr3 := Aside0.mk (below_alloc (below_alloc hr2.out (.cells #[.int .u8 4, .int .u8 6, .int .u8 10, .int .u8 2, .int .u8 1, .int .u8 0] 5)) (.cells #[.slice none 0 0] 79))
  have hb3 := Aside0.mk (below_alloc (below_alloc (Below.refl w2.heap.size w2) (.cells #[.int .u8 4, .int .u8 6, .int .u8 10, .int .u8 2, .int .u8 1, .int .u8 0] 5)) (.cells #[.slice none 0 0] 79))
  obtain ⟨g, hg⟩ : ∃ g, w2.heap.size + 1 = g := ⟨_, rfl⟩
  obtain ⟨B0, hB0⟩ : ∃ g, w2.heap.size = g := ⟨_, rfl⟩
  generalize (w2.alloc (.cells #[.int .u8 4, .int .u8 6, .int .u8 10, .int .u8 2, .int .u8 1, .int .u8 0] 5)).alloc (.cells #[.slice none 0 0] 79) = w3 at hb0 hg0 hr3 hb3 ⊢
  rw [hg] at hg0 ⊢
  rw [hB0] at hb0 ⊢
  have hgn : B0 ≠ g := by omega
  have hg2 := Aside0.mk (show w2.heap.size ≤ g by omega)
  have hlt0 := blk_lt hb0
  clear hg hB0
  have hC : ∀ W : World, W.heap[B0]? = some (.cells #[.int .u8 4, .int .u8 6, .int .u8 10, .int .u8 2, .int .u8 1, .int .u8 0] 5 (0, 0)) → Kd.C (Kd.int .u8) W (some ⟨B0, 0, none⟩) core.length core := by
    intro W hW
    rw [← hco'.out]
    refine Kd.C_of_reads (enc := Value.int .u8) (d := 0) (h1 := fun _ => rfl) ⟨rfl, (by decide : 6 ≤ 9223372036854775807), fun _ => ⟨_, rfl, fun j hj => ?_⟩⟩
    rw [add_plain, blk_cell hW]
    have hj2 : j < 6 := hj
    have : j = 0 ∨ j = 1 ∨ j = 2 ∨ j = 3 ∨ j = 4 ∨ j = 5 := by omega
    rcases this with rfl | rfl | rfl | rfl | rfl | rfl <;> rfl
  have hC' := Aside0.mk hC
  clear hC
  have hW3 := WwE.new hg0 (Nat.le_refl w3.heap.size)
  have hcall := wire_Writer_Raw.calls w3.heap.size g (some ⟨B0, 0, none⟩) 6 core [] w3 hW3 (hC'.out w3 hb0) hca'.out (by rw [hl'.out]; decide) (by decide)
  rw [hl'.out] at hcall
  refine hcall.mono ?_
  clear hcall hW3
  rintro e w4 ⟨rfl, hW4, hF4⟩
  have hb4 := hF4.blk hb0 hlt0 hgn
  have hP4 := Aside0.mk (hb3.out.trans (hF4.below (b := w2.heap.size) hb3.out.size hg2.out))
  have hW4' := Aside0.mk hW4
  have hb4' := Aside0.mk hb4
  have hs3 := Aside0.mk hb3.out.size
  clear hb4 hW4 hF4 hb0 hg0 hgn hlt0 hb3
  go_wp2_with (fail)
  have hcall := hash_Bytes.calls blockS (some ⟨B0, 0, none⟩) 6 core w4 (hC'.out w4 hb4'.out) hca'.out (by decide) (by rw [hl'.out]; decide)
  rw [hl'.out] at hcall
  refine hcall.mono ?_
  clear hcall
  rintro e w5 ⟨rfl, hB5⟩
  have hhr := hashV_range (bytesOf blockS) core
  obtain ⟨h, hh⟩ : ∃ h : Nat, hashV (bytesOf blockS) core = (h : Int) := ⟨(hashV (bytesOf blockS) core).toNat, by omega⟩
  rw [hh] at hhr ⊢
  have hh' := Aside0.mk hh
  have hlt : h < 18446744073709551616 := by omega
  have hP5 := Aside0.mk (below_then hP4.out hP4.out.size hB5)
  have hW5 := Aside0.mk (hW4'.out.below hB5)
  have hrl := rawV_len core (by rw [hl'.out]; decide)
  have hrl2 : (rawV core).length < 1000 := by rw [hl'.out] at hrl; omega
  clear hh hhr hB5 hP4 hW4' hb4' hrl
  go_wp2_with (fail)
  refine (wire_Writer_Uint.calls w3.heap.size g h ([] ++ rawV core) w5 hW5.out hlt (by rw [List.nil_append]; omega)).mono ?_
  rintro e w6 ⟨rfl, hW6, hF6⟩
  have h10 := uvN_ten hlt
  have hP6 := Aside0.mk (hP5.out.trans (hF6.below (b := w2.heap.size) hs3.out hg2.out))
  have hW6' := Aside0.mk hW6
  clear hW6 hF6 hP5 hW5
  go_wp2_with (fail)
  refine (wire_Writer_Done.calls w3.heap.size g ([] ++ rawV core ++ uvN h) w6 hW6'.out (by rw [List.nil_append, List.length_append]; omega)).mono ?_
  rintro e w7 ⟨v7, rfl, hR7, hB7⟩
  have hfin : [] ++ rawV core ++ uvN h = wholeV core := by rw [List.nil_append, wholeV, hh'.out, Int.toNat_natCast]
  rw [hfin] at hR7
  have hwl : (wholeV core).length < 2000 := by rw [← hfin, List.nil_append, List.length_append]; omega
  obtain ⟨A7, c7, rfl⟩ := Kd.R_slice hR7
  have k7 := Aside0.mk (Kd.R_reads' hR7).2
  have hP7 := Aside0.mk (below_then hP6.out hP6.out.size hB7)
  obtain ⟨ks, fs⟩ := (sameBytes_ev (wholeV core) (wholeV core) (by omega)).rounds
  rw [decide_eq_true rfl] at fs
  have fs' := Aside0.mk fs
  have k1' := Aside0.mk (And.intro k1.out.1 (Kd.C_below k1.out.2 hP7.out))
  have hr7 := Aside0.mk (below_then hr2.out hr2.out.size hP7.out)
  clear fs hfin hR7 hB7 hP6 hW6' h10 hwl hrl2 hlt k1 hP7
  go_wp2_with (fail)
  refine (intervalmonref01_SameBytes.calls ks A1 c1 (wholeV core) A7 c7 (wholeV core) true w7 k1'.out.2 k1'.out.1 k7.out.2 k7.out.1 fs'.out).mono ?_
  rintro e w8 ⟨rfl, hd⟩
  have hr8 := Aside0.mk (below_then hr7.out hr7.out.size hd.below)
  clear hd k1' k7
  go_wp2
  go_ret
  exact ⟨rfl, hr8.out⟩
end Go.Proofs.YtblbieenfghbdaaDoor.F
end

section
namespace Go.Proofs.YtblbieenfghbdaaDoor.F
open Go.RowKit Go.Proofs.YtblbieenfghbdaaDoor.D Go.Proofs.YtblbieenfghbdaaDoor.E Go.Proofs.YtblbieenfghbdaaDoorW.PrintWords Go.Proofs.YtblbieenfghbdaaDoorW.PrintLast Go.Proofs.YtblbieenfghbdaaDoorW.PrintMore
set_option linter.unusedVariables false
set_option linter.unusedSimpArgs false
theorem made_valid (s k p c : Int) (hs : 0 ≤ s ∧ s < 5) (hk : 0 ≤ k ∧ k < 5) (h0 : k = 0 → p = 0 ∧ c = 0) (h1 : 0 < k → 1 ≤ p ∧ p ≤ 4000 ∧ 0 ≤ c ∧ c < 1073741824) : vldB s k p c = true := by
  have : k = 0 ∨ k = 1 ∨ k = 2 ∨ k = 3 ∨ k = 4 := by omega
  rcases this with rfl | rfl | rfl | rfl | rfl
  · obtain ⟨rfl, rfl⟩ := h0 rfl
    have e : parR 0 0 = true := by decide
    rw [vldB, e]
    simp [inR, costR]
    omega
  all_goals
    obtain ⟨a1, a2, a3, a4⟩ := h1 (by decide)
    simp [vldB, inR, costR, parR, show rd rangesL 2 = 1 from rfl, show rd rangesL 3 = 1073741824 from rfl, show rd rangesL 4 = 0 from rfl, show rd rangesL 5 = 1073741824 from rfl, show rd rangesL 6 = 1 from rfl, show rd rangesL 7 = 4096 from rfl, show rd rangesL 8 = 0 from rfl, show rd rangesL 9 = 1048576 from rfl]
    omega
theorem stores5 {W : World} {q : Nat} {t : TypeId} {c0 c1 c2 c3 c4 : Value} (u0 u1 u2 u3 u4 : Value) (h : W.heap[q]? = some (.cells #[c0, c1, c2, c3, c4] t (0, 0))) :
    (((((W.setCell ⟨q, 0, none⟩ u0).setCell ⟨q, 1, none⟩ u1).setCell ⟨q, 2, none⟩ u2).setCell ⟨q, 3, none⟩ u3).setCell ⟨q, 4, none⟩ u4).heap[q]? = some (.cells #[u0, u1, u2, u3, u4] t (0, 0)) :=
  blk_put (blk_put (blk_put (blk_put (blk_put h 0 u0 rfl) 1 u1 rfl) 2 u2 rfl) 3 u3 rfl) 4 u4 rfl
theorem keep5 (W : World) (q : Nat) (u0 u1 u2 u3 u4 : Value) : KeepBut W (((((W.setCell ⟨q, 0, none⟩ u0).setCell ⟨q, 1, none⟩ u1).setCell ⟨q, 2, none⟩ u2).setCell ⟨q, 3, none⟩ u3).setCell ⟨q, 4, none⟩ u4) q none :=
  (((((KeepBut.refl W q none).set_ 0 u0).set_ 1 u1).set_ 2 u2).set_ 3 u3).set_ 4 u4
theorem below5 {w W : World} (h : Below w.heap.size w W) {q : Nat} (hq : w.heap.size ≤ q) (u0 u1 u2 u3 u4 : Value) : Below w.heap.size w (((((W.setCell ⟨q, 0, none⟩ u0).setCell ⟨q, 1, none⟩ u1).setCell ⟨q, 2, none⟩ u2).setCell ⟨q, 3, none⟩ u3).setCell ⟨q, 4, none⟩ u4) :=
  below_set (below_set (below_set (below_set (below_set h hq) hq) hq) hq) hq
theorem R_keep47 {W W1 : World} {B q : Nat} {cs : Array Value} {v : Value} {a : List S44} (h : Kd.R k44 44 W B (fun _ => True) v a) (hq : W.heap[q]? = some (.cells cs 47 (0, 0))) (hk : KeepBut W W1 q none) : Kd.R k44 44 W1 B (fun _ => True) v a :=
  Kd.R_mono (Kd.R_keep (Kd.R_types h hq (by simp [k44, Kd.iso, Kd.pair, Kd.int, Kd.scalar])) hk (fun k hk => hk.2)) (fun _ _ => trivial)
set_option maxHeartbeats 4000000 in
set_option maxRecDepth 100000 in
theorem Made_.calls (n : Int) (A1 : Option Addr) (c1 : Nat) (l : List Int) (w : World) (hr : Kd.C (Kd.int .i64) w A1 l.length l) (hI : ∀ x, x ∈ l → I64 x) (hn : I64 n) :
    Calls Tryd.prog 30 #[.int .i64 n, .slice A1 l.length c1] w fun e w' => ∃ (s k p c : Int) (v : Value) (a : List S44), e = .returned (.agg #[.int .i64 s, .int .i64 k, .int .i64 p, .int .i64 c, v]) ∧ Kd.R k44 44 w' w.heap.size (fun _ => True) v a ∧ ((∀ x, x ∈ a → encB x = true) ∧ a.length ≤ 9) ∧ (vldB s k p c = true ∧ ∀ x, x ∈ [s, k, p, c] → I64 x) ∧ Below w.heap.size w w' := by
  have hu47 := Tryd.underlying47
  have hq : ∀ d : Int, 0 < d → I64 (wrap64 (Int.tdiv n d)) := fun d _ => I64.wrap _
  have hn' := Aside0.mk hn
  have hr' := Aside0.mk hr
  clear hn hr
  go_enter Tryd.func30, Tryd.ntmps30
  go_wp2_with (fail)
  refine (around_still n 5 _ (by decide)).mono ?_
  rintro e w1 ⟨rfl, rfl⟩
  have bs := around_rng n 5 hn'.out (by decide)
  generalize aroundV n 5 = s at bs ⊢
  go_wp2_with (fail)
  refine (around_still (wrap64 (Int.tdiv n 5)) 5 _ (by decide)).mono ?_
  rintro e w1 ⟨rfl, rfl⟩
  have bk := around_rng (wrap64 (Int.tdiv n 5)) 5 (hq 5 (by decide)) (by decide)
  generalize aroundV (wrap64 (Int.tdiv n 5)) 5 = k at bk ⊢
  have hb1 : (w.alloc (.cells #[.int .i64 0, .int .i64 0, .int .i64 0, .int .i64 0, .slice none 0 0] 47)).heap[w.heap.size]? = some (.cells #[.int .i64 0, .int .i64 0, .int .i64 0, .int .i64 0, .slice none 0 0] 47 (0, 0)) := by simpa using heap_alloc_new w (.cells #[.int .i64 0, .int .i64 0, .int .i64 0, .int .i64 0, .slice none 0 0] 47)
  have hB1 := Aside0.mk (below_alloc (Below.refl w.heap.size w) (.cells #[.int .i64 0, .int .i64 0, .int .i64 0, .int .i64 0, .slice none 0 0] 47))
  have hle := Aside0.mk (Nat.le_refl w.heap.size)
  obtain ⟨q0, hq0⟩ : ∃ q, w.heap.size = q := ⟨_, rfl⟩
  generalize w.alloc (.cells #[.int .i64 0, .int .i64 0, .int .i64 0, .int .i64 0, .slice none 0 0] 47) = w1 at hb1 hB1 ⊢
  rw [hq0] at hb1 ⊢
  have hq0' := Aside0.mk hq0
  clear hq0
  go_wp2_with (fail)
  refine (intervalmonref15_Claims.calls A1 c1 l w1 (Kd.C_below hr'.out hB1.out) hI).mono ?_
  rintro e w2 ⟨v, a, rfl, hR2, hE, hal, hB2⟩
  have hb2 := (hB2.block q0 (blk_lt hb1)).trans hb1
  have hr2 := Aside0.mk (below_then hB1.out hB1.out.size hB2)
  have hE' := Aside0.mk hE
  have hal' := Aside0.mk hal
  obtain ⟨Aa, ca, rfl⟩ := Kd.R_slice hR2
  have hR2' := Aside0.mk (Kd.R_lower hR2 hB1.out.size)
  clear hR2 hB2 hE hal hb1 hB1 hr' hI
  have bs' := Aside0.mk bs
  have bk' := Aside0.mk bk
  have b25 := Aside0.mk (around_rng (wrap64 (Int.tdiv n 25)) 4000 (hq 25 (by decide)) (by decide))
  have b7 := Aside0.mk (around_rng (wrap64 (Int.tdiv n 7)) 1073741824 (hq 7 (by decide)) (by decide))
  have hbX : (w2.alloc (.cells #[.int .i64 s, .int .i64 k, .int .i64 0, .int .i64 0, .slice Aa a.length ca] 47)).heap[w2.heap.size]? = some (.cells #[.int .i64 s, .int .i64 k, .int .i64 0, .int .i64 0, .slice Aa a.length ca] 47 (0, 0)) := by
    simpa using heap_alloc_new w2 (.cells #[.int .i64 s, .int .i64 k, .int .i64 0, .int .i64 0, .slice Aa a.length ca] 47)
  go_upto_region 2 with (fail)
  have hb3 := blk_alloc hb2 (.cells #[.int .i64 s, .int .i64 k, .int .i64 0, .int .i64 0, .slice Aa a.length ca] 47)
  have hr3 := Aside0.mk (below_alloc hr2.out (.cells #[.int .i64 s, .int .i64 k, .int .i64 0, .int .i64 0, .slice Aa a.length ca] 47))
  have hR3 := Aside0.mk (Kd.R_alloc hR2'.out (.cells #[.int .i64 s, .int .i64 k, .int .i64 0, .int .i64 0, .slice Aa a.length ca] 47))
  have hqX : q0 ≠ w2.heap.size := by have := blk_lt hb2; omega
  have hqw := Aside0.mk hr2.out.size
  generalize w2.alloc (.cells #[.int .i64 s, .int .i64 k, .int .i64 0, .int .i64 0, .slice Aa a.length ca] 47) = w3 at hbX hb3 hr3 hR3 ⊢
  generalize w2.heap.size = X at hbX hqX hqw ⊢
  clear hb2 hr2 hR2' hq bs bk
  have x0 : w3.cell? ⟨X, 0, none⟩ = some (.int .i64 s) := (blk_cell hbX 0).trans rfl
  have x1 : w3.cell? ⟨X, 1, none⟩ = some (.int .i64 k) := (blk_cell hbX 1).trans rfl
  have x2 : w3.cell? ⟨X, 2, none⟩ = some (.int .i64 0) := (blk_cell hbX 2).trans rfl
  have x3 : w3.cell? ⟨X, 3, none⟩ = some (.int .i64 0) := (blk_cell hbX 3).trans rfl
  have x4 : w3.cell? ⟨X, 4, none⟩ = some (.slice Aa a.length ca) := (blk_cell hbX 4).trans rfl
  have y0 : w3.cell? ⟨q0, 0, none⟩ = some (.int .i64 0) := (blk_cell hb3 0).trans rfl
  have y1 : w3.cell? ⟨q0, 1, none⟩ = some (.int .i64 0) := (blk_cell hb3 1).trans rfl
  have y2 : w3.cell? ⟨q0, 2, none⟩ = some (.int .i64 0) := (blk_cell hb3 2).trans rfl
  have y3 : w3.cell? ⟨q0, 3, none⟩ = some (.int .i64 0) := (blk_cell hb3 3).trans rfl
  have y4 : w3.cell? ⟨q0, 4, none⟩ = some (.slice none 0 0) := (blk_cell hb3 4).trans rfl
  have xf := blk_frozen hbX
  have qf := blk_frozen hb3
  by_cases h : 0 < k
  · have d1 : decide (k > 0) = true := decide_eq_true h
    go_wp2_with (fail)
    refine (around_still (wrap64 (Int.tdiv n 25)) 4000 _ (by decide)).mono ?_
    rintro e w3 ⟨rfl, rfl⟩
    generalize aroundV (wrap64 (Int.tdiv n 25)) 4000 = z25 at b25 ⊢
    have e25 : wrap64 (1 + z25) = 1 + z25 := by have := b25.out; unfold wrap64; omega
    go_upto_region 4 with (fail)
    rw [e25]
    obtain ⟨pp, hpp⟩ : ∃ pp, 1 + z25 = pp := ⟨_, rfl⟩
    rw [hpp]
    have hbX4 : (w3.setCell ⟨X, 2, none⟩ (.int .i64 pp)).heap[X]? = some (.cells #[.int .i64 s, .int .i64 k, .int .i64 pp, .int .i64 0, .slice Aa a.length ca] 47 (0, 0)) := blk_put hbX 2 (.int .i64 pp) rfl
    have hb4 := blk_far hb3 (p := ⟨X, 2, none⟩) hqX (.int .i64 pp)
    have hR4 := Aside0.mk (R_keep47 hR3.out hbX ((KeepBut.refl w3 X none).set_ 2 (.int .i64 pp)))
    have hr4 := Aside0.mk (below_set hr3.out hqw.out (j := 2) (v := .int .i64 pp))
    generalize w3.setCell ⟨X, 2, none⟩ (.int .i64 pp) = w4 at hbX4 hb4 hR4 hr4 ⊢
    have hpp' := Aside0.mk hpp
    clear hbX hb3 hR3 hr3 x0 x1 x2 x3 x4 y0 y1 y2 y3 y4 xf qf hpp e25
    have x3 : w4.cell? ⟨X, 3, none⟩ = some (.int .i64 0) := (blk_cell hbX4 3).trans rfl
    have xf := blk_frozen hbX4
    go_wp2_with (fail)
    refine (around_still (wrap64 (Int.tdiv n 7)) 1073741824 _ (by decide)).mono ?_
    rintro e w4 ⟨rfl, rfl⟩
    generalize aroundV (wrap64 (Int.tdiv n 7)) 1073741824 = cc at b7 ⊢
    go_upto_region 5 with (fail)
    have hbX5 : (w4.setCell ⟨X, 3, none⟩ (.int .i64 cc)).heap[X]? = some (.cells #[.int .i64 s, .int .i64 k, .int .i64 pp, .int .i64 cc, .slice Aa a.length ca] 47 (0, 0)) := blk_put hbX4 3 (.int .i64 cc) rfl
    have hb5 := blk_far hb4 (p := ⟨X, 3, none⟩) hqX (.int .i64 cc)
    have hR5 := Aside0.mk (R_keep47 hR4.out hbX4 ((KeepBut.refl w4 X none).set_ 3 (.int .i64 cc)))
    have hr5 := Aside0.mk (below_set hr4.out hqw.out (j := 3) (v := .int .i64 cc))
    generalize w4.setCell ⟨X, 3, none⟩ (.int .i64 cc) = w5 at hbX5 hb5 hR5 hr5 ⊢
    clear hbX4 hb4 hR4 hr4 x3 xf
    have hv := Aside0.mk (made_valid s k pp cc bs'.out bk'.out (fun h' => by omega) (fun _ => by have := b25.out; have := b7.out; have := hpp'.out; omega))
    have hi := Aside0.mk (show ∀ x, x ∈ [s, k, pp, cc] → I64 x from fun x hx => by
      have := bs'.out
      have := bk'.out
      have := b25.out
      have := b7.out
      have := hpp'.out
      simp at hx
      unfold I64
      rcases hx with rfl | rfl | rfl | rfl <;> omega)
    clear h
    have x0 : w5.cell? ⟨X, 0, none⟩ = some (.int .i64 s) := (blk_cell hbX5 0).trans rfl
    have x1 : w5.cell? ⟨X, 1, none⟩ = some (.int .i64 k) := (blk_cell hbX5 1).trans rfl
    have x2 : w5.cell? ⟨X, 2, none⟩ = some (.int .i64 pp) := (blk_cell hbX5 2).trans rfl
    have x3 : w5.cell? ⟨X, 3, none⟩ = some (.int .i64 cc) := (blk_cell hbX5 3).trans rfl
    have x4 : w5.cell? ⟨X, 4, none⟩ = some (.slice Aa a.length ca) := (blk_cell hbX5 4).trans rfl
    have y0 : w5.cell? ⟨q0, 0, none⟩ = some (.int .i64 0) := (blk_cell hb5 0).trans rfl
    have y1 : w5.cell? ⟨q0, 1, none⟩ = some (.int .i64 0) := (blk_cell hb5 1).trans rfl
    have y2 : w5.cell? ⟨q0, 2, none⟩ = some (.int .i64 0) := (blk_cell hb5 2).trans rfl
    have y3 : w5.cell? ⟨q0, 3, none⟩ = some (.int .i64 0) := (blk_cell hb5 3).trans rfl
    have y4 : w5.cell? ⟨q0, 4, none⟩ = some (.slice none 0 0) := (blk_cell hb5 4).trans rfl
    have qf := blk_frozen hb5
    go_wp2_with (fail)
    refine bodyPost_ret (results_cell_row rfl _ _ q0 47 #[.int .i64 s, .int .i64 k, .int .i64 pp, .int .i64 cc, .slice Aa a.length ca] (0, 0) _ rfl (stores5 _ _ _ _ _ hb5) hu47 rfl (by kernel_rfl)) rfl ?_
    exact ⟨s, k, pp, cc, _, a, rfl, R_keep47 hR5.out hb5 (keep5 _ _ _ _ _ _ _), ⟨hE'.out, hal'.out⟩, ⟨hv.out, hi.out⟩, below5 hr5.out (Nat.le_of_eq hq0'.out) _ _ _ _ _⟩
  · have d1 : decide (k > 0) = false := decide_eq_false h
    have hk0 : k = 0 := by have := bk'.out; omega
    have hv := Aside0.mk (made_valid s k 0 0 bs'.out bk'.out (fun _ => ⟨rfl, rfl⟩) (fun h' => absurd h' h))
    have hi := Aside0.mk (show ∀ x, x ∈ [s, k, 0, 0] → I64 x from fun x hx => by
      have := bs'.out
      have := bk'.out
      simp at hx
      unfold I64
      rcases hx with rfl | rfl | rfl <;> omega)
    clear h hk0
    go_wp2_with (fail)
    refine bodyPost_ret (results_cell_row rfl _ _ q0 47 #[.int .i64 s, .int .i64 k, .int .i64 0, .int .i64 0, .slice Aa a.length ca] (0, 0) _ rfl (stores5 _ _ _ _ _ hb3) hu47 rfl (by kernel_rfl)) rfl ?_
    exact ⟨s, k, 0, 0, _, a, rfl, R_keep47 hR3.out hb3 (keep5 _ _ _ _ _ _ _), ⟨hE'.out, hal'.out⟩, ⟨hv.out, hi.out⟩, below5 hr3.out (Nat.le_of_eq hq0'.out) _ _ _ _ _⟩
end Go.Proofs.YtblbieenfghbdaaDoor.F
end

section
namespace Go.Proofs.YtblbieenfghbdaaDoor.F
open Go.RowKit Go.Proofs.YtblbieenfghbdaaDoor.D Go.Proofs.YtblbieenfghbdaaDoorW.PrintWords Go.Proofs.YtblbieenfghbdaaDoorW.PrintLast Go.Proofs.YtblbieenfghbdaaDoorW.PrintMore
set_option linter.unusedVariables false
set_option linter.unusedSimpArgs false
theorem u64_id (x : Int) (h0 : 0 ≤ x) (h1 : x < 18446744073709551616) : IntKind.u64.wrap x = x := by
  have e : IntKind.u64.wrap x = x % 18446744073709551616 := by simp [IntKind.wrap, IntKind.bits, IntKind.signed]
  rw [e]
  omega
theorem leV_cons_step (b : List Int) (hb : AllB b) (p m : Nat) (hm : m < 8) (h : p < b.length) (hpm : p + 1 + m ≤ b.length) :
    IntKind.u64.wrap (IntKind.u64.wrap (256 * leV ((b.drop (p + 1)).take m)) + IntKind.u64.wrap (rd b (p : Int))) = leV ((b.drop p).take (m + 1)) := by
  have hr := rd_allB hb p h
  have hT := AllB.take (AllB.drop hb (p + 1)) m
  have hlen : ((b.drop (p + 1)).take m).length = m := by rw [List.length_take, List.length_drop]; omega
  have h1 := leV_range hT
  rw [hlen] at h1
  have h8 : (256 : Int) ^ m * 256 ≤ 18446744073709551616 := by
    have : m = 0 ∨ m = 1 ∨ m = 2 ∨ m = 3 ∨ m = 4 ∨ m = 5 ∨ m = 6 ∨ m = 7 := by omega
    rcases this with rfl | rfl | rfl | rfl | rfl | rfl | rfl | rfl <;> decide
  rw [u64_id (256 * leV ((b.drop (p + 1)).take m)) (by omega) (by omega), u64_id (rd b (p : Int)) (by omega) (by omega), u64_id _ (by omega) (by omega)]
  have e : (b.drop p).take (m + 1) = rd b (p : Int) :: (b.drop (p + 1)).take m := by
    rw [List.drop_eq_getElem_cons h, List.take_succ_cons]
    congr 1
    rw [rd, Int.toNat_natCast, List.getD_eq_getElem?_getD, List.getElem?_eq_getElem h]
    rfl
  rw [e, leV]
  omega
theorem ref_words_in (b : List Int) (hb : AllB b) (hl : b.length < 1099511627776) (i c : Nat) (hc : c ≤ 8) (hlen : 8 * i + c ≤ b.length) (x3 r : List Int) (hx : x3.length < 17592186044416)
    (h0 : Ev (fun k => intervalmonref01_Words.l0 k b (x3 ++ [leV ((b.drop (8 * i)).take c)]) ((8 * i + 8 : Nat) : Int)) r) :
    ∀ j : Nat, j ≤ c → Ev (fun k => intervalmonref01_Words.l1 k b x3 ((8 * i : Nat) : Int) (leV ((b.drop (8 * i + j)).take (c - j))) (((8 * i + j : Nat) : Int) - 1)) r
  | 0, _ => by
    refine Ev.step (f := fun k => intervalmonref01_Words.l0 k b (x3 ++ [leV ((b.drop (8 * i)).take c)]) ((8 * i + 8 : Nat) : Int)) (fun k => ?_) h0
    have e1 : wrap64 (((8 * i : Nat) : Int) + 8) = ((8 * i + 8 : Nat) : Int) := by unfold wrap64; omega
    show intervalmonref01_Words.l1 (k + 1) b x3 ((8 * i : Nat) : Int) (leV ((b.drop (8 * i)).take c)) (((8 * i : Nat) : Int) - 1) = _
    rw [intervalmonref01_Words.l1, if_neg (by omega), if_pos hx, e1]
  | j + 1, hj => by
    refine Ev.step (f := fun k => intervalmonref01_Words.l1 k b x3 ((8 * i : Nat) : Int) (leV ((b.drop (8 * i + j)).take (c - j))) (((8 * i + j : Nat) : Int) - 1)) (fun k => ?_) (ref_words_in b hb hl i c hc hlen x3 r hx h0 j (by omega))
    have e0 : (((8 * i + (j + 1) : Nat) : Int) - 1) = ((8 * i + j : Nat) : Int) := by omega
    have e1 : wrap64 (((8 * i + j : Nat) : Int) - 1) = ((8 * i + j : Nat) : Int) - 1 := by unfold wrap64; omega
    rw [e0, intervalmonref01_Words.l1, if_pos (by omega), if_pos (by omega), if_pos (by omega), e1]
    have h := leV_cons_step b hb (8 * i + j) (c - (j + 1)) (by omega) (by omega) (by omega)
    rw [show 8 * i + (j + 1) = 8 * i + j + 1 from rfl, h, show c - (j + 1) + 1 = c - j by omega]
theorem ref_words_out (b : List Int) (hb : AllB b) (hl : b.length < 1099511627776) : ∀ (m i : Nat), i + m = (b.length + 7) / 8 → Ev (fun k => intervalmonref01_Words.l0 k b (wordsUpto b i) ((8 * i : Nat) : Int)) (wordsV b)
  | 0, i, h => by
    refine Ev.step (f := fun _ => some (wordsV b)) (fun k => ?_) (Ev.now _)
    rw [intervalmonref01_Words.l0, if_neg (by omega)]
    rw [wordsUpto, wordsV, ← h]
    rfl
  | m + 1, i, h => by
    obtain ⟨c, hcc, hc1, hc2, hc3⟩ : ∃ c : Nat, (mn (((8 * i + 8 : Nat) : Int)) (b.length : Int)) = ((8 * i + c : Nat) : Int) ∧ (c = 8 ∨ c = b.length - 8 * i) ∧ c ≤ 8 ∧ 8 * i + c ≤ b.length := by
      unfold mn
      by_cases hh : (b.length : Int) < ((8 * i + 8 : Nat) : Int)
      · exact ⟨b.length - 8 * i, by rw [if_pos hh]; omega, .inr rfl, by omega, by omega⟩
      · exact ⟨8, by rw [if_neg hh], .inl rfl, by omega, by omega⟩
    have hin := ref_words_out b hb hl m (i + 1) (by omega)
    have hw := word_full b i c hc1 hc2
    rw [wordsUpto_succ, ← hw] at hin
    have h1 := ref_words_in b hb hl i c hc2 hc3 (wordsUpto b i) (wordsV b) (by rw [wordsUpto_length]; omega) hin c (Nat.le_refl _)
    refine Ev.congr (f := fun k => intervalmonref01_Words.l0 k b (wordsUpto b i) ((8 * i : Nat) : Int)) (fun k => rfl) ?_
    refine Ev.step (f := fun k => intervalmonref01_Words.l1 k b (wordsUpto b i) ((8 * i : Nat) : Int) (leV ((b.drop (8 * i + c)).take (c - c))) (((8 * i + c : Nat) : Int) - 1)) (fun k => ?_) h1
    have e1 : wrap64 (((8 * i : Nat) : Int) + 8) = ((8 * i + 8 : Nat) : Int) := by unfold wrap64; omega
    have e2 : wrap64 (((8 * i + c : Nat) : Int) - 1) = ((8 * i + c : Nat) : Int) - 1 := by unfold wrap64; omega
    rw [intervalmonref01_Words.l0, if_pos (by omega), e1, hcc, e2, Nat.sub_self, List.take_zero]
    rfl
theorem ref_words (b : List Int) (hb : AllB b) (hl : b.length < 1099511627776) : Ev (fun k => intervalmonref01_Words.f k b) (wordsV b) := ref_words_out b hb hl ((b.length + 7) / 8) 0 (by omega)
end Go.Proofs.YtblbieenfghbdaaDoor.F
end

section
namespace Go.Proofs.YtblbieenfghbdaaDoor.F
open Go.RowKit Go.Proofs.YtblbieenfghbdaaDoor.D Go.Proofs.YtblbieenfghbdaaDoorW.PrintWords Go.Proofs.YtblbieenfghbdaaDoorW.PrintLast Go.Proofs.YtblbieenfghbdaaDoorW.PrintMore
set_option linter.unusedVariables false
set_option linter.unusedSimpArgs false
def intervalmonref01_Sum.f (_k : Nat) (a0 : ByteArray) (l1 : List Int) : Option (Int) := if a0.size < 1099511627776 ∧ l1.length < 1099511627776 then some (sumV (bytesOf a0) l1) else none
theorem intervalmonref01_Sum.mono (a0 : ByteArray) (l1 : List Int) (k : Nat) : LeO (intervalmonref01_Sum.f k a0 l1) (intervalmonref01_Sum.f (k + 1) a0 l1) := LeO.refl _
theorem ref_mix0.calls (a b : Int) (w : World) :
    Calls Tryd.prog 151 #[.int .u64 a, .int .u64 b] w fun e w' => e = .returned (.int .u64 (mixV a b)) ∧ w' = w := by
  have hr := u64_range (bits .xor .u64 a b * 11400714819323198485)
  have hm : bits .xor .u64 (IntKind.u64.wrap (bits .xor .u64 a b * 11400714819323198485)) (IntKind.u64.wrap (Int.tdiv (IntKind.u64.wrap (bits .xor .u64 a b * 11400714819323198485)) 4294967296)) = mixV a b := by
    rw [mixV, Int.tdiv_eq_ediv_of_nonneg hr.1, u64_id (IntKind.u64.wrap (bits .xor .u64 a b * 11400714819323198485) / 4294967296) (by omega) (by omega)]
  have hm' := Aside0.mk hm
  clear hm hr
  go_enter Tryd.func151, Tryd.ntmps151
  go_wp2
  go_ret
  exact ⟨by rw [← hm'.out]; first | rfl | simp, rfl⟩
set_option maxHeartbeats 8000000 in
set_option maxRecDepth 100000 in
theorem intervalmonref01_Sum.calls (k : Nat) (a0 : ByteArray) (A1 : Option Addr) (c1 : Nat) (l1 : List Int) (r : Int) (w : World) (hr1 : Kd.C (Kd.int .i64) w A1 l1.length l1) (hc1 : l1.length ≤ c1) (h : intervalmonref01_Sum.f k a0 l1 = some r) :
    Calls Tryd.prog 136 #[.string a0, .slice A1 l1.length c1] w fun e w' => e = .returned (.int .u64 r) ∧ Below w.heap.size w w' := by
  unfold intervalmonref01_Sum.f at h
  obtain ⟨⟨hs, hl⟩, rfl⟩ : (a0.size < 1099511627776 ∧ l1.length < 1099511627776) ∧ sumV (bytesOf a0) l1 = r := by
    by_cases c : a0.size < 1099511627776 ∧ l1.length < 1099511627776
    · rw [if_pos c] at h; exact ⟨c, Option.some.inj h⟩
    · rw [if_neg c] at h; cases h
  clear h
  obtain ⟨kw, fw⟩ := (ref_words (bytesOf a0) (allB_bytesOf a0) (by rw [bytesOf_length]; exact hs)).rounds
  have fw' := Aside0.mk fw
  have hr' := Aside0.mk hr1
  have hwl : (wordsV (bytesOf a0)).length < 1099511627776 := by rw [wordsV, List.length_map, List.length_range, bytesOf_length]; omega
  clear fw hr1
  have kb := fun W => print_bytes (P := Tryd.prog) 9 23 5 Tryd.underlying9 Tryd.underlying23 Tryd.underlying5 a0 W
  go_enter Tryd.func136, Tryd.ntmps136
  go_wp2_with (fail)
  have hC0 : Kd.C (Kd.int .u8) (Lib.bytesWorld w 5 a0) (some ⟨w.heap.size, 0, none⟩) (bytesOf a0).length (bytesOf a0) := by
    have h := bytes_reads w 5 a0 (by omega)
    rw [← bytesOf_length a0] at h
    exact Kd.C_of_reads (enc := Value.int .u8) (d := 0) (h1 := fun _ => rfl) h
  have hB0 := Aside0.mk (bytes_below (Below.refl w.heap.size w) (Nat.le_refl _) 5 a0)
  have hcall := intervalmonref01_Words.calls kw (some ⟨w.heap.size, 0, none⟩) (grownCap w a0.size 0 5) (bytesOf a0) (wordsV (bytesOf a0)) (Lib.bytesWorld w 5 a0) hC0 (by rw [bytesOf_length]; exact grownCap_ge _ _ _ _) fw'.out
  rw [bytesOf_length] at hcall
  refine hcall.mono ?_
  clear hcall hC0 fw' kb
  rintro e w2 ⟨v2, rfl, hR2, hB2⟩
  obtain ⟨Az, cz, rfl⟩ := Kd.R_slice hR2
  obtain ⟨zs, hzs⟩ : ∃ zs, wordsV (bytesOf a0) = zs := ⟨_, rfl⟩
  rw [hzs] at hR2 hwl
  have hzs' := Aside0.mk hzs
  have kz := Aside0.mk (Kd.R_reads' hR2).2.2
  have hb2 := Aside0.mk (below_then hB0.out hB0.out.size hB2)
  have hr2 := Aside0.mk (Kd.C_below hr'.out hb2.out)
  have e0 : (.slice Az (wordsV (bytesOf a0)).length cz : Value) = .slice Az zs.length cz := by rw [hzs]
  rw [hzs]
  clear e0 hzs hR2 hB2 hB0 hr' hc1
  go_wp2
  go_loop [5, 7] (fun v5 v7 => ∃ i : Nat, v7 = .int .i64 (i : Int) ∧ v5 = .int .u64 ((zs.take i).foldl mixV 0) ∧ i ≤ zs.length) (fun _ v7 => zs.length - (intOf v7).toNat)
  case atStart => exact ⟨0, rfl, rfl, Nat.zero_le _⟩
  case round =>
    obtain ⟨i, rfl, rfl, hi⟩ := hrel
    by_cases hlt : i < zs.length
    · have d1 : decide ((i : Int) < (zs.length : Int)) = true := decide_eq_true (by omega)
      have d2 : decide (i < zs.length) = true := decide_eq_true hlt
      obtain ⟨ad, e, hx⟩ := Kd.at_int kz.out (i : Int) (by omega) (by omega)
      subst e
      rw [Int.toNat_natCast] at hx
      have hi1 : wrap64 ((i : Int) + 1) = (i : Int) + 1 := wrap_in _ (by omega) (by omega)
      have hst := Aside0.mk (show (zs.take (i + 1)).foldl mixV 0 = mixV ((zs.take i).foldl mixV 0) (rd zs (i : Int)) by
        rw [List.take_succ_eq_append_getElem hlt, List.foldl_append, List.foldl_cons, List.foldl_nil]
        rw [rd, Int.toNat_natCast, List.getD_eq_getElem?_getD, List.getElem?_eq_getElem hlt]
        rfl)
      have p1 : (0 : Int) ≤ (i : Int) := by omega
      have q1 : (i : Int) < (zs.length : Int) := by omega
      go_wp2_with (first | (go_at_call 151; refine (ref_mix0.calls _ _ _).mono ?_; rintro e w' ⟨rfl, rfl⟩))
      go_round
      case rel => exact ⟨i + 1, by first | rfl | simp, by rw [hst.out], by omega⟩
      case measure => simp [intOf]; omega
    · have d1 : decide ((i : Int) < (zs.length : Int)) = false := decide_eq_false (by omega)
      have d2 : decide (i < zs.length) = false := decide_eq_false hlt
      have hfull : (zs.take i).foldl mixV 0 = zs.foldl mixV 0 := by rw [List.take_of_length_le (by omega)]
      rw [hfull]
      clear hfull
      obtain ⟨z0, hz0⟩ : ∃ z0, zs.foldl mixV 0 = z0 := ⟨_, rfl⟩
      rw [hz0]
      have hz0' := Aside0.mk hz0
      clear hz0
      go_wp2_with (first | (go_at_call 151; refine (ref_mix0.calls _ _ _).mono ?_; rintro e w' ⟨rfl, rfl⟩))
      obtain ⟨z1, hz1⟩ : ∃ z1, mixV (mixV z0 (a0.size : Int)) (l1.length : Int) = z1 := ⟨_, rfl⟩
      rw [hz1]
      have hz1' := Aside0.mk hz1
      clear hz1
      clear d1 d2 hlt
      go_loop [5, 8] (fun v5 v8 => ∃ i : Nat, v8 = .int .i64 (i : Int) ∧ v5 = .int .u64 ((l1.take i).foldl (fun s n => mixV s (IntKind.u64.wrap n)) z1) ∧ i ≤ l1.length) (fun _ v8 => l1.length - (intOf v8).toNat)
      case atStart => exact ⟨0, rfl, rfl, Nat.zero_le _⟩
      case round =>
        obtain ⟨j, rfl, rfl, hj⟩ := hrel
        by_cases hlt : j < l1.length
        · have d1 : decide ((j : Int) < (l1.length : Int)) = true := decide_eq_true (by omega)
          have d2 : decide (j < l1.length) = true := decide_eq_true hlt
          obtain ⟨ad, e, hx⟩ := Kd.at_int hr2.out (j : Int) (by omega) (by omega)
          subst e
          rw [Int.toNat_natCast] at hx
          have hi1 : wrap64 ((j : Int) + 1) = (j : Int) + 1 := wrap_in _ (by omega) (by omega)
          have hst := Aside0.mk (show (l1.take (j + 1)).foldl (fun s n => mixV s (IntKind.u64.wrap n)) z1 = mixV ((l1.take j).foldl (fun s n => mixV s (IntKind.u64.wrap n)) z1) (IntKind.u64.wrap (rd l1 (j : Int))) by
            rw [List.take_succ_eq_append_getElem hlt, List.foldl_append, List.foldl_cons, List.foldl_nil]
            rw [rd, Int.toNat_natCast, List.getD_eq_getElem?_getD, List.getElem?_eq_getElem hlt]
            rfl)
          have p1 : (0 : Int) ≤ (j : Int) := by omega
          have q1 : (j : Int) < (l1.length : Int) := by omega
          go_wp2_with (first | (go_at_call 151; refine (ref_mix0.calls _ _ _).mono ?_; rintro e w' ⟨rfl, rfl⟩))
          go_round
          case rel => exact ⟨j + 1, by first | rfl | simp, by rw [hst.out], by omega⟩
          case measure => simp [intOf]; omega
        · have d1 : decide ((j : Int) < (l1.length : Int)) = false := decide_eq_false (by omega)
          have d2 : decide (j < l1.length) = false := decide_eq_false hlt
          have hfull : (l1.take j).foldl (fun s n => mixV s (IntKind.u64.wrap n)) z1 = l1.foldl (fun s n => mixV s (IntKind.u64.wrap n)) z1 := by rw [List.take_of_length_le (by omega)]
          rw [hfull]
          clear hfull
          go_wp2_with (first | (go_at_call 151; refine (ref_mix0.calls _ _ _).mono ?_; rintro e w' ⟨rfl, rfl⟩))
          go_ret
          exact ⟨by rw [sumV, hzs'.out, hz0'.out, bytesOf_length, hz1'.out]; rfl, hb2.out⟩
end Go.Proofs.YtblbieenfghbdaaDoor.F
end
