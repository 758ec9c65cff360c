/- The call of intervalmonref15.Read, and what it leaves in memory. -/
import Derived.Test.YtblbieenfghbdaaDoorDxA
import Derived.StillTailTactics
import Derived.Deep.RegionHeld3
namespace Go.Proofs.YtblbieenfghbdaaDoor.D
open Go.RowKit Go.Proofs.YtblbieenfghbdaaDoorW.PrintWords Go.Proofs.YtblbieenfghbdaaDoorW.PrintLast Go.Proofs.YtblbieenfghbdaaDoorW.PrintMore
set_option linter.unusedVariables false
set_option linter.unusedSimpArgs false
/-- A number of the reference's reader, whether its code is the shortest, and the reader behind it. -/
def intervalmonref15_Read.f (k : Nat) (s0_0 : List Bool) (s0_1 : Int) (s0_2 : Int) : Option (Int × Bool × Int × Int) :=
  (intervalmonref14_Reader_Unary.f k s0_0 s0_1 s0_2 5).bind fun u => if 0 ≤ u.1 ∧ u.1 < 6 then
    (intervalmonref14_Reader_Bits.f k s0_0 u.2.1 u.2.2 (rd ([0, 4, 8, 16, 32, 64] : List Int) u.1)).bind fun z => (intervalmonref02_Back.f z.1).bind fun n =>
      if z.2.2 = 0 then (intervalmonref15_Code.f k n).bind fun c => some (n, decide ((c.length : Int) = wrap64 (z.2.1 - s0_1)), z.2.1, z.2.2) else some (0, false, z.2.1, z.2.2) else none
theorem lit6_at {W : World} {q : Nat} {t : TypeId} (h : W.heap[q]? = some (.cells #[.int .i64 0, .int .i64 4, .int .i64 8, .int .i64 16, .int .i64 32, .int .i64 64] t (0, 0))) (i : Int) (h0 : 0 ≤ i) (h1 : i < 6) :
    W.cell? ⟨q, i.toNat, none⟩ = some (.int .i64 (rd ([0, 4, 8, 16, 32, 64] : List Int) i)) := by
  refine (blk_cell h i.toNat).trans ?_
  have : i = 0 ∨ i = 1 ∨ i = 2 ∨ i = 3 ∨ i = 4 ∨ i = 5 := by omega
  rcases this with rfl | rfl | rfl | rfl | rfl | rfl <;> rfl
set_option maxHeartbeats 8000000 in
set_option maxRecDepth 100000 in
theorem intervalmonref15_Read.calls (k : Nat) (g : Nat) (s0_0 : List Bool) (s0_1 : Int) (s0_2 : Int) (r1 : Int) (r2 : Bool) (r3 : Int) (r4 : Int) (w0 w : World) (hI : IsS118 w0 w g s0_0 s0_1 s0_2) (hB : Below w0.heap.size w0 w) (h : intervalmonref15_Read.f k s0_0 s0_1 s0_2 = some (r1, r2, r3, r4)) :
    Calls Tryd.prog 74 #[.pointer (some ⟨g, 0, none⟩)] w fun e w' => e = .returned (.tuple #[.int .i64 r1, .bool r2]) ∧ IsS118 w0 w' g s0_0 r3 r4 ∧ Below w0.heap.size w0 w' ∧ KeepBut w w' g none := by
  unfold intervalmonref15_Read.f at h
  obtain ⟨⟨u1, u2, u3⟩, hu, h⟩ := Option.bind_eq_some_iff.mp h
  by_cases hc : 0 ≤ u1 ∧ u1 < 6
  case neg => rw [if_neg hc] at h; cases h
  rw [if_pos hc] at h
  obtain ⟨⟨z1, z2, z3⟩, hz, h⟩ := Option.bind_eq_some_iff.mp h
  obtain ⟨n, hn, h⟩ := Option.bind_eq_some_iff.mp h
  have H := Aside0.mk h
  clear h
  obtain ⟨hu0, hu6⟩ := hc
  obtain ⟨x, hx⟩ : ∃ x, rd ([0, 4, 8, 16, 32, 64] : List Int) u1 = x := ⟨_, rfl⟩
  replace hx := Aside0.mk hx
  have HI := Aside0.mk hI
  have HZ := Aside0.mk hz
  have HU := Aside0.mk hu
  have HN := Aside0.mk hn
  obtain ⟨A0, c0, hblk, -, -⟩ := hI
  have k1 : w.cell? ⟨g, 1, none⟩ = some (.int .i64 s0_1) := (blk_cell hblk 1).trans rfl
  have hgw := blk_lt hblk
  clear hu hz hn hblk
  go_enter Tryd.func74, Tryd.ntmps74
  go_upto_region 3 with (fail)
  have hB1 : Below w0.heap.size w0 (w.alloc (.cells #[.int .i64 0, .int .i64 4, .int .i64 8, .int .i64 16, .int .i64 32, .int .i64 64] 3)) := below_alloc hB _
  have hP1 : (w.alloc (.cells #[.int .i64 0, .int .i64 4, .int .i64 8, .int .i64 16, .int .i64 32, .int .i64 64] 3)).heap[w.heap.size]? = some (.cells #[.int .i64 0, .int .i64 4, .int .i64 8, .int .i64 16, .int .i64 32, .int .i64 64] 3 (0, 0)) := by simpa using heap_alloc_new w _
  have hI1 := Aside0.mk (HI.out.alloc (.cells #[.int .i64 0, .int .i64 4, .int .i64 8, .int .i64 16, .int .i64 32, .int .i64 64] 3))
  have hk1 : KeepBut w (w.alloc (.cells #[.int .i64 0, .int .i64 4, .int .i64 8, .int .i64 16, .int .i64 32, .int .i64 64] 3)) g none := KeepBut.of_below (below_alloc (Below.refl _ _) _) g none
  have hne : g ≠ w.heap.size := by omega
  obtain ⟨q, hq⟩ : ∃ q, w.heap.size = q := ⟨_, rfl⟩
  rw [hq] at hP1 hne ⊢
  replace hq := Aside0.mk hq
  generalize w.alloc (.cells #[.int .i64 0, .int .i64 4, .int .i64 8, .int .i64 16, .int .i64 32, .int .i64 64] 3) = w1 at hB1 hP1 hI1 hk1 ⊢
  clear k1 HI
  replace hk1 := Aside0.mk hk1
  replace hP1 := Aside0.mk hP1
  go_upto_region 4 with (first | (go_at_call 108; refine (intervalmonref14_Reader_Unary.calls k g s0_0 s0_1 s0_2 5 u1 u2 u3 w0 w1 hI1.out hB1 HU.out).mono ?_; rintro e w2 ⟨rfl, hI2, hB2, hK2⟩))
  have hP2 := hK2.blk hP1.out (fun e => hne e.symm) (by simp)
  have hk2 := Aside0.mk (hk1.out.trans hK2 (.inl rfl))
  replace hI2 := Aside0.mk hI2
  have hc2 := lit6_at hP2 u1 hu0 hu6
  replace hP2 := Aside0.mk hP2
  clear hI1 hB1 hP1 hk1 hK2 HU hB
  rw [hx.out] at hc2
  have HZ' : Aside0 (intervalmonref14_Reader_Bits.f k s0_0 u2 u3 x = some (z1, z2, z3)) := ⟨by have := HZ.out; simp only [hx.out] at this; exact this⟩
  clear HZ
  go_upto_region 5 with (first | (go_at_call 110; refine (intervalmonref14_Reader_Bits.calls k g s0_0 u2 u3 x z1 z2 z3 w0 w2 hI2.out hB2 HZ'.out).mono ?_; rintro e w3 ⟨rfl, hI3, hB3, hK3⟩; have hk3 := Aside0.mk (hk2.out.trans hK3 (.inl rfl)); clear hK3) | (go_at_call 109; refine (intervalmonref02_Back.calls z1 n w3 HN.out).mono ?_; rintro e w4 ⟨rfl, hd4⟩))
  have hb4 := hd4.below
  have hI4 := hI3.below hb4
  have hB4 := below_then hB3 hB3.size hb4
  have hk4 := hk3.out.trans (KeepBut.of_below hb4 g none) (.inl rfl)
  clear hI2 hP2 hk2 hB2 hc2 HZ' hI3 hB3 hk3 hd4 hb4 HN
  obtain ⟨A0, c0, hblk, hge, hread⟩ := hI4
  have k1 : w4.cell? ⟨g, 1, none⟩ = some (.int .i64 z2) := (blk_cell hblk 1).trans rfl
  have k2 : w4.cell? ⟨g, 2, none⟩ = some (.int .i64 z3) := (blk_cell hblk 2).trans rfl
  have hI4 := Aside0.mk (show IsS118 w0 w4 g s0_0 z2 z3 from ⟨A0, c0, hblk, hge, hread⟩)
  clear hge hread
  have h := H.out
  clear H hx
  try simp only [] at h
  by_cases c : z3 = 0
  · rw [if_pos c] at h
    obtain ⟨cs, hcs, h⟩ := Option.bind_eq_some_iff.mp h
    simp only [Option.some.injEq, Prod.mk.injEq] at h
    obtain ⟨rfl, rfl, rfl, rfl⟩ := h
    subst c
    go_upto_region 7 with (fail)
    have HC := Aside0.mk hcs
    clear hcs
    go_region_held3 (fun w' => w'.cell? ⟨g, 1, none⟩ = some (.int .i64 z2)) (first | go_keep | (exact pw_cell_below (by assumption) (by assumption))) ((go_at_call 66; refine (intervalmonref15_Code.calls k n cs _ HC.out).mono ?_; rintro e w5 ⟨v5, rfl, hR5, hB5⟩; obtain ⟨A5, c5, rfl⟩ := Kd.R_slice hR5))
    rw [i64_w]
    have hb5 : Below w4.heap.size w4 w5 := below_then (below_drew1 (Below.refl _ w4)) (Nat.le_refl _) hB5
    clear hR5 k1 k2
    have hfin : IsS118 w0 w5 g s0_0 z2 0 ∧ Below w0.heap.size w0 w5 ∧ KeepBut w w5 g none := ⟨hI4.out.below hb5, below_then hB4 hB4.size hb5, hk4.trans (KeepBut.of_below hb5 g none) (.inl rfl)⟩
    replace hfin := Aside0.mk hfin
    clear hb5 hB5 hk4 hB4
    have he : ((cs.length : Int) == wrap64 (z2 - s0_1)) = decide ((cs.length : Int) = wrap64 (z2 - s0_1)) := by rw [Bool.eq_iff_iff]; simp
    rw [he]
    obtain ⟨b, hb⟩ : ∃ b, decide ((cs.length : Int) = wrap64 (z2 - s0_1)) = b := ⟨_, rfl⟩
    rw [hb]
    replace hb := Aside0.mk hb
    clear he
    go_wp2
    go_ret2
    exact ⟨by rw [hb.out]; rfl, hfin.out⟩
  · rw [if_neg c] at h
    simp only [Option.some.injEq, Prod.mk.injEq] at h
    obtain ⟨rfl, rfl, rfl, rfl⟩ := h
    have c1 : (z3 == 0) = false := by simp [c]
    have c2 : (z3 != 0) = true := by simp [c]
    clear c
    go_wp2
    go_ret2
    exact ⟨rfl, hI4.out, hB4, hk4⟩
end Go.Proofs.YtblbieenfghbdaaDoor.D
