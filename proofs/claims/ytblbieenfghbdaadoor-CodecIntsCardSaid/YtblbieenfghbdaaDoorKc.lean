/- The calls of codec's reader: (*trend).back, (*source).get and (*source).whole, and what they leave in memory. -/
import Derived.Test.YtblbieenfghbdaaDoorDxA
import Derived.Test.YtblbieenfghbdaaDoorKg
import Derived.StillTailTactics
import Derived.BigQuiet
namespace Go.Proofs.YtblbieenfghbdaaDoor.D
open Go.RowKit Go.Proofs.YtblbieenfghbdaaDoorW.PrintWords Go.Proofs.YtblbieenfghbdaaDoorW.PrintLast Go.Proofs.YtblbieenfghbdaaDoorW.PrintMore
set_option linter.unusedVariables false
set_option linter.unusedSimpArgs false

/-! ### codec_trend_back: function 71 -/
set_option maxHeartbeats 8000000 in
set_option maxRecDepth 100000 in
theorem codec_trend_back.calls (g : Nat) (a b c : Int) (w0 w : World) (hI : IsS104 w0 w g a b) (hB : Below w0.heap.size w0 w) :
    Calls Tryd.prog 71 #[.pointer (some ⟨g, 0, none⟩), .int .i64 c] w fun e w' => e = .returned (.int .i64 (wrap64 (a + wrap64 (b + c)))) ∧ IsS104 w0 w' g (wrap64 (a + wrap64 (b + c))) (wrap64 (b + c)) ∧ Below w0.heap.size w0 w' ∧ KeepBut w w' g none := by
  obtain ⟨hb, hg⟩ := hI
  have h0 : w.cell? ⟨g, 0, none⟩ = some (.int .i64 a) := (blk_cell hb 0).trans rfl
  have h1 : w.cell? ⟨g, 1, none⟩ = some (.int .i64 b) := (blk_cell hb 1).trans rfl
  have f1 := blk_frozen hb 1
  go_enter Tryd.func71, Tryd.ntmps71
  go_upto_region 2 with (fail)
  have hs : (w.setCell ⟨g, 1, none⟩ (.int .i64 (wrap64 (b + c)))).heap[g]? = some (.cells #[.int .i64 a, .int .i64 (wrap64 (b + c))] 104 (0, 0)) := by simpa using blk_set hb 1 (.int .i64 (wrap64 (b + c)))
  have hB1 := below_set hB hg (j := 1) (v := .int .i64 (wrap64 (b + c)))
  have hK1 := (KeepBut.refl w g none).set_ 1 (.int .i64 (wrap64 (b + c)))
  generalize w.setCell ⟨g, 1, none⟩ (.int .i64 (wrap64 (b + c))) = W1 at hs hB1 hK1 ⊢
  clear h0 h1 f1 hb hB
  have k0 : W1.cell? ⟨g, 0, none⟩ = some (.int .i64 a) := (blk_cell hs 0).trans rfl
  have k1 : W1.cell? ⟨g, 1, none⟩ = some (.int .i64 (wrap64 (b + c))) := (blk_cell hs 1).trans rfl
  have g0 := blk_frozen hs 0
  go_still_tail 9, (by kernel_rfl)
  change wpList _ _ _ _ _ W1.drew
  replace hs := blk_drew hs
  replace hB1 := below_drew1 hB1
  replace hK1 := keep_drew hK1
  replace k0 : W1.drew.cell? ⟨g, 0, none⟩ = some (.int .i64 a) := k0
  replace g0 : W1.drew.frozen? ⟨g, 0, none⟩ = false := g0
  clear k1
  generalize W1.drew = W2 at hs hB1 hK1 k0 g0 ⊢
  go_wp2
  go_ret
  exact ⟨rfl, ⟨by simpa [i64_w] using blk_set hs 0 (.int .i64 (wrap64 (a + wrap64 (b + c)))), hg⟩, below_set hB1 hg, hK1.set_ 0 _⟩
/-! ### the source: a reader's pointer and a flag -/
structure SrcAt (w0 W : World) (g q : Nat) (f0 : List Int) (f1 f2 : Int) (bad : Bool) : Prop where
  rd : IsS154 w0 W g f0 f1 f2
  blk : W.heap[q]? = some (.cells #[.pointer (some ⟨g, 0, none⟩), .bool bad] 113 (0, 0))
  hq : w0.heap.size ≤ q
theorem SrcAt.ne {w0 W : World} {g q : Nat} {f0 : List Int} {f1 f2 : Int} {bad : Bool} (h : SrcAt w0 W g q f0 f1 f2 bad) : g ≠ q := h.rd.ne_blk h.blk (by decide)
theorem SrcAt.kept {w0 W W1 : World} {g q : Nat} {f0 : List Int} {f1 f2 : Int} {bad : Bool} {S : Nat → Prop} (h : SrcAt w0 W g q f0 f1 f2 bad) (hk : Kept W W1 S) (hg : ¬ S g) (hq : ¬ S q) : SrcAt w0 W1 g q f0 f1 f2 bad :=
  ⟨h.rd.kept hk hg, blk_kept h.blk hk hq, h.hq⟩

theorem wrap_in (x : Int) (h : -9223372036854775808 ≤ x) (h2 : x < 9223372036854775808) : wrap64 x = x := by
  simp only [wrap64, IntKind.wrap, IntKind.bits, IntKind.signed] <;> first | omega | (simp; omega)
theorem widths_pos (i : Int) (h0 : 0 ≤ i) (h1 : i < 6) : 0 ≤ rd widths i := by
  have : i = 0 ∨ i = 1 ∨ i = 2 ∨ i = 3 ∨ i = 4 ∨ i = 5 := by omega
  rcases this with rfl | rfl | rfl | rfl | rfl | rfl <;> decide
/-- The number of a code. -/
def codec_unzig (z : Int) : Int := bits .xor .i64 (wrap64 (z / 2)) (wrap64 (-wrap64 (bits .and .u64 z 1)))
/-- Whether a code of a wider form would have fitted a narrower one. -/
def codec_short (u z : Int) : Bool := decide (0 < u) && decide (z / 2 ^ min (rd widths (u - 1)).toNat 64 = 0)
/-! ### codec_source_get: function 70 -/
set_option maxHeartbeats 8000000 in
set_option maxRecDepth 100000 in
theorem codec_source_get.calls' (k : Nat) (g q : Nat) (f0 : List Int) (f1 f2 : Int) (bad : Bool) (u1 u2 u3 z1 z2 z3 : Int) (w0 w : World) (hI : SrcAt w0 w g q f0 f1 f2 bad) (hB : Below w0.heap.size w0 w) (hG : Glob w0)
    (hu : bits_Reader_Unary.f k f0 f1 f2 5 = some (u1, u2, u3)) (hu0 : 0 ≤ u1) (hu6 : u1 < 6) (hz : bits_Reader_Bits.f k f0 u2 u3 (rd widths u1) = some (z1, z2, z3)) :
    Calls Tryd.prog 70 #[.pointer (some ⟨q, 0, none⟩)] w fun e w' => e = .returned (.int .i64 (codec_unzig z1)) ∧ SrcAt w0 w' g q f0 z2 z3 (bad || codec_short u1 z1) ∧ Below w0.heap.size w0 w' ∧ Kept w w' (fun k => k = g ∨ k = q) := by
  have hk0 := Kept.refl w (fun k => k = g ∨ k = q)
  have h0 : w.cell? ⟨q, 0, none⟩ = some (.pointer (some ⟨g, 0, none⟩)) := (blk_cell hI.blk 0).trans rfl
  go_enter Tryd.func70, Tryd.ntmps70
  go_wp2_with (first | (go_at_call 105; refine (bits_Reader_Unary.calls k g f0 f1 f2 5 u1 u2 u3 w0 _ hI.rd hB hu).mono ?_; rintro e w1 ⟨rfl, hI1, hB1, hK1⟩))
  have hS1 : SrcAt w0 w1 g q f0 u2 u3 bad := ⟨hI1, hK1.blk hI.blk hI.ne.symm (by simp), hI.hq⟩
  have hk1 : Kept w w1 (fun k => k = g ∨ k = q) := hk0.of_keep hK1 (.inl (.inl rfl))
  have hG1 : w1.cell? ⟨0, u1.toNat, none⟩ = some (.int .i64 (rd widths u1)) := (hG.below hB1).at_ u1 hu0 hu6
  have h01 : w1.cell? ⟨q, 0, none⟩ = some (.pointer (some ⟨g, 0, none⟩)) := (blk_cell hS1.blk 0).trans rfl
  have hq := hI.hq
  clear hB hK1 hk0 h0 hI hu
  go_still_tail 7, (by kernel_rfl)
  change wpList _ _ _ _ _ w1.drew
  replace hS1 : SrcAt w0 w1.drew g q f0 u2 u3 bad := ⟨hS1.rd.drew, blk_drew hS1.blk, hS1.hq⟩
  replace hk1 := hk1.drew
  replace hB1 := below_drew1 hB1
  clear hG1 h01 hI1
  generalize w1.drew = w2 at hS1 hB1 hk1 ⊢
  clear w1
  go_upto_region 3 with (first | (go_at_call 106; refine (bits_Reader_Bits.calls k g f0 u2 u3 (rd widths u1) z1 z2 z3 w0 _ hS1.rd hB1 hz).mono ?_; rintro e w3 ⟨rfl, hI3, hB3, hK3⟩))
  have hS3 : SrcAt w0 w3 g q f0 z2 z3 bad := ⟨hI3, hK3.blk hS1.blk hS1.ne.symm (by simp), hS1.hq⟩
  have hk3 : Kept w w3 (fun k => k = g ∨ k = q) := hk1.of_keep hK3 (.inl (.inl rfl))
  clear hB1 hK3 hk1 hS1 hz hI3
  by_cases hc : 0 < u1
  · have hc1 : decide (u1 > 0) = true := decide_eq_true hc
    have p1 : 0 ≤ u1 - 1 := by omega
    have p2 : u1 - 1 < 6 := by omega
    have hG1 : w3.cell? ⟨0, (u1 - 1).toNat, none⟩ = some (.int .i64 (rd widths (u1 - 1))) := (hG.below hB3).at_ (u1 - 1) p1 p2
    rw [show (u1 - 1).toNat = u1.toNat - 1 by omega] at hG1
    have hx : wrap64 (u1 - 1) = u1 - 1 := wrap_in _ (by omega) (by omega)
    have hn : 0 ≤ rd widths (u1 - 1) := widths_pos _ p1 p2
    have kb := (blk_cell hS3.blk 1).trans (show (#[.pointer (some ⟨g, 0, none⟩), .bool bad] : Array Value)[1]? = some (.bool bad) from rfl)
    have fb := blk_frozen hS3.blk 1
    by_cases hd : z1 / 2 ^ min (rd widths (u1 - 1)).toNat 64 = 0
    · have hd1 : (z1 / 2 ^ min (rd widths (u1 - 1)).toNat 64 == 0) = true := beq_iff_eq.mpr hd
      go_wp2
      go_ret
      refine ⟨rfl, ?_, below_set hB3 hq, hk3.setCell (.inl (.inr rfl)) _⟩
      rw [show codec_short u1 z1 = true by simp only [codec_short, hc, hd, decide_true, Bool.and_self], Bool.or_true]
      exact ⟨hS3.rd.far hS3.ne _, by simpa using blk_set hS3.blk 1 (.bool true), hS3.hq⟩
    · have hd1 : (z1 / 2 ^ min (rd widths (u1 - 1)).toNat 64 == 0) = false := beq_eq_false_iff_ne.mpr hd
      go_wp2
      go_ret
      refine ⟨rfl, ?_, hB3, hk3⟩
      rw [show codec_short u1 z1 = false by simp only [codec_short, hd, decide_false, Bool.and_false], Bool.or_false]
      exact hS3
  · have hc1 : decide (u1 > 0) = false := decide_eq_false hc
    go_wp2
    go_ret
    refine ⟨rfl, ?_, hB3, hk3⟩
    rw [show codec_short u1 z1 = false by simp only [codec_short, show ¬ 0 < u1 by omega, decide_false, Bool.false_and], Bool.or_false]
    exact hS3

/-- The next number of a source, the reader's state and the flag behind it. -/
def codec_source_get.f (k : Nat) (f0 : List Int) (f1 f2 : Int) (bad : Bool) : Option (Int × Int × Int × Bool) :=
  (bits_Reader_Unary.f k f0 f1 f2 5).bind fun u => if 0 ≤ u.1 ∧ u.1 < 6 then (bits_Reader_Bits.f k f0 u.2.1 u.2.2 (rd widths u.1)).bind fun z => some (codec_unzig z.1, z.2.1, z.2.2, bad || codec_short u.1 z.1) else none
theorem codec_source_get.calls (k : Nat) (g q : Nat) (f0 : List Int) (f1 f2 : Int) (bad : Bool) (r1 r2 r3 : Int) (r4 : Bool) (w0 w : World) (hI : SrcAt w0 w g q f0 f1 f2 bad) (hB : Below w0.heap.size w0 w) (hG : Glob w0)
    (h : codec_source_get.f k f0 f1 f2 bad = some (r1, r2, r3, r4)) :
    Calls Tryd.prog 70 #[.pointer (some ⟨q, 0, none⟩)] w fun e w' => e = .returned (.int .i64 r1) ∧ SrcAt w0 w' g q f0 r2 r3 r4 ∧ Below w0.heap.size w0 w' ∧ Kept w w' (fun k => k = g ∨ k = q) := by
  unfold codec_source_get.f at h
  obtain ⟨⟨u1, u2, u3⟩, hu, h⟩ := Option.bind_eq_some_iff.mp h
  by_cases hc : 0 ≤ u1 ∧ u1 < 6
  · rw [if_pos hc] at h
    obtain ⟨⟨z1, z2, z3⟩, hz, h⟩ := Option.bind_eq_some_iff.mp h
    simp only [Option.some.injEq, Prod.mk.injEq] at h
    obtain ⟨rfl, rfl, rfl, rfl⟩ := h
    exact codec_source_get.calls' k g q f0 f1 f2 bad u1 u2 u3 z1 z2 z3 w0 w hI hB hG hu hc.1 hc.2 hz
  · rw [if_neg hc] at h
    cases h

/-! ### codec_source_whole: function 72 -/
set_option maxHeartbeats 8000000 in
set_option maxRecDepth 100000 in
theorem codec_source_whole.calls (k : Nat) (g q : Nat) (f0 : List Int) (f1 f2 : Int) (bad : Bool) (e1 e2 e3 : Int) (w0 w : World) (hI : SrcAt w0 w g q f0 f1 f2 bad) (hB : Below w0.heap.size w0 w)
    (he : bad = false → bits_Reader_End.f k f0 f1 f2 = some (e1, e2, e3)) :
    Calls Tryd.prog 72 #[.pointer (some ⟨q, 0, none⟩)] w fun e w' => e = .returned (.bool (!bad && decide (e1 = 0))) ∧ Below w0.heap.size w0 w' ∧ Kept w w' (fun k => k = g) := by
  have h0 : w.cell? ⟨q, 0, none⟩ = some (.pointer (some ⟨g, 0, none⟩)) := (blk_cell hI.blk 0).trans rfl
  have h1 : w.cell? ⟨q, 1, none⟩ = some (.bool bad) := (blk_cell hI.blk 1).trans rfl
  go_enter Tryd.func72, Tryd.ntmps72
  cases bad with
  | true =>
    go_wp2
    go_ret
    exact ⟨rfl, hB, Kept.refl _ _⟩
  | false =>
    go_wp2_with (first | (go_at_call 107; refine (bits_Reader_End.calls k g f0 f1 f2 e1 e2 e3 w0 _ hI.rd hB (he rfl)).mono ?_; rintro e w1 ⟨rfl, hI1, hB1, hK1⟩))
    go_ret
    exact ⟨rfl, hB1, (Kept.refl _ _).of_keep hK1 (.inl rfl)⟩

end Go.Proofs.YtblbieenfghbdaaDoor.D
