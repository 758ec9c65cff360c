/- Merged texts of this seat: hand walks and plain laws that several claims share (Kg Kc Kb Kr Kw Ku Kv Kp Ki Km Kl Kq Kn Pb Pc Pi Pf Pr Ps Ph Pj Zi). -/
import Derived.Test.YtblbieenfghbdaaDoorDxA
import Derived.StillTailTactics
import Derived.BigQuiet
import Derived.Lib.SliceRun
import Derived.RangeFuncNested
import Derived.RangeFuncBound
import Derived.RangeFuncCalls
import Derived.RangeFuncLeaves
import Derived.RangeFuncFrom
import Derived.Shelf.Abstract
import Derived.Shelf.RegionOpen
import Derived.WalkKit
import Derived.OwnWalkIn
import Derived.TacticsInMore
import Derived.LoopNIn
import Derived.LoopIn
import Derived.Sort.LoopGhostIn
import Derived.Laws.BitsAllLaws
import Derived.Maps.Own
import Derived.Maps.OwnOps
import Derived.Maps.OwnSet
import Derived.Maps.Views
import Derived.Deep.RegionHeld3
section
namespace Go.Proofs.YtblbieenfghbdaaDoor.D
open Go.RowKit Go.Proofs.YtblbieenfghbdaaDoorW.PrintWords Go.Proofs.YtblbieenfghbdaaDoorW.PrintLast Go.Proofs.YtblbieenfghbdaaDoorW.PrintMore
/-- The six widths. -/
def widths : List Int := [0, 4, 8, 16, 32, 64]
/-- The table lies in the first block. -/
def Glob (w : World) : Prop := ∀ j v, widths[j]? = some v → w.cell? ⟨0, j, none⟩ = some (.int .i64 v)
theorem Glob.below {w W : World} (h : Glob w) (hB : Below w.heap.size w W) : Glob W := fun j v e => pw_cell_below hB (h j v e)
theorem Glob.at_ {w : World} (h : Glob w) (i : Int) (h0 : 0 ≤ i) (h1 : i < 6) : w.cell? ⟨0, i.toNat, none⟩ = some (.int .i64 (rd widths i)) := by
  have hl : i.toNat < widths.length := by simp only [widths, List.length_cons, List.length_nil]; omega
  refine h i.toNat _ ?_
  rw [rd, List.getD_eq_getElem?_getD, List.getElem?_eq_getElem hl]; rfl
end Go.Proofs.YtblbieenfghbdaaDoor.D
end

section
namespace Go.Proofs.YtblbieenfghbdaaDoor.D
open Go.RowKit Go.Proofs.YtblbieenfghbdaaDoorW.PrintWords Go.Proofs.YtblbieenfghbdaaDoorW.PrintLast Go.Proofs.YtblbieenfghbdaaDoorW.PrintMore
set_option linter.unusedVariables false
set_option linter.unusedSimpArgs false

set_option maxHeartbeats 8000000 in
set_option maxRecDepth 100000 in
theorem codec_trend_back.calls (g : Nat) (a b c : Int) (w0 w : World) (hI : IsS104 w0 w g a b) (hB : Below w0.heap.size w0 w) :
    Calls Tryd.prog 71 #[.pointer (some ⟨g, 0, none⟩), .int .i64 c] w fun e w' => e = .returned (.int .i64 (wrap64 (a + wrap64 (b + c)))) ∧ IsS104 w0 w' g (wrap64 (a + wrap64 (b + c))) (wrap64 (b + c)) ∧ Below w0.heap.size w0 w' ∧ KeepBut w w' g none := by
  obtain ⟨hb, hg⟩ := hI
  have h0 : w.cell? ⟨g, 0, none⟩ = some (.int .i64 a) := (blk_cell hb 0).trans rfl
  have h1 : w.cell? ⟨g, 1, none⟩ = some (.int .i64 b) := (blk_cell hb 1).trans rfl
  have f1 := blk_frozen hb 1
  go_enter Tryd.func71, Tryd.ntmps71
  go_upto_region 2 with (fail)
  have hs : (w.setCell ⟨g, 1, none⟩ (.int .i64 (wrap64 (b + c)))).heap[g]? = some (.cells #[.int .i64 a, .int .i64 (wrap64 (b + c))] 104 (0, 0)) := by simpa using blk_set hb 1 (.int .i64 (wrap64 (b + c)))
  have hB1 := below_set hB hg (j := 1) (v := .int .i64 (wrap64 (b + c)))
  have hK1 := (KeepBut.refl w g none).set_ 1 (.int .i64 (wrap64 (b + c)))
  generalize w.setCell ⟨g, 1, none⟩ (.int .i64 (wrap64 (b + c))) = W1 at hs hB1 hK1 ⊢
  clear h0 h1 f1 hb hB
  have k0 : W1.cell? ⟨g, 0, none⟩ = some (.int .i64 a) := (blk_cell hs 0).trans rfl
  have k1 : W1.cell? ⟨g, 1, none⟩ = some (.int .i64 (wrap64 (b + c))) := (blk_cell hs 1).trans rfl
  have g0 := blk_frozen hs 0
  go_still_tail 9, (by kernel_rfl)
  change wpList _ _ _ _ _ W1.drew
  replace hs := blk_drew hs
  replace hB1 := below_drew1 hB1
  replace hK1 := keep_drew hK1
  replace k0 : W1.drew.cell? ⟨g, 0, none⟩ = some (.int .i64 a) := k0
  replace g0 : W1.drew.frozen? ⟨g, 0, none⟩ = false := g0
  clear k1
  generalize W1.drew = W2 at hs hB1 hK1 k0 g0 ⊢
  go_wp2
  go_ret
  exact ⟨rfl, ⟨by simpa [i64_w] using blk_set hs 0 (.int .i64 (wrap64 (a + wrap64 (b + c)))), hg⟩, below_set hB1 hg, hK1.set_ 0 _⟩
structure SrcAt (w0 W : World) (g q : Nat) (f0 : List Int) (f1 f2 : Int) (bad : Bool) : Prop where
  rd : IsS154 w0 W g f0 f1 f2
  blk : W.heap[q]? = some (.cells #[.pointer (some ⟨g, 0, none⟩), .bool bad] 113 (0, 0))
  hq : w0.heap.size ≤ q
theorem SrcAt.ne {w0 W : World} {g q : Nat} {f0 : List Int} {f1 f2 : Int} {bad : Bool} (h : SrcAt w0 W g q f0 f1 f2 bad) : g ≠ q := h.rd.ne_blk h.blk (by decide)
theorem SrcAt.kept {w0 W W1 : World} {g q : Nat} {f0 : List Int} {f1 f2 : Int} {bad : Bool} {S : Nat → Prop} (h : SrcAt w0 W g q f0 f1 f2 bad) (hk : Kept W W1 S) (hg : ¬ S g) (hq : ¬ S q) : SrcAt w0 W1 g q f0 f1 f2 bad :=
  ⟨h.rd.kept hk hg, blk_kept h.blk hk hq, h.hq⟩

theorem wrap_in (x : Int) (h : -9223372036854775808 ≤ x) (h2 : x < 9223372036854775808) : wrap64 x = x := by
  simp only [wrap64, IntKind.wrap, IntKind.bits, IntKind.signed] <;> first | omega | (simp; omega)
theorem widths_pos (i : Int) (h0 : 0 ≤ i) (h1 : i < 6) : 0 ≤ rd widths i := by
  have : i = 0 ∨ i = 1 ∨ i = 2 ∨ i = 3 ∨ i = 4 ∨ i = 5 := by omega
  rcases this with rfl | rfl | rfl | rfl | rfl | rfl <;> decide
/-- The number of a code. -/
def codec_unzig (z : Int) : Int := bits .xor .i64 (wrap64 (z / 2)) (wrap64 (-wrap64 (bits .and .u64 z 1)))
/-- Whether a code of a wider form would have fitted a narrower one. -/
def codec_short (u z : Int) : Bool := decide (0 < u) && decide (z / 2 ^ min (rd widths (u - 1)).toNat 64 = 0)
set_option maxHeartbeats 8000000 in
set_option maxRecDepth 100000 in
theorem codec_source_get.calls' (k : Nat) (g q : Nat) (f0 : List Int) (f1 f2 : Int) (bad : Bool) (u1 u2 u3 z1 z2 z3 : Int) (w0 w : World) (hI : SrcAt w0 w g q f0 f1 f2 bad) (hB : Below w0.heap.size w0 w) (hG : Glob w0)
    (hu : bits_Reader_Unary.f k f0 f1 f2 5 = some (u1, u2, u3)) (hu0 : 0 ≤ u1) (hu6 : u1 < 6) (hz : bits_Reader_Bits.f k f0 u2 u3 (rd widths u1) = some (z1, z2, z3)) :
    Calls Tryd.prog 70 #[.pointer (some ⟨q, 0, none⟩)] w fun e w' => e = .returned (.int .i64 (codec_unzig z1)) ∧ SrcAt w0 w' g q f0 z2 z3 (bad || codec_short u1 z1) ∧ Below w0.heap.size w0 w' ∧ Kept w w' (fun k => k = g ∨ k = q) := by
  have hk0 := Kept.refl w (fun k => k = g ∨ k = q)
  have h0 : w.cell? ⟨q, 0, none⟩ = some (.pointer (some ⟨g, 0, none⟩)) := (blk_cell hI.blk 0).trans rfl
  go_enter Tryd.func70, Tryd.ntmps70
  go_wp2_with (first | (go_at_call 105; refine (bits_Reader_Unary.calls k g f0 f1 f2 5 u1 u2 u3 w0 _ hI.rd hB hu).mono ?_; rintro e w1 ⟨rfl, hI1, hB1, hK1⟩))
  have hS1 : SrcAt w0 w1 g q f0 u2 u3 bad := ⟨hI1, hK1.blk hI.blk hI.ne.symm (by simp), hI.hq⟩
  have hk1 : Kept w w1 (fun k => k = g ∨ k = q) := hk0.of_keep hK1 (.inl (.inl rfl))
  have hG1 : w1.cell? ⟨0, u1.toNat, none⟩ = some (.int .i64 (rd widths u1)) := (hG.below hB1).at_ u1 hu0 hu6
  have h01 : w1.cell? ⟨q, 0, none⟩ = some (.pointer (some ⟨g, 0, none⟩)) := (blk_cell hS1.blk 0).trans rfl
  have hq := hI.hq
  clear hB hK1 hk0 h0 hI hu
  go_still_tail 7, (by kernel_rfl)
  change wpList _ _ _ _ _ w1.drew
  replace hS1 : SrcAt w0 w1.drew g q f0 u2 u3 bad := ⟨hS1.rd.drew, blk_drew hS1.blk, hS1.hq⟩
  replace hk1 := hk1.drew
  replace hB1 := below_drew1 hB1
  clear hG1 h01 hI1
  generalize w1.drew = w2 at hS1 hB1 hk1 ⊢
  clear w1
  go_upto_region 3 with (first | (go_at_call 106; refine (bits_Reader_Bits.calls k g f0 u2 u3 (rd widths u1) z1 z2 z3 w0 _ hS1.rd hB1 hz).mono ?_; rintro e w3 ⟨rfl, hI3, hB3, hK3⟩))
  have hS3 : SrcAt w0 w3 g q f0 z2 z3 bad := ⟨hI3, hK3.blk hS1.blk hS1.ne.symm (by simp), hS1.hq⟩
  have hk3 : Kept w w3 (fun k => k = g ∨ k = q) := hk1.of_keep hK3 (.inl (.inl rfl))
  clear hB1 hK3 hk1 hS1 hz hI3
  by_cases hc : 0 < u1
  · have hc1 : decide (u1 > 0) = true := decide_eq_true hc
    have p1 : 0 ≤ u1 - 1 := by omega
    have p2 : u1 - 1 < 6 := by omega
    have hG1 : w3.cell? ⟨0, (u1 - 1).toNat, none⟩ = some (.int .i64 (rd widths (u1 - 1))) := (hG.below hB3).at_ (u1 - 1) p1 p2
    rw [show (u1 - 1).toNat = u1.toNat - 1 by omega] at hG1
    have hx : wrap64 (u1 - 1) = u1 - 1 := wrap_in _ (by omega) (by omega)
    have hn : 0 ≤ rd widths (u1 - 1) := widths_pos _ p1 p2
    have kb := (blk_cell hS3.blk 1).trans (show (#[.pointer (some ⟨g, 0, none⟩), .bool bad] : Array Value)[1]? = some (.bool bad) from rfl)
    have fb := blk_frozen hS3.blk 1
    by_cases hd : z1 / 2 ^ min (rd widths (u1 - 1)).toNat 64 = 0
    · have hd1 : (z1 / 2 ^ min (rd widths (u1 - 1)).toNat 64 == 0) = true := beq_iff_eq.mpr hd
      go_wp2
      go_ret
      refine ⟨rfl, ?_, below_set hB3 hq, hk3.setCell (.inl (.inr rfl)) _⟩
      rw [show codec_short u1 z1 = true by simp only [codec_short, hc, hd, decide_true, Bool.and_self], Bool.or_true]
      exact ⟨hS3.rd.far hS3.ne _, by simpa using blk_set hS3.blk 1 (.bool true), hS3.hq⟩
    · have hd1 : (z1 / 2 ^ min (rd widths (u1 - 1)).toNat 64 == 0) = false := beq_eq_false_iff_ne.mpr hd
      go_wp2
      go_ret
      refine ⟨rfl, ?_, hB3, hk3⟩
      rw [show codec_short u1 z1 = false by simp only [codec_short, hd, decide_false, Bool.and_false], Bool.or_false]
      exact hS3
  · have hc1 : decide (u1 > 0) = false := decide_eq_false hc
    go_wp2
    go_ret
    refine ⟨rfl, ?_, hB3, hk3⟩
    rw [show codec_short u1 z1 = false by simp only [codec_short, show ¬ 0 < u1 by omega, decide_false, Bool.false_and], Bool.or_false]
    exact hS3

/-- The next number of a source, the reader's state and the flag behind it. -/
def codec_source_get.f (k : Nat) (f0 : List Int) (f1 f2 : Int) (bad : Bool) : Option (Int × Int × Int × Bool) :=
  (bits_Reader_Unary.f k f0 f1 f2 5).bind fun u => if 0 ≤ u.1 ∧ u.1 < 6 then (bits_Reader_Bits.f k f0 u.2.1 u.2.2 (rd widths u.1)).bind fun z => some (codec_unzig z.1, z.2.1, z.2.2, bad || codec_short u.1 z.1) else none
theorem codec_source_get.calls (k : Nat) (g q : Nat) (f0 : List Int) (f1 f2 : Int) (bad : Bool) (r1 r2 r3 : Int) (r4 : Bool) (w0 w : World) (hI : SrcAt w0 w g q f0 f1 f2 bad) (hB : Below w0.heap.size w0 w) (hG : Glob w0)
    (h : codec_source_get.f k f0 f1 f2 bad = some (r1, r2, r3, r4)) :
    Calls Tryd.prog 70 #[.pointer (some ⟨q, 0, none⟩)] w fun e w' => e = .returned (.int .i64 r1) ∧ SrcAt w0 w' g q f0 r2 r3 r4 ∧ Below w0.heap.size w0 w' ∧ Kept w w' (fun k => k = g ∨ k = q) := by
  unfold codec_source_get.f at h
  obtain ⟨⟨u1, u2, u3⟩, hu, h⟩ := Option.bind_eq_some_iff.mp h
  by_cases hc : 0 ≤ u1 ∧ u1 < 6
  · rw [if_pos hc] at h
    obtain ⟨⟨z1, z2, z3⟩, hz, h⟩ := Option.bind_eq_some_iff.mp h
    simp only [Option.some.injEq, Prod.mk.injEq] at h
    obtain ⟨rfl, rfl, rfl, rfl⟩ := h
    exact codec_source_get.calls' k g q f0 f1 f2 bad u1 u2 u3 z1 z2 z3 w0 w hI hB hG hu hc.1 hc.2 hz
  · rw [if_neg hc] at h
    cases h

set_option maxHeartbeats 8000000 in
set_option maxRecDepth 100000 in
theorem codec_source_whole.calls (k : Nat) (g q : Nat) (f0 : List Int) (f1 f2 : Int) (bad : Bool) (e1 e2 e3 : Int) (w0 w : World) (hI : SrcAt w0 w g q f0 f1 f2 bad) (hB : Below w0.heap.size w0 w)
    (he : bad = false → bits_Reader_End.f k f0 f1 f2 = some (e1, e2, e3)) :
    Calls Tryd.prog 72 #[.pointer (some ⟨q, 0, none⟩)] w fun e w' => e = .returned (.bool (!bad && decide (e1 = 0))) ∧ Below w0.heap.size w0 w' ∧ Kept w w' (fun k => k = g) := by
  have h0 : w.cell? ⟨q, 0, none⟩ = some (.pointer (some ⟨g, 0, none⟩)) := (blk_cell hI.blk 0).trans rfl
  have h1 : w.cell? ⟨q, 1, none⟩ = some (.bool bad) := (blk_cell hI.blk 1).trans rfl
  go_enter Tryd.func72, Tryd.ntmps72
  cases bad with
  | true =>
    go_wp2
    go_ret
    exact ⟨rfl, hB, Kept.refl _ _⟩
  | false =>
    go_wp2_with (first | (go_at_call 107; refine (bits_Reader_End.calls k g f0 f1 f2 e1 e2 e3 w0 _ hI.rd hB (he rfl)).mono ?_; rintro e w1 ⟨rfl, hI1, hB1, hK1⟩))
    go_ret
    exact ⟨rfl, hB1, (Kept.refl _ _).of_keep hK1 (.inl rfl)⟩

end Go.Proofs.YtblbieenfghbdaaDoor.D
end

section
namespace Go.Proofs.YtblbieenfghbdaaDoor.D
open Go.RowKit Go.Proofs.YtblbieenfghbdaaDoorW.PrintWords Go.Proofs.YtblbieenfghbdaaDoorW.PrintLast Go.Proofs.YtblbieenfghbdaaDoorW.PrintMore
set_option linter.unusedVariables false
set_option linter.unusedSimpArgs false
@[local go_sem] theorem eqlNil23 (W : World) (a : Option Addr) (n c : Nat) : (binOp .eql 23 (.slice a n c) (.slice none 0 0)).run Tryd.prog W = .ok (.bool a.isNone) W := Lib.run_eql_slice_nil W 23 5 a n c 0 0 Tryd.underlying23
set_option maxHeartbeats 8000000 in
set_option maxRecDepth 100000 in
theorem slices_Clone.calls (A0 : Option Addr) (c0 : Nat) (l0 : List Int) (w : World) (hr0 : Kd.C (Kd.int .u8) w A0 l0.length l0) (hl : l0.length ≤ 140737488355328) :
    Calls Tryd.prog 89 #[.slice A0 l0.length c0] w fun e w' => ∃ v : Value, e = .returned v ∧ Kd.R (Kd.int .u8) 5 w' w.heap.size (fun _ => True) v l0 ∧ Below w.heap.size w w' := by
  go_enter Tryd.func89, Tryd.ntmps89
  cases A0 with
  | none =>
    have hn : l0 = [] := by
      cases l0 with
      | nil => rfl
      | cons x xs => obtain ⟨ad, e, _⟩ := Kd.at_int hr0 0 (by omega) (by simp); cases e
    subst hn
    go_wp2
    go_ret
    exact ⟨_, rfl, Kd.R_nil _ _ _ _ (fun _ => True), Below.refl _ _⟩
  | some ad =>
    go_wp2_with (first | ((with_reducible refine gate_dst (N := 5) rfl ?_); refine Kd.R_lit (Kd.int .u8) _ 5 ?hg (N := 5) ?hd (xs := ([] : List Int)) (inner := []) (ok := fun _ => True) (okp := fun _ => True) ?hr ?hp (fun _ hk => hk) trivial (Below.refl _ _) (Nat.le_refl _) (by simp) ?_; (case hd => rfl); (case hg => rfl); (case hr => first | (go_simp; done) | (go_simp; rfl)); (case hp => exact (Reps.none _ _)); intro v1 w1 ho hb hg_ hnew_; clear hg_ hnew_) | ((with_reducible refine gate_builtin (b := .append) (xs := #[.tmp 5, .tmp 6]) rfl ?_); at_builtin; refine Kd.R_append_rows (Kd.int .u8) (w0 := w) w.heap.size rfl (.tmp 5) (.tmp 6) 23 5 (.int .u8 0) 1 rfl Tryd.underlying23 info5 rfl (by decide) (by omega) v1 ([] : List Int) l0 _ _ _ (fun _ => True) (fun _ => False) rfl rfl ho (Kd.C_below hr0 hb) (fun _ _ h => h) (fun _ h => h.elim) (fun _ _ => trivial) hb hb.size (by simpa using hl) ?_; intro v2 w2 ho2 hb2 hg2 hat2))
    go_ret
    exact ⟨v2, rfl, by simpa using ho2, hb2⟩

set_option maxHeartbeats 8000000 in
set_option maxRecDepth 100000 in
theorem bits_Read.calls (A0 : Option Addr) (c0 : Nat) (l0 : List Int) (w : World) (hr0 : Kd.C (Kd.int .u8) w A0 l0.length l0) (hl : l0.length ≤ 140737488355328) :
    Calls Tryd.prog 69 #[.slice A0 l0.length c0] w fun e w' => ∃ (w0 : World) (g : Nat), e = .returned (.pointer (some ⟨g, 0, none⟩)) ∧ IsS154 w0 w' g l0 0 0 ∧ Below w.heap.size w w0 ∧ Below w0.heap.size w0 w' := by
  go_enter Tryd.func69, Tryd.ntmps69
  go_wp2_with (first | (go_at_call 89; refine (slices_Clone.calls A0 c0 l0 w hr0 hl).mono ?_; rintro e w1 ⟨v, rfl, hR, hB⟩; obtain ⟨A1, c1, rfl⟩ := Kd.R_slice hR))
  go_ret
  exact ⟨w1, w1.heap.size, rfl, IsS154.new w1 w1 A1 c1 l0 0 0 (Below.refl _ _) (Kd.R_reads' hR).2.2, hB, below_alloc (Below.refl _ _) _⟩
end Go.Proofs.YtblbieenfghbdaaDoor.D
end

section
namespace Go.Proofs.YtblbieenfghbdaaDoor.D
open Go.RowKit Go.Proofs.YtblbieenfghbdaaDoorW.PrintWords Go.Proofs.YtblbieenfghbdaaDoorW.PrintLast Go.Proofs.YtblbieenfghbdaaDoorW.PrintMore
set_option linter.unusedVariables false
set_option linter.unusedSimpArgs false
/-- The rounds of ReadInts. -/
def codec_ReadInts.l0 (k : Nat) (f0 : List Int) : Nat → Int → Int → Bool → Int → Int → List Int → Option (List Int × Int × Int × Bool)
  | 0, f1, f2, bad, _, _, out => some (out, f1, f2, bad)
  | m + 1, f1, f2, bad, a, b, out => (codec_source_get.f k f0 f1 f2 bad).bind fun r =>
      if out.length < 17592186044416 then codec_ReadInts.l0 k f0 m r.2.1 r.2.2.1 r.2.2.2 (wrap64 (a + wrap64 (b + r.1))) (wrap64 (b + r.1)) (out ++ [wrap64 (a + wrap64 (b + r.1))]) else none
/-- The list of an encoding, or the error. -/
def codec_ReadInts.f (k : Nat) (l0 : List Int) : Option (List Int × Int) :=
  if l0.length ≤ 140737488355328 then
    (codec_source_get.f k l0 0 0 false).bind fun r =>
      if r.1 < 0 then some ([], 2) else if 8 * (l0.length : Int) < r.1 then some ([], 2) else
        (codec_ReadInts.l0 k l0 r.1.toNat r.2.1 r.2.2.1 r.2.2.2 0 0 []).bind fun s =>
          if s.2.2.2 = true then some ([], 2) else (bits_Reader_End.f k l0 s.2.1 s.2.2.1).bind fun e => if e.1 = 0 then some (s.1, 0) else some ([], 2)
  else none
theorem codec_source_get.mono (f0 : List Int) (f1 f2 : Int) (bad : Bool) (k : Nat) : LeO (codec_source_get.f k f0 f1 f2 bad) (codec_source_get.f (k + 1) f0 f1 f2 bad) := by
  unfold codec_source_get.f
  refine LeO.bind (bits_Reader_Unary.mono _ _ _ _ _) (fun u => LeO.ite (LeO.bind (bits_Reader_Bits.mono _ _ _ _ _) (fun z => LeO.refl _)) (LeO.refl _))
theorem codec_ReadInts.mono_l (f0 : List Int) (k : Nat) : ∀ (m : Nat) (f1 f2 : Int) (bad : Bool) (a b : Int) (out : List Int), LeO (codec_ReadInts.l0 k f0 m f1 f2 bad a b out) (codec_ReadInts.l0 (k + 1) f0 m f1 f2 bad a b out)
  | 0, _, _, _, _, _, _ => LeO.refl _
  | m + 1, f1, f2, bad, a, b, out => LeO.bind (codec_source_get.mono f0 f1 f2 bad k) (fun r => LeO.ite (codec_ReadInts.mono_l f0 k m _ _ _ _ _ _) (LeO.refl _))
theorem codec_ReadInts.mono (l0 : List Int) (k : Nat) : LeO (codec_ReadInts.f k l0) (codec_ReadInts.f (k + 1) l0) := by
  unfold codec_ReadInts.f
  refine LeO.ite (LeO.bind (codec_source_get.mono _ _ _ _ _) (fun r => LeO.ite (LeO.refl _) (LeO.ite (LeO.refl _) (LeO.bind (codec_ReadInts.mono_l _ _ _ _ _ _ _ _ _) (fun s => LeO.ite (LeO.refl _) (LeO.bind (bits_Reader_End.mono _ _ _ _) (fun e => LeO.refl _))))))) (LeO.refl _)
/-- The source, the trend and the list of a round. -/
structure RI (w0 W : World) (g q p : Nat) (f0 : List Int) (f1 f2 : Int) (bad : Bool) (a b : Int) (v : Value) (out : List Int) : Prop where
  src : SrcAt w0 W g q f0 f1 f2 bad
  tr : IsS104 w0 W p a b
  own : Kd.R (Kd.int .i64) 3 W w0.heap.size (fun k => k ≠ g ∧ k ≠ q ∧ k ≠ p) v out
  bel : Below w0.heap.size w0 W
theorem RI.gp {w0 W : World} {g q p : Nat} {f0 : List Int} {f1 f2 : Int} {bad : Bool} {a b : Int} {v : Value} {out : List Int} (h : RI w0 W g q p f0 f1 f2 bad a b v out) : p ≠ g ∧ p ≠ q :=
  ⟨fun e => h.src.rd.ne_blk h.tr.1 (by decide) e.symm, fun e => by
    have h1 := h.src.blk; have h2 := h.tr.1; rw [e, h1] at h2; injection h2 with h2; injection h2 with _ h2; cases h2⟩
theorem RI.get {w0 W W1 : World} {g q p : Nat} {f0 : List Int} {f1 f2 f1' f2' : Int} {bad bad' : Bool} {a b : Int} {v : Value} {out : List Int} (h : RI w0 W g q p f0 f1 f2 bad a b v out)
    (hs : SrcAt w0 W1 g q f0 f1' f2' bad') (hb : Below w0.heap.size w0 W1) (hk : Kept W W1 (fun k => k = g ∨ k = q)) : RI w0 W1 g q p f0 f1' f2' bad' a b v out :=
  ⟨hs, h.tr.kept hk (fun e => e.elim h.gp.1 h.gp.2), Kd.R_kept h.own hk (fun k hk e => e.elim hk.1 hk.2.1), hb⟩
theorem RI.back {w0 W W1 : World} {g q p : Nat} {f0 : List Int} {f1 f2 : Int} {bad : Bool} {a b a' b' : Int} {v : Value} {out : List Int} (h : RI w0 W g q p f0 f1 f2 bad a b v out)
    (hs : IsS104 w0 W1 p a' b') (hb : Below w0.heap.size w0 W1) (hk : KeepBut W W1 p none) : RI w0 W1 g q p f0 f1 f2 bad a' b' v out := by
  have hK : Kept W W1 (fun k => k = p) := (Kept.refl W _).of_keep hk (.inl rfl)
  exact ⟨h.src.kept hK (fun e => h.gp.1 e.symm) (fun e => h.gp.2 e.symm), hs, Kd.R_keep h.own hk (fun k hk => hk.2.2), hb⟩
theorem RI.app {w0 W W1 : World} {g q p : Nat} {f0 : List Int} {f1 f2 : Int} {bad : Bool} {a b : Int} {v v1 : Value} {out out1 : List Int} (h : RI w0 W g q p f0 f1 f2 bad a b v out)
    (ho : Kd.R (Kd.int .i64) 3 W1 w0.heap.size (fun k => k ≠ g ∧ k ≠ q ∧ k ≠ p) v1 out1) (hb : Below w0.heap.size w0 W1) (hg : W.grownBy W1 v.ownBlock) : RI w0 W1 g q p f0 f1 f2 bad a b v1 out1 := by
  have hK : Kept W W1 (fun k => some k = v.ownBlock) := (Kept.refl W _).of_grown hg (fun k e => .inl e.symm)
  have hn : ∀ k, some k = v.ownBlock → k ≠ g ∧ k ≠ q ∧ k ≠ p := fun k e => h.own.1 k e.symm
  exact ⟨h.src.kept hK (fun e => (hn _ e).1 rfl) (fun e => (hn _ e).2.1 rfl), h.tr.kept hK (fun e => (hn _ e).2.2 rfl), ho, hb⟩

set_option maxHeartbeats 8000000 in
set_option maxRecDepth 100000 in
theorem codec_ReadInts.calls (k : Nat) (A0 : Option Addr) (c0 : Nat) (l0 : List Int) (r1 : List Int) (r2 : Int) (w : World) (hr0 : Kd.C (Kd.int .u8) w A0 l0.length l0) (hc0 : l0.length ≤ c0) (hG : Glob w) (h : codec_ReadInts.f k l0 = some (r1, r2)) :
    Calls Tryd.prog 22 #[.slice A0 l0.length c0] w fun e w' => ∃ v0_ : Value, e = .returned (.tuple #[v0_, .int .i64 r2]) ∧ Kd.R (Kd.int .i64) 3 w' w.heap.size (fun _ => True) v0_ r1 ∧ Below w.heap.size w w' := by
  unfold codec_ReadInts.f at h
  have hl : l0.length ≤ 140737488355328 := by
    by_cases hl : l0.length ≤ 140737488355328
    · exact hl
    · rw [if_neg hl] at h; cases h
  rw [if_pos hl] at h
  obtain ⟨⟨n, m1, m2, mb⟩, hget, h⟩ := Option.bind_eq_some_iff.mp h
  have H := Aside0.mk h
  have HGET := Aside0.mk hget
  clear h hget
  go_enter Tryd.func22, Tryd.ntmps22
  go_wp2_with (first | (go_at_call 69; refine (bits_Read.calls A0 c0 l0 w hr0 hl).mono ?_; rintro e w1 ⟨w0, g, rfl, hI, hw0, hw1⟩) | (go_at_call 70; fail))
  have hS : SrcAt w0 (w1.alloc (.cells #[.pointer (some ⟨g, 0, none⟩), .bool false] 113)) g w1.heap.size l0 0 0 false := ⟨hI.alloc _, by simpa using heap_alloc_new w1 _, hw1.size⟩
  have hB2 : Below w0.heap.size w0 (w1.alloc (.cells #[.pointer (some ⟨g, 0, none⟩), .bool false] 113)) := below_alloc hw1 _
  generalize hq : w1.heap.size = q at hS ⊢
  clear hq
  generalize w1.alloc (.cells #[.pointer (some ⟨g, 0, none⟩), .bool false] 113) = w2 at hS hB2 ⊢
  clear hI hw1
  have hG0 : Glob w0 := hG.below hw0
  refine (codec_source_get.calls k g q l0 0 0 false n m1 m2 mb w0 w2 hS hB2 hG0 HGET.out).mono ?_
  rintro e w3 ⟨rfl, hS3, hB3, hK3⟩
  clear hS hB2 hK3 HGET hG
  have h := H.out
  clear H
  have hx : wrap64 (8 * (l0.length : Int)) = 8 * (l0.length : Int) := wrap_in _ (by omega) (by omega)
  by_cases c1 : n < 0
  · rw [if_pos c1] at h
    simp only [Option.some.injEq, Prod.mk.injEq] at h
    obtain ⟨rfl, rfl⟩ := h
    have c1b : decide (n < 0) = true := decide_eq_true c1
    clear c1
    go_wp2
    go_ret2
    exact ⟨_, rfl, Kd.R_nil _ _ _ _ (fun _ => True), below_then hw0 hw0.size hB3⟩
  rw [if_neg c1] at h
  have c1b : decide (n < 0) = false := decide_eq_false c1
  by_cases c2 : 8 * (l0.length : Int) < n
  · rw [if_pos c2] at h
    simp only [Option.some.injEq, Prod.mk.injEq] at h
    obtain ⟨rfl, rfl⟩ := h
    have c2b : decide (n > 8 * (l0.length : Int)) = true := decide_eq_true c2
    clear c1 c2
    go_wp2
    go_ret2
    exact ⟨_, rfl, Kd.R_nil _ _ _ _ (fun _ => True), below_then hw0 hw0.size hB3⟩
  rw [if_neg c2] at h
  have c2b : decide (n > 8 * (l0.length : Int)) = false := decide_eq_false c2
  obtain ⟨⟨out, s1, s2, sb⟩, hloop, h⟩ := Option.bind_eq_some_iff.mp h
  have H := Aside0.mk h
  have HL := Aside0.mk hloop
  clear h hloop
  have hn : (0 : Int) ≤ n := by omega
  have hn2 : n ≤ 8 * (l0.length : Int) := by omega
  clear c1 c2
  go_wp2
  have hRI : RI w0 (w3.alloc (.cells #[.int .i64 0, .int .i64 0] 104)) g q w3.heap.size l0 m1 m2 mb 0 0 (.slice none 0 0) [] :=
    ⟨⟨hS3.rd.alloc _, blk_alloc hS3.blk _, hS3.hq⟩, ⟨by simpa using heap_alloc_new w3 _, hB3.size⟩, Kd.R_nil _ _ _ _ _, below_alloc hB3 _⟩
  generalize w3.heap.size = p at hRI ⊢
  generalize w3.alloc (.cells #[.int .i64 0, .int .i64 0] 104) = w4 at hRI ⊢
  clear hS3 hB3 w3 w2 w1
  have hRI0 := Aside0.mk hRI
  clear hRI
  go_loopg [7, 24] n.toNat (fun kq v7 v24 w' => ∃ (f1 f2 : Int) (bad : Bool) (a b i : Int) (o : List Int), v24 = .int .i64 i ∧ Aside0 (RI w0 w' g q p l0 f1 f2 bad a b v7 o) ∧ Aside0 (0 ≤ i ∧ i + (kq : Int) = n) ∧ Aside0 (codec_ReadInts.l0 k l0 kq f1 f2 bad a b o = some (out, s1, s2, sb)))
  case atStart => exact ⟨m1, m2, mb, 0, 0, 0, [], rfl, hRI0, ⟨by omega⟩, HL⟩
  case round =>
    obtain ⟨f1, f2, bad, a, b, i, o, rfl, hr, hi, hl0⟩ := hrel
    cases gk with
    | zero =>
      have cb : decide (i < n) = false := decide_eq_false (by have := hi.out; omega)
      have h := hl0.out
      simp only [codec_ReadInts.l0, Option.some.injEq, Prod.mk.injEq] at h
      obtain ⟨rfl, rfl, rfl, rfl⟩ := h
      have h := H.out
      clear H hl0
      cases bad with
      | true =>
        rw [if_pos rfl] at h
        simp only [Option.some.injEq, Prod.mk.injEq] at h
        obtain ⟨rfl, rfl⟩ := h
        go_wp2_with (first | (go_at_call 72; refine (codec_source_whole.calls k g q l0 f1 f2 true 0 0 0 w0 _ hr.out.src hr.out.bel (fun e => by cases e)).mono ?_; rintro e w5 ⟨rfl, hB5, hK5⟩))
        go_ret2
        exact ⟨_, rfl, Kd.R_nil _ _ _ _ (fun _ => True), below_then hw0 hw0.size hB5⟩
      | false =>
        rw [if_neg (by decide)] at h
        obtain ⟨⟨e1, e2, e3⟩, hend, h⟩ := Option.bind_eq_some_iff.mp h
        by_cases he : e1 = 0
        · rw [if_pos he] at h
          simp only [Option.some.injEq, Prod.mk.injEq] at h
          obtain ⟨rfl, rfl⟩ := h
          subst he
          go_wp2_with (first | (go_at_call 72; refine (codec_source_whole.calls k g q l0 f1 f2 false 0 e2 e3 w0 _ hr.out.src hr.out.bel (fun _ => hend)).mono ?_; rintro e w5 ⟨rfl, hB5, hK5⟩))
          go_ret2
          exact ⟨_, rfl, Kd.R_mono (Kd.R_lower (Kd.R_kept hr.out.own hK5 (fun k hk e => hk.1 e)) hw0.size) (fun _ _ => trivial), below_then hw0 hw0.size hB5⟩
        · rw [if_neg he] at h
          simp only [Option.some.injEq, Prod.mk.injEq] at h
          obtain ⟨rfl, rfl⟩ := h
          have he1 : decide (e1 = 0) = false := decide_eq_false he
          go_wp2_with (first | (go_at_call 72; refine (codec_source_whole.calls k g q l0 f1 f2 false e1 e2 e3 w0 _ hr.out.src hr.out.bel (fun _ => hend)).mono ?_; rintro e w5 ⟨rfl, hB5, hK5⟩))
          go_ret2
          exact ⟨_, rfl, Kd.R_nil _ _ _ _ (fun _ => True), below_then hw0 hw0.size hB5⟩
    | succ m =>
      have cb : decide (i < n) = true := decide_eq_true (by have := hi.out; omega)
      have h := hl0.out
      unfold codec_ReadInts.l0 at h
      obtain ⟨⟨x, f1', f2', bad'⟩, hget, h⟩ := Option.bind_eq_some_iff.mp h
      have hlen : o.length < 17592186044416 := by
        by_cases hc : o.length < 17592186044416
        · exact hc
        · rw [if_neg hc] at h; cases h
      rw [if_pos hlen] at h
      have h' := Aside0.mk h
      have hget' := Aside0.mk hget
      clear h hget hl0
      go_wp2_with (first | (go_at_call 70; refine (codec_source_get.calls k g q l0 f1 f2 bad x f1' f2' bad' w0 _ hr.out.src hr.out.bel hG0 hget'.out).mono ?_; rintro e w5 ⟨rfl, hS5, hB5, hK5⟩; have hr5 := Aside0.mk (hr.out.get hS5 hB5 hK5); clear hS5 hB5 hK5) | (go_at_call 71; refine (codec_trend_back.calls p a b x w0 _ hr5.out.tr hr5.out.bel).mono ?_; rintro e w6 ⟨rfl, hT6, hB6, hK6⟩; have hr6 := Aside0.mk (hr5.out.back hT6 hB6 hK6); clear hT6 hB6 hK6) | ((with_reducible refine gate_builtin (b := .append) (xs := #[.tmp 26, .tmp 30]) rfl ?_); at_builtin; refine Kd.R_append (Kd.int .i64) (w0 := w0) w0.heap.size rfl (.tmp 26) (.tmp 30) 22 3 (.int .i64 0) 8 rfl Tryd.underlying22 info3 rfl (by decide) (by omega) u7 o (wrap64 (a + wrap64 (b + x))) [.int .i64 (wrap64 (a + wrap64 (b + x)))] (fun k => k ≠ g ∧ k ≠ q ∧ k ≠ p) (fun _ => False) rfl rfl rfl (fun _ hk => hk.elim) ?aF hr6.out.own hr6.out.bel hr6.out.bel.size (by omega) ?_; (case aF => intro k_ hk; have h1 := hr6.out.src.rd.lt; have h2 := blk_lt hr6.out.src.blk; have h3 := hr6.out.tr.lt; omega); intro v7 w7 ho7 hb7 hg7 hat7; have hr7 := Aside0.mk (hr6.out.app ho7 hb7 hg7); clear ho7 hb7 hg7 hat7))
      have hi1 : wrap64 (i + 1) = i + 1 := wrap_in _ (by have := hi.out; omega) (by have := hi.out; omega)
      go_roundg m
      case measure => omega
      case rel => exact ⟨f1', f2', bad', _, _, i + 1, _, by first | rfl | simp [*], hr7, ⟨by have := hi.out; omega⟩, h'⟩
end Go.Proofs.YtblbieenfghbdaaDoor.D
end

section
namespace Go.Proofs.YtblbieenfghbdaaDoor.D
open Go.RowKit Go.Proofs.YtblbieenfghbdaaDoorW.PrintWords Go.Proofs.YtblbieenfghbdaaDoorW.PrintLast Go.Proofs.YtblbieenfghbdaaDoorW.PrintMore
set_option linter.unusedVariables false
set_option linter.unusedSimpArgs false
/-- A writer at block g, its bytes in a row of its own. -/
structure Wr (w0 W : World) (g : Nat) (bs : List Int) (n : Int) (v : Value) : Prop where
  blk : W.heap[g]? = some (.cells #[v, .int .i64 n] 100 (0, 0))
  hg : w0.heap.size ≤ g
  own : Kd.R (Kd.int .u8) 5 W w0.heap.size (fun k => k ≠ g) v bs
  bel : Below w0.heap.size w0 W
/-- What stands outside of the writer's block and of rows of bytes, stays. -/
def KeepT (w W : World) (g : Nat) : Prop := w.heap.size ≤ W.heap.size ∧ ∀ k o, w.heap[k]? = some o → k ≠ g → (∀ cs fr, o ≠ .cells cs 5 fr) → W.heap[k]? = some o
theorem KeepT.refl (w : World) (g : Nat) : KeepT w w g := ⟨Nat.le_refl _, fun _ _ h _ _ => h⟩
theorem KeepT.trans {w W W2 : World} {g : Nat} (h : KeepT w W g) (k : KeepT W W2 g) : KeepT w W2 g := ⟨Nat.le_trans h.1 k.1, fun i o hi hn ht => k.2 i o (h.2 i o hi hn ht) hn ht⟩
theorem KeepT.below {w W : World} (h : Below w.heap.size w W) (g : Nat) : KeepT w W g := ⟨h.size, fun i o hi _ _ => (h.block i (blk_lt hi)).trans hi⟩
theorem KeepT.set_ {w W : World} {g : Nat} (h : KeepT w W g) (j : Nat) (u : Value) : KeepT w (W.setCell ⟨g, j, none⟩ u) g :=
  ⟨by simpa using h.1, fun i o hi hn ht => (Below.heap_setCell W ⟨g, j, none⟩ u i hn).trans (h.2 i o hi hn ht)⟩
theorem KeepT.drewN {w W : World} {g : Nat} (h : KeepT w W g) (m : Nat) : KeepT w (W.drewN m) g := h
theorem KeepT.drew {w W : World} {g : Nat} (h : KeepT w W g) : KeepT w W.drew g := h
theorem KeepT.alloc {w W : World} {g : Nat} (h : KeepT w W g) (o : Obj) : KeepT w (W.alloc o) g := h.trans (KeepT.below (below_alloc (Below.refl _ _) o) g)
theorem KeepT.grown {w W W2 : World} {g : Nat} {v : Value} {base : Nat} {ok : Nat → Prop} {bs : List Int} (h : KeepT w W g) (ho : Kd.R (Kd.int .u8) 5 W base ok v bs) (hg : W.grownBy W2 v.ownBlock) : KeepT w W2 g :=
  ⟨Nat.le_trans h.1 hg.size, fun i o hi hn ht => by
    have hW := h.2 i o hi hn ht
    refine (hg.block i (blk_lt hW) (fun e => ?_)).trans hW
    have hb := (Kd.R_bound ho).1 i e.symm
    obtain ⟨_, _, _, q, hq, cs, hc⟩ := hb
    rw [hW] at hc
    injection hc with hc
    have hq5 : q = 5 := by simpa [Kd.int, Kd.scalar] using hq
    subst hq5
    exact ht cs _ hc⟩
theorem Wr.drew {w0 W : World} {g : Nat} {bs : List Int} {n : Int} {v : Value} (h : Wr w0 W g bs n v) : Wr w0 W.drew g bs n v := ⟨h.blk, h.hg, Kd.R_drew h.own, below_drew1 h.bel⟩

/-- The bits of a byte behind a bit's entry. -/
def pushByte (x at_ bit : Int) : Int := bits .or .u8 x (IntKind.u8.wrap (IntKind.u8.wrap (bits .and .u64 bit 1) * 2 ^ (7 - at_).toNat))
/-- A stream's bytes behind one more bit. -/
def pushBits (bs : List Int) (n bit : Int) : List Int :=
  let at_ := Int.tmod n 8
  let xs := if at_ = 0 then bs ++ [0] else bs
  let ix := (xs.length : Int) - 1
  xs.set ix.toNat (pushByte (rdOf 0 xs ix) at_ bit)
set_option maxHeartbeats 8000000 in
set_option maxRecDepth 100000 in
theorem bits_Writer_push.calls (g : Nat) (bs : List Int) (n bit : Int) (v : Value) (w0 w : World) (hI : Wr w0 w g bs n v) (hn : 0 ≤ n) (hb : Int.tmod n 8 ≠ 0 → bs ≠ []) (hl : bs.length < 140737488355328) :
    Calls Tryd.prog 129 #[.pointer (some ⟨g, 0, none⟩), .int .u64 bit] w fun e w' => e = .returned (.tuple #[]) ∧ ∃ v', Wr w0 w' g (pushBits bs n bit) (wrap64 (n + 1)) v' ∧ KeepT w w' g := by
  have h0 : w.cell? ⟨g, 0, none⟩ = some v := (blk_cell hI.blk 0).trans rfl
  have h1 : w.cell? ⟨g, 1, none⟩ = some (.int .i64 n) := (blk_cell hI.blk 1).trans rfl
  have f0 := blk_frozen hI.blk 0
  obtain ⟨at_, hat⟩ : ∃ x, Int.tmod n 8 = x := ⟨_, rfl⟩
  rw [hat] at hb
  obtain ⟨A, c, rfl⟩ := Kd.R_slice hI.own
  have ha0 : 0 ≤ at_ := by rw [← hat]; exact Int.tmod_nonneg 8 hn
  have ha8 : at_ < 8 := by rw [← hat]; exact Int.tmod_lt_of_pos n (by decide)
  go_enter Tryd.func129, Tryd.ntmps129
  have hc : True := trivial
  by_cases c0 : at_ = 0
  · have c0b : (at_ == 0) = true := beq_iff_eq.mpr c0
    replace c0 := Aside0.mk c0
    go_upto_region 3 with (first | ((with_reducible refine gate_builtin (b := .append) (xs := #[.tmp 16, .tmp 17]) rfl ?_); at_builtin; refine Kd.R_append (Kd.int .u8) (w0 := w0) w0.heap.size rfl (.tmp 16) (.tmp 17) 23 5 (.int .u8 0) 1 rfl Tryd.underlying23 info5 rfl (by decide) (by omega) (.slice A bs.length c) bs 0 [.int .u8 0] (fun k => k ≠ g) (fun _ => False) rfl rfl rfl (fun _ hk => hk.elim) (fun k hk => by have := blk_lt hI.blk; omega) hI.own hI.bel hI.bel.size (by omega) ?_; intro v1 w1 ho1 hb1 hg1 hat1; obtain ⟨A1, c1, rfl⟩ := Kd.R_slice ho1; have bk1 := blk_grown hI.blk hg1 (fun e => hI.own.1 g e.symm rfl); have f1 := blk_frozen bk1 0; have q1 : w1.cell? ⟨g, 0, none⟩ = some (.slice A bs.length c) := (blk_cell bk1 0).trans rfl; clear h0 h1 f0))
    obtain ⟨xs, hxs⟩ : ∃ xs : List Int, xs = bs ++ [0] := ⟨_, rfl⟩
    have hL : bs.length + 1 = xs.length := by rw [hxs]; simp
    rw [← hxs] at ho1
    rw [hL]
    have hp : 0 < xs.length := by omega
    have hW : Wr w0 (w1.setCell ⟨g, 0, none⟩ (.slice A1 xs.length c1)) g xs n (.slice A1 xs.length c1) :=
      ⟨by simpa using blk_set bk1 0 (.slice A1 xs.length c1), hI.hg, Kd.R_far (p := ⟨g, 0, none⟩) ho1 (fun k hk => hk) _, below_set hb1 hI.hg⟩
    have hk : KeepT w (w1.setCell ⟨g, 0, none⟩ (.slice A1 xs.length c1)) g := ((KeepT.refl w g).grown hI.own hg1).set_ 0 _
    generalize w1.setCell ⟨g, 0, none⟩ (.slice A1 xs.length c1) = W at hW hk ⊢
    have hl2 : xs.length ≤ 140737488355328 := by omega
    clear ho1 hb1 hg1 hat1 bk1 f1 q1 hI
    have hx : xs = if at_ = 0 then bs ++ [0] else bs := by rw [if_pos c0.out]; exact hxs
    obtain ⟨go, co, eo, gb, gl, cl, HGo⟩ := Kd.R_form hW.own hp
    cases eo
    have hne : go ≠ g := hW.own.1 go rfl
    obtain ⟨ix, hix⟩ : ∃ i : Int, (xs.length : Int) - 1 = i := ⟨_, rfl⟩
    have hwx : wrap64 ((xs.length : Int) - 1) = ix := by rw [← hix]; exact wrap_in _ (by omega) (by omega)
    have p9 : 0 ≤ ix := by omega
    have q9 : ix < (xs.length : Int) := by omega
    obtain ⟨hy, hz⟩ := Kd.R_celln 0 hW.own ix p9 q9
    have k0 : W.cell? ⟨g, 0, none⟩ = some (.slice (some ⟨go, 0, none⟩) xs.length c1) := (blk_cell hW.blk 0).trans rfl
    have ha7 : wrap64 (7 - at_) = 7 - at_ := wrap_in _ (by omega) (by omega)
    have hs7 : 0 ≤ 7 - at_ := by omega
    have hwx' : IntKind.i64.wrap ((xs.length : Int) - 1) = ix := (i64_w _).trans hwx
    have ha7' : IntKind.i64.wrap (7 - at_) = 7 - at_ := (i64_w _).trans ha7
    replace hx := Aside0.mk hx
    replace hix := Aside0.mk hix
    replace hat := Aside0.mk hat
    replace hc := Aside0.mk hc
    clear hxs
    try clear hL
    clear hl hl2
    go_still_tail 19, (by kernel_rfl)
    change wpList _ _ _ _ _ W.drew
    have hW1 := hW.drew
    replace hk := hk.drew
    replace hy : W.drew.cell? ⟨go, ix.toNat, none⟩ = some (.int .u8 (rdOf 0 xs ix)) := hy
    replace hz : W.drew.frozen? ⟨go, ix.toNat, none⟩ = false := hz
    clear k0 hW HGo hwx hwx'
    generalize W.drew = W1 at hW1 hk hy hz ⊢
    go_upto_region 4 with (fail)
    obtain ⟨HP, HG⟩ := Kd.R_putg hW1.own ix (pushByte (rdOf 0 xs ix) at_ bit)
    have hW2 : Wr w0 (W1.setCell ⟨go, ix.toNat, none⟩ (.int .u8 (pushByte (rdOf 0 xs ix) at_ bit))) g (xs.set ix.toNat (pushByte (rdOf 0 xs ix) at_ bit)) n (.slice (some ⟨go, 0, none⟩) xs.length c1) :=
      ⟨blk_far hW1.blk (p := ⟨go, ix.toNat, none⟩) (fun e => hne e.symm) _, hW1.hg, HP, below_set hW1.bel gb⟩
    replace hk := hk.grown hW1.own HG
    change Code.wp _ _ _ _ (W1.setCell ⟨go, ix.toNat, none⟩ (.int .u8 (pushByte (rdOf 0 xs ix) at_ bit)))
    generalize W1.setCell ⟨go, ix.toNat, none⟩ (.int .u8 (pushByte (rdOf 0 xs ix) at_ bit)) = W2 at hW2 hk ⊢
    clear HP HG hy hz hW1
    have k1 : W2.cell? ⟨g, 1, none⟩ = some (.int .i64 n) := (blk_cell hW2.blk 1).trans rfl
    have f1 := blk_frozen hW2.blk 1
    go_wp2
    go_end0
    refine ⟨rfl, .slice (some ⟨go, 0, none⟩) xs.length c1, ?_, hk.set_ 1 _⟩
    have he : pushBits bs n bit = xs.set ix.toNat (pushByte (rdOf 0 xs ix) at_ bit) := by
      rw [pushBits, hat.out, ← hx.out, hix.out]
    rw [he]
    exact ⟨by simpa using blk_set hW2.blk 1 (.int .i64 (wrap64 (n + 1))), hW2.hg, Kd.R_far (p := ⟨g, 1, none⟩) hW2.own (fun k hk => hk) _, below_set hW2.bel hW2.hg⟩
  · have c0b : (at_ == 0) = false := beq_eq_false_iff_ne.mpr c0
    obtain ⟨xs, hxs⟩ : ∃ xs : List Int, xs = bs := ⟨_, rfl⟩
    rw [← hxs] at hI hl hb h0
    go_upto_region 3 with (fail)
    have hp : 0 < xs.length := List.length_pos_iff.mpr (hb c0)
    have hW := hI
    have hk := KeepT.refl w g
    have hl2 : xs.length ≤ 140737488355328 := by omega
    have hx : xs = if at_ = 0 then bs ++ [0] else bs := by rw [if_neg c0]; exact hxs
    clear h0 h1 f0 hI
    obtain ⟨go, co, eo, gb, gl, cl, HGo⟩ := Kd.R_form hW.own hp
    cases eo
    have hne : go ≠ g := hW.own.1 go rfl
    obtain ⟨ix, hix⟩ : ∃ i : Int, (xs.length : Int) - 1 = i := ⟨_, rfl⟩
    have hwx : wrap64 ((xs.length : Int) - 1) = ix := by rw [← hix]; exact wrap_in _ (by omega) (by omega)
    have p9 : 0 ≤ ix := by omega
    have q9 : ix < (xs.length : Int) := by omega
    obtain ⟨hy, hz⟩ := Kd.R_celln 0 hW.own ix p9 q9
    have k0 : w.cell? ⟨g, 0, none⟩ = some (.slice (some ⟨go, 0, none⟩) xs.length c) := (blk_cell hW.blk 0).trans rfl
    have ha7 : wrap64 (7 - at_) = 7 - at_ := wrap_in _ (by omega) (by omega)
    have hs7 : 0 ≤ 7 - at_ := by omega
    have hwx' : IntKind.i64.wrap ((xs.length : Int) - 1) = ix := (i64_w _).trans hwx
    have ha7' : IntKind.i64.wrap (7 - at_) = 7 - at_ := (i64_w _).trans ha7
    replace hx := Aside0.mk hx
    replace hix := Aside0.mk hix
    replace hat := Aside0.mk hat
    replace hc := Aside0.mk hc
    clear hxs
    try clear hL
    clear hl hl2
    go_still_tail 19, (by kernel_rfl)
    change wpList _ _ _ _ _ w.drew
    have hW1 := hW.drew
    replace hk := hk.drew
    replace hy : w.drew.cell? ⟨go, ix.toNat, none⟩ = some (.int .u8 (rdOf 0 xs ix)) := hy
    replace hz : w.drew.frozen? ⟨go, ix.toNat, none⟩ = false := hz
    clear k0 hW HGo hwx hwx'
    generalize w.drew = W1 at hW1 hk hy hz ⊢
    go_upto_region 4 with (fail)
    obtain ⟨HP, HG⟩ := Kd.R_putg hW1.own ix (pushByte (rdOf 0 xs ix) at_ bit)
    have hW2 : Wr w0 (W1.setCell ⟨go, ix.toNat, none⟩ (.int .u8 (pushByte (rdOf 0 xs ix) at_ bit))) g (xs.set ix.toNat (pushByte (rdOf 0 xs ix) at_ bit)) n (.slice (some ⟨go, 0, none⟩) xs.length c) :=
      ⟨blk_far hW1.blk (p := ⟨go, ix.toNat, none⟩) (fun e => hne e.symm) _, hW1.hg, HP, below_set hW1.bel gb⟩
    replace hk := hk.grown hW1.own HG
    change Code.wp _ _ _ _ (W1.setCell ⟨go, ix.toNat, none⟩ (.int .u8 (pushByte (rdOf 0 xs ix) at_ bit)))
    generalize W1.setCell ⟨go, ix.toNat, none⟩ (.int .u8 (pushByte (rdOf 0 xs ix) at_ bit)) = W2 at hW2 hk ⊢
    clear HP HG hy hz hW1
    have k1 : W2.cell? ⟨g, 1, none⟩ = some (.int .i64 n) := (blk_cell hW2.blk 1).trans rfl
    have f1 := blk_frozen hW2.blk 1
    go_wp2
    go_end0
    refine ⟨rfl, .slice (some ⟨go, 0, none⟩) xs.length c, ?_, hk.set_ 1 _⟩
    have he : pushBits bs n bit = xs.set ix.toNat (pushByte (rdOf 0 xs ix) at_ bit) := by
      rw [pushBits, hat.out, ← hx.out, hix.out]
    rw [he]
    exact ⟨by simpa using blk_set hW2.blk 1 (.int .i64 (wrap64 (n + 1))), hW2.hg, Kd.R_far (p := ⟨g, 1, none⟩) hW2.own (fun k hk => hk) _, below_set hW2.bel hW2.hg⟩
end Go.Proofs.YtblbieenfghbdaaDoor.D
end

section
namespace Go.Proofs.YtblbieenfghbdaaDoor.D
open Go.RowKit Go.Proofs.YtblbieenfghbdaaDoorW.PrintWords Go.Proofs.YtblbieenfghbdaaDoorW.PrintLast Go.Proofs.YtblbieenfghbdaaDoorW.PrintMore
set_option linter.unusedVariables false
set_option linter.unusedSimpArgs false
/-- One more bit behind a stream's bytes and their number of bits. -/
def packStep (s : List Int × Int) (b : Bool) : List Int × Int := (pushBits s.1 s.2 (if b then 1 else 0), s.2 + 1)
/-- The bytes of a list of bits. -/
def packL (β : List Bool) : List Int := (β.foldl packStep ([], 0)).1
theorem packL_snd (β : List Bool) (bs : List Int) (n : Int) : (β.foldl packStep (bs, n)).2 = n + β.length := by
  induction β generalizing bs n with
  | nil => simp
  | cons b β ih => simp only [List.foldl_cons, packStep, ih, List.length_cons]; omega
theorem packL_snoc (β : List Bool) (b : Bool) : packL (β ++ [b]) = pushBits (packL β) β.length (if b then 1 else 0) := by
  unfold packL
  rw [List.foldl_append, List.foldl_cons, List.foldl_nil]
  have h := packL_snd β [] 0
  simp only [packStep, h, Int.zero_add]
theorem pushBits_length (bs : List Int) (n bit : Int) : (pushBits bs n bit).length = if Int.tmod n 8 = 0 then bs.length + 1 else bs.length := by
  simp only [pushBits]
  split <;> simp
theorem snoc_induction {p : List Bool → Prop} (h0 : p []) (hs : ∀ β b, p β → p (β ++ [b])) (β : List Bool) : p β := by
  rw [← List.reverse_reverse β]
  induction β.reverse with
  | nil => exact h0
  | cons b γ ih => rw [List.reverse_cons]; exact hs _ _ ih
theorem packL_length (β : List Bool) : (packL β).length = (β.length + 7) / 8 := by
  induction β using snoc_induction with
  | h0 => rfl
  | hs β b ih =>
    rw [packL_snoc, pushBits_length, ih, List.length_append, List.length_singleton]
    have h : Int.tmod (β.length : Int) 8 = ((β.length % 8 : Nat) : Int) := by rw [Int.tmod_eq_emod_of_nonneg (by omega)]; omega
    rw [h]
    split <;> omega
/-- A writer whose stream holds some bits. -/
def WrB (w0 W : World) (g : Nat) (β : List Bool) : Prop := ∃ v, Wr w0 W g (packL β) β.length v
theorem WrB.bel {w0 W : World} {g : Nat} {β : List Bool} (h : WrB w0 W g β) : Below w0.heap.size w0 W := by obtain ⟨v, hv⟩ := h; exact hv.bel
theorem WrB.below {w0 W W1 : World} {g : Nat} {β : List Bool} (h : WrB w0 W g β) (hb : Below W.heap.size W W1) : WrB w0 W1 g β := by
  obtain ⟨v, hv⟩ := h
  exact ⟨v, (hb.block g (blk_lt hv.blk)).trans hv.blk, hv.hg, Kd.R_kept hv.own (Kept.of_below hb (fun _ => False)) (fun _ _ e => e), below_then hv.bel hv.bel.size hb⟩
theorem bits_Writer_pushB.calls (g : Nat) (β : List Bool) (b : Bool) (bit : Int) (w0 w : World) (hI : WrB w0 w g β) (hb : bits .and .u64 bit 1 = if b then 1 else 0) (hl : β.length < 1099511627776) :
    Calls Tryd.prog 129 #[.pointer (some ⟨g, 0, none⟩), .int .u64 bit] w fun e w' => e = .returned (.tuple #[]) ∧ WrB w0 w' g (β ++ [b]) ∧ KeepT w w' g := by
  obtain ⟨v, hv⟩ := hI
  have hlen := packL_length β
  refine (bits_Writer_push.calls g (packL β) β.length bit v w0 w hv (by omega) (fun h e => ?_) (by omega)).mono ?_
  · rw [e] at hlen
    rw [Int.tmod_eq_emod_of_nonneg (by omega)] at h
    have : ([] : List Int).length = 0 := rfl
    omega
  · rintro e w' ⟨rfl, v', hw, hk⟩
    refine ⟨rfl, ⟨v', ?_⟩, hk⟩
    rw [packL_snoc]
    have e1 : wrap64 ((β.length : Int) + 1) = ((β ++ [b]).length : Int) := by
      rw [wrap_in _ (by omega) (by omega)]; simp
    rw [e1] at hw
    have e2 : pushBits (packL β) β.length bit = pushBits (packL β) β.length (if b then 1 else 0) := by
      have e3 : ∀ x at_, pushByte x at_ bit = pushByte x at_ (if b then 1 else 0) := fun x at_ => by
        rw [pushByte, pushByte, hb]
        cases b <;> rfl
      simp only [pushBits, e3]
    rw [← e2]
    exact hw
set_option maxHeartbeats 8000000 in
set_option maxRecDepth 100000 in
theorem bits_Writer_Unary.calls (g : Nat) (β : List Bool) (n : Int) (w0 w : World) (hI : WrB w0 w g β) (h0 : 0 ≤ n) (h1 : n ≤ 64) (hl : β.length < 549755813888) :
    Calls Tryd.prog 100 #[.pointer (some ⟨g, 0, none⟩), .int .i64 n] w fun e w' => e = .returned (.tuple #[]) ∧ WrB w0 w' g (β ++ List.replicate n.toNat true ++ [false]) ∧ KeepT w w' g := by
  have hcl : bits_clamp.f n 65536 = some n := by
    simp only [bits_clamp.f, mx, mn, Option.some.injEq]
    (repeat' split) <;> omega
  have hI' := Aside0.mk hI
  clear hI
  go_enter Tryd.func100, Tryd.ntmps100
  go_wp2_with (first | (go_at_call 128; refine (bits_clamp.calls n 65536 n w hcl).mono ?_; rintro e w1 ⟨rfl, hB1⟩))
  replace hI' := Aside0.mk (hI'.out.below hB1)
  have hk0 := Aside0.mk (KeepT.below hB1 g)
  clear hB1
  go_loopg [6] n.toNat (fun kq v6 w' => ∃ (i : Nat), v6 = .int .i64 (i : Int) ∧ Aside0 (WrB w0 w' g (β ++ List.replicate i true)) ∧ Aside0 (KeepT w w' g) ∧ Aside0 ((i : Int) + (kq : Int) = n))
  case atStart => exact ⟨0, rfl, ⟨by simpa using hI'.out⟩, hk0, ⟨by omega⟩⟩
  case round =>
    clear hI' hk0
    obtain ⟨i, rfl, hw, hk, hi⟩ := hrel
    cases gk with
    | zero =>
      have cb : decide ((i : Int) < n) = false := decide_eq_false (by have := hi.out; omega)
      go_wp2_with (first | (go_at_call 129; refine (bits_Writer_pushB.calls g (β ++ List.replicate i true) false 0 w0 _ hw.out (by decide) (by have := hi.out; rw [List.length_append, List.length_replicate]; omega)).mono ?_; rintro e w2 ⟨rfl, hw2, hk2⟩))
      go_end0
      have e1 : n.toNat = i := by have := hi.out; omega
      rw [e1]
      exact ⟨rfl, hw2, hk.out.trans hk2⟩
    | succ m =>
      have cb : decide ((i : Int) < n) = true := decide_eq_true (by have := hi.out; omega)
      have hi1 : wrap64 ((i : Int) + 1) = (i : Int) + 1 := wrap_in _ (by omega) (by have := hi.out; omega)
      go_wp2_with (first | (go_at_call 129; refine (bits_Writer_pushB.calls g (β ++ List.replicate i true) true 1 w0 _ hw.out (by decide) (by have := hi.out; rw [List.length_append, List.length_replicate]; omega)).mono ?_; rintro e w2 ⟨rfl, hw2, hk2⟩))
      go_roundg m
      case measure => omega
      case rel =>
        refine ⟨i + 1, by simp [hi1], ⟨?_⟩, ⟨hk.out.trans hk2⟩, ⟨by have := hi.out; omega⟩⟩
        rw [List.replicate_succ', ← List.append_assoc]
        exact hw2
set_option maxHeartbeats 8000000 in
set_option maxRecDepth 100000 in
theorem bits_Writer_Done.calls (g : Nat) (β : List Bool) (w0 w : World) (hI : WrB w0 w g β) (hl : β.length < 549755813888) :
    Calls Tryd.prog 65 #[.pointer (some ⟨g, 0, none⟩)] w fun e w' => ∃ v : Value, e = .returned v ∧ Kd.R (Kd.int .u8) 5 w' w.heap.size (fun _ => True) v (packL β) ∧ Below w.heap.size w w' := by
  obtain ⟨v, hv⟩ := hI
  obtain ⟨A, c, rfl⟩ := Kd.R_slice hv.own
  have k0 : w.cell? ⟨g, 0, none⟩ = some (.slice A (packL β).length c) := (blk_cell hv.blk 0).trans rfl
  have hlen := packL_length β
  have hl2 : (packL β).length ≤ 140737488355328 := by omega
  clear hlen
  go_enter Tryd.func65, Tryd.ntmps65
  go_wp2_with (first | (go_at_call 89; refine (slices_Clone.calls A c (packL β) w (Kd.R_reads' hv.own).2.2 hl2).mono ?_; rintro e w1 ⟨v1, rfl, hR, hB⟩))
  go_ret
  exact ⟨_, rfl, hR, hB⟩
end Go.Proofs.YtblbieenfghbdaaDoor.D
end

section
namespace Go.Proofs.YtblbieenfghbdaaDoor.D
open Go.RowKit Go.Shelf Go.Proofs.YtblbieenfghbdaaDoorW.PrintWords Go.Proofs.YtblbieenfghbdaaDoorW.PrintLast Go.Proofs.YtblbieenfghbdaaDoorW.PrintMore
attribute [local go_sem] Oper.semAt_some
set_option linter.unusedVariables false
set_option linter.unusedSimpArgs false
/-- The numbers below k, downwards. -/
def downs : Nat → List Nat
  | 0 => []
  | k + 1 => k :: downs k
theorem downs_length (k : Nat) : (downs k).length = k := by induction k with
  | zero => rfl
  | succ k ih => rw [downs, List.length_cons, ih]
set_option maxHeartbeats 4000000 in
set_option maxRecDepth 100000 in
/-- The closure that bits.down hands back yields the numbers below n, downwards. -/
theorem bits_down_stops (m : Nat) (hm : 1 ≤ m) (n : Nat) (hn : n ≤ 64) (Bn : Nat) (w : World) (hc : w.cell? ⟨Bn, 0, none⟩ = some (.int .i64 (n : Int))) :
    SeqStopsK Fence.wide m Tryd.prog 149 #[.pointer (some ⟨Bn, 0, none⟩)] (fun x : Nat => #[.int .i64 (x : Int)]) KeepsWalks (fun xs => xs = downs n) (fun pre => pre <+: downs n) n w := fun l J Jx W hW hJ hJx hY h0 => by
  have hcW : W.cell? ⟨Bn, 0, none⟩ = some (.int .i64 (n : Int)) := pw_cell_below hW hc
  have hn1 : wrap64 ((n : Int) - 1) = (n : Int) - 1 := wrap_in _ (by omega) (by omega)
  refine callsIn_of_wp Tryd.func149 rfl trivial ?_ rfl
  simp only [Tryd.ntmps149, List.size_toArray, List.length_cons, List.length_nil, Nat.reduceAdd, Nat.reduceSub, Array.replicate_succ, Array.replicate_zero, List.push_toArray, List.append_toArray, List.nil_append, List.cons_append]
  gi_wp2
  gi_loopw [3] (fun p wr => ∃ (k : Nat) (pre : List Nat), p = .int .i64 ((k : Int) - 1) ∧ k ≤ n ∧ downs n = pre ++ downs k ∧ J pre wr) (fun p wr => (intOf p + 1).toNat)
  case atStart => exact ⟨n, [], rfl, Nat.le_refl _, rfl, h0⟩
  case round =>
    obtain ⟨k, pre, rfl, hk, hp, hJs⟩ := hrel
    cases k with
    | zero =>
      gi_wp2
      go_end0
      exact ⟨⟨_, rfl⟩, .inl ⟨pre, by rw [hp, downs, List.append_nil], hJs⟩⟩
    | succ k =>
      obtain ⟨fn, tmps, assign, body, hy, hR⟩ := hY pre k wr hJs (by have h := congrArg List.length hp; rw [downs_length, List.length_append, downs_length] at h; omega)
      have hk1 : wrap64 (((k + 1 : Nat) : Int) - 1 - 1) = ((k + 1 : Nat) : Int) - 1 - 1 := wrap_in _ (by omega) (by omega)
      gi_wp2
      refine hR.mono ?_
      rintro e W3 (⟨rfl, hJ3, hk3⟩ | ⟨rfl, hJx3⟩)
      · gi_wp2
        go_roundw
        case rel => exact ⟨k, pre ++ [k], by simp [hk1], by omega, by rw [hp, downs]; simp, hJ3⟩
        case measure => simp [intOf]
      · gi_wp2
        refine bodyPost_ret (results_none rfl _ _ _) rfl ?_
        exact ⟨⟨_, rfl⟩, .inr ⟨pre ++ [k], ⟨downs k, by rw [hp, downs]; simp⟩, hJx3⟩⟩
/-- Whether bit i of a number is set. -/
def bitOf (z : Int) (i : Nat) : Bool := decide (bits .and .u64 (z / 2 ^ min i 64) 1 = 1)
theorem and_one (v : Int) (h0 : 0 ≤ v) (h1 : v < 18446744073709551616) : bits .and .u64 v 1 = v % 2 := by
  rw [u64_and v 1 h0 h1 (by decide) (by decide)]
  have : v.toNat &&& (1 : Int).toNat = v.toNat % 2 := Nat.and_one_is_mod _
  rw [this]
  omega
theorem bitOf_ok (z : Int) (i : Nat) (h0 : 0 ≤ z) (h1 : z < 18446744073709551616) : bits .and .u64 (z / 2 ^ min i 64) 1 = if bitOf z i then 1 else 0 := by
  have hp : (0 : Int) < 2 ^ min i 64 := Int.pow_pos (by decide)
  have a0 : 0 ≤ z / 2 ^ min i 64 := Int.ediv_nonneg h0 (by omega)
  have a1 : z / 2 ^ min i 64 < 18446744073709551616 := Int.lt_of_le_of_lt (Int.ediv_le_self _ h0) h1
  unfold bitOf
  rw [and_one _ a0 a1]
  have : (z / 2 ^ min i 64) % 2 = 0 ∨ (z / 2 ^ min i 64) % 2 = 1 := by omega
  rcases this with h | h <;> rw [h] <;> rfl

set_option maxHeartbeats 4000000 in
/-- bits.down: function 130: a closure over the number's box. -/
theorem bits_down.calls (n : Int) (w : World) :
    Calls Tryd.prog 130 #[.int .i64 n] w fun e w' => e = .returned (.func (.func 149) #[] #[.pointer (some ⟨w.heap.size, 0, none⟩)]) ∧ w' = w.alloc (.cells #[.int .i64 n] 3) := by
  go_enter Tryd.func130, Tryd.ntmps130
  go_wp2
  go_ret
  exact ⟨rfl, rfl⟩
/-- A block that is no row of cells turns: the writer stands. -/
theorem WrB.turn {w0 W W' : World} {g : Nat} {β : List Bool} {row : Option Nat} (h : WrB w0 W g β) (hg : W.grownBy W' row) (hr : ∀ r, row = some r → w0.heap.size ≤ r ∧ ∃ o : Obj, W.heap[r]? = some o ∧ o.isCells = false) : WrB w0 W' g β := by
  obtain ⟨v, hv⟩ := h
  have hne : ∀ k cs t fr, W.heap[k]? = some (.cells cs t fr) → some k ≠ row := fun k cs t fr hk e => by
    obtain ⟨_, o, ho, hc⟩ := hr k e.symm
    rw [hk] at ho
    cases ho
    cases hc
  have hown := Kd.R_bound hv.own
  have hK : Kept W W' (fun k => some k = row) := (Kept.refl W _).of_grown hg (fun k e => .inl e.symm)
  exact ⟨v, (hg.block g (blk_lt hv.blk) (hne g _ _ _ hv.blk)).trans hv.blk, hv.hg, Kd.R_mono (Kd.R_kept hown hK (fun k hk e => by obtain ⟨_, _, _, q, _, cs, hc⟩ := hk; exact hne k _ _ _ hc e)) (fun k hk => hk.1), pw_below_grown hv.bel row hv.bel.size hg (fun k e => (hr k e).1)⟩
theorem KeepT.turn {w W W' : World} {g : Nat} {row : Option Nat} (h : KeepT w W g) (hg : W.grownBy W' row) (hr : ∀ r, row = some r → w.heap.size ≤ r) : KeepT w W' g :=
  ⟨Nat.le_trans h.1 hg.size, fun i o hi hn ht => (hg.block i (blk_lt (h.2 i o hi hn ht)) (fun e => by have := hr i e.symm; have := blk_lt hi; omega)).trans (h.2 i o hi hn ht)⟩
theorem blk_turn {W W' : World} {k B : Nat} {cs : Array Value} {t : TypeId} {fr : Nat × Nat} {row : Option Nat} (h : W.heap[k]? = some (.cells cs t fr)) (hg : W.grownBy W' row) (hr : ∀ r, row = some r → B ≤ r ∧ ∃ o : Obj, W.heap[r]? = some o ∧ o.isCells = false) : W'.heap[k]? = some (.cells cs t fr) :=
  (hg.block k (blk_lt h) (fun e => by
    obtain ⟨_, o, ho, hc⟩ := hr k e.symm
    rw [h] at ho
    cases ho
    cases hc)).trans h
theorem WrB.drew {w0 W : World} {g : Nat} {β : List Bool} (h : WrB w0 W g β) : WrB w0 W.drew g β := by obtain ⟨v, hv⟩ := h; exact ⟨v, hv.drew⟩
theorem WrB.block {w0 W : World} {g : Nat} {β : List Bool} (h : WrB w0 W g β) : ∃ v n, W.heap[g]? = some (.cells #[v, n] 100 (0, 0)) := by obtain ⟨v, hv⟩ := h; exact ⟨_, _, hv.blk⟩
theorem KeepT.others {w W : World} {g : Nat} (h : KeepT w W g) {cs : Array Value} {t : TypeId} (hg : w.heap[g]? = some (.cells cs t (0, 0))) : KeepsOthers w W :=
  ⟨h.1, fun k o hk ho => h.2 k o hk (fun e => by rw [e, hg] at hk; cases hk; cases ho) (fun cs fr e => by subst e; cases ho)⟩
theorem KeepT.blk {w W : World} {g k : Nat} (h : KeepT w W g) {cs cs' : Array Value} {t t' : TypeId} (hk : w.heap[k]? = some (.cells cs t (0, 0))) (hg : w.heap[g]? = some (.cells cs' t' (0, 0))) (ht : t ≠ t') (h5 : t ≠ 5) : W.heap[k]? = some (.cells cs t (0, 0)) :=
  h.2 k _ hk (fun e => by rw [e, hg] at hk; injection hk with hk; injection hk with _ hk; exact ht hk.symm) (fun cs fr e => by injection e with _ e; exact h5 e)
set_option maxHeartbeats 8000000 in
set_option maxRecDepth 100000 in
theorem bits_Writer_Bits.calls (g : Nat) (β : List Bool) (z c : Int) (w0 w : World) (hI : WrB w0 w g β) (z0 : 0 ≤ z) (z1 : z < 18446744073709551616) (c0 : 0 ≤ c) (c1 : c ≤ 64) (hl : β.length < 549755813888) :
    Calls Tryd.prog 101 #[.pointer (some ⟨g, 0, none⟩), .int .u64 z, .int .i64 c] w fun e w' => e = .returned (.tuple #[]) ∧ WrB w0 w' g (β ++ (downs c.toNat).map (bitOf z)) ∧ KeepT w w' g := by
  have hcl : bits_clamp.f c 64 = some c := by
    simp only [bits_clamp.f, mx, mn, Option.some.injEq]
    (repeat' split) <;> omega
  have hI' := Aside0.mk hI
  clear hI
  refine (callsIn_wide (n := 5)).1 ?_
  refine callsIn_of_wp_marks Tryd.func101 rfl trivial ?_ rfl
  simp only [Tryd.ntmps101, List.size_toArray, List.length_cons, List.length_nil, Nat.reduceAdd, Nat.reduceSub, Array.replicate_succ, Array.replicate_zero, List.push_toArray, List.append_toArray, List.nil_append, List.cons_append]
  gi_wp2_with (first | (refine ⟨trivial, ?_⟩; gi_at_call 128; refine (callsIn_wide.2 (bits_clamp.calls c 64 c _ hcl)).mono ?_; rintro e w1 ⟨rfl, hB1⟩) | (refine ⟨trivial, ?_⟩; gi_at_call 130; refine (callsIn_wide.2 (bits_down.calls c _)).mono ?_; rintro e w2 ⟨rfl, rfl⟩))
  obtain ⟨W0, hW0⟩ : ∃ W0, w1.alloc (.cells #[.int .i64 c] 3) = W0 := ⟨_, rfl⟩
  have hBa : Below w.heap.size w ((w.alloc (.cells #[.pointer (some ⟨g, 0, none⟩)] 102)).alloc (.cells #[.int .u64 z] 87)) := below_alloc (below_alloc (Below.refl _ _) _) _
  have hP0 : ((w.alloc (.cells #[.pointer (some ⟨g, 0, none⟩)] 102)).alloc (.cells #[.int .u64 z] 87)).heap[w.heap.size]? = some (.cells #[.pointer (some ⟨g, 0, none⟩)] 102 (0, 0)) := blk_alloc (by simpa using heap_alloc_new w (.cells #[.pointer (some ⟨g, 0, none⟩)] 102)) _
  have hQ0 : ((w.alloc (.cells #[.pointer (some ⟨g, 0, none⟩)] 102)).alloc (.cells #[.int .u64 z] 87)).heap[w.heap.size + 1]? = some (.cells #[.int .u64 z] 87 (0, 0)) := by simpa using heap_alloc_new (w.alloc (.cells #[.pointer (some ⟨g, 0, none⟩)] 102)) (.cells #[.int .u64 z] 87)
  have hs0 : ((w.alloc (.cells #[.pointer (some ⟨g, 0, none⟩)] 102)).alloc (.cells #[.int .u64 z] 87)).heap.size = w.heap.size + 2 := by simp
  generalize (w.alloc (.cells #[.pointer (some ⟨g, 0, none⟩)] 102)).alloc (.cells #[.int .u64 z] 87) = wA at hB1 hBa hP0 hQ0 hs0
  have hB2 : Below wA.heap.size wA W0 := by rw [← hW0]; exact below_alloc hB1 _
  have hP1 : W0.heap[w.heap.size]? = some (.cells #[.pointer (some ⟨g, 0, none⟩)] 102 (0, 0)) := (hB2.block _ (by omega)).trans hP0
  have hQ1 : W0.heap[w.heap.size + 1]? = some (.cells #[.int .u64 z] 87 (0, 0)) := (hB2.block _ (by omega)).trans hQ0
  have hB3 : Below w.heap.size w W0 := below_then hBa hBa.size hB2
  have hw0 : WrB w0 W0 g β := hI'.out.below hB3
  have hk0 : KeepT w W0 g := KeepT.below hB3 g
  have hc0 : W0.cell? ⟨w1.heap.size, 0, none⟩ = some (.int .i64 ((c.toNat : Nat) : Int)) := by
    rw [← hW0, show ((c.toNat : Nat) : Int) = c by omega]
    exact (blk_cell (by simpa using heap_alloc_new w1 (.cells #[.int .i64 c] 3)) 0).trans rfl
  have hsz : w.heap.size + 2 ≤ W0.heap.size := by have := hB2.size; omega
  rw [hW0]
  clear hBa hP0 hQ0 hB1 hI'
  have hN : c.toNat ≤ 64 := by omega
  refine wpIn_rangeFunc_ownF rfl (by omega) (gf := 149) (lb := #[.pointer (some ⟨w1.heap.size, 0, none⟩)]) rfl trivial (enters_of Tryd.func149 (by kernel_rfl) rfl)
    (bits_down_stops 4 (by omega) c.toNat hN w1.heap.size W0 hc0) walksK_t walksK_b (Below.refl _ _) (fun _ => rfl)
    (fun pre W => (WrB w0 W g (β ++ pre.map (bitOf z)) ∧ KeepT w W g) ∧ W.heap[w.heap.size]? = some (.cells #[.pointer (some ⟨g, 0, none⟩)] 102 (0, 0)) ∧ W.heap[w.heap.size + 1]? = some (.cells #[.int .u64 z] 87 (0, 0)))
    (fun _ _ _ => False)
    (fun s A B row hs hg hr => ⟨⟨hs.1.1.turn hg (fun r e => ⟨Nat.le_trans hw0.bel.size (hr r e).1, (hr r e).2⟩), hs.1.2.turn hg (fun r e => Nat.le_trans hB3.size (hr r e).1)⟩, blk_turn hs.2.1 hg hr, blk_turn hs.2.2 hg hr⟩)
    (fun _ _ _ _ _ hs _ _ => hs)
    ⟨⟨by simpa using hw0, hk0⟩, hP1, hQ1⟩
    (fun x => { tmps := #[.pointer (some ⟨g, 0, none⟩), .int .u64 z, .int .i64 c, .pointer (some ⟨w.heap.size, 0, none⟩), .pointer (some ⟨w.heap.size + 1, 0, none⟩), undef, .int .i64 (x : Int), .int .i64 c, .int .i64 c, .func (.func 149) #[] #[.pointer (some ⟨w1.heap.size, 0, none⟩)], .int .i64 (x : Int), undef, undef, undef, undef, undef], defers := [] }) ?assign ?body ?done ?stop
  case assign =>
    intro l x W K hK
    gi_wp2
    exact hK
  case body =>
    rintro l pre x W ⟨⟨hw, hk⟩, hP, hQ⟩ hlen
    have cP : W.cell? ⟨w.heap.size, 0, none⟩ = some (.pointer (some ⟨g, 0, none⟩)) := (blk_cell hP 0).trans rfl
    have cQ : W.cell? ⟨w.heap.size + 1, 0, none⟩ = some (.int .u64 z) := (blk_cell hQ 0).trans rfl
    have hmx : Tryd.prog.follows .mixedOrders = true := by kernel_rfl
    have hl2 : (β ++ pre.map (bitOf z)).length < 1099511627776 := by rw [List.length_append, List.length_map]; omega
    gi_wp2
    gi_region_with_o (refine ⟨trivial, ?_⟩; gi_at_call 129; refine (CallsIn.inRound l (callsIn_wide.2 (bits_Writer_pushB.calls g (β ++ pre.map (bitOf z)) (bitOf z x) _ w0 _ hw.drew (bitOf_ok z x z0 z1) hl2))).mono ?_; rintro e w' ⟨rfl, hw2, hk2⟩)
    all_goals gi_wp2
    all_goals
      have hgb := hw.block
      obtain ⟨v, n, hgb⟩ := hgb
      replace hk2 : KeepT W w' g := hk2
      refine ⟨hk2.others hgb, (hk2.others hgb).walks, ⟨?_, hk.trans hk2⟩, hk2.blk hP hgb (by decide) (by decide), hk2.blk hQ hgb (by decide) (by decide)⟩
      rw [List.map_append, List.map_cons, List.map_nil, ← List.append_assoc]
      exact hw2
  case done =>
    rintro D xs W hD rfl ⟨⟨hw, hk⟩, _⟩ hK
    gi_wp2
    refine ⟨by simp, .inl ⟨_, _, rfl, run_takeDeferred hK, ?_⟩⟩
    refine ⟨_, results_none rfl _ _ _, rfl, ?_, ?_⟩
    · exact hw.turn (grownBy_putObj' W D _) (fun r e => by cases e; exact ⟨Nat.le_trans hw0.bel.size hD, _, hK, rfl⟩)
    · exact hk.turn (grownBy_putObj' W D _) (fun r e => by cases e; exact Nat.le_trans hB3.size hD)
  case stop =>
    rintro D c pre W _ _ h _
    exact h.elim
end Go.Proofs.YtblbieenfghbdaaDoor.D
end

section
namespace Go.Proofs.YtblbieenfghbdaaDoor.D
open Go.RowKit Go.Proofs.YtblbieenfghbdaaDoorW.PrintWords Go.Proofs.YtblbieenfghbdaaDoorW.PrintLast Go.Proofs.YtblbieenfghbdaaDoorW.PrintMore
set_option linter.unusedVariables false
set_option linter.unusedSimpArgs false
/-- Whether a number fits a width. -/
def fits (z k : Int) : Bool := decide (k = 64) || decide (z / 2 ^ min k.toNat 64 = 0)
set_option maxHeartbeats 4000000 in
set_option maxRecDepth 100000 in
theorem codec_put_1.calls (z k : Int) (B : Nat) (w : World) (hk : 0 ≤ k) (hb : w.cell? ⟨B, 0, none⟩ = some (.int .u64 z)) :
    Calls Tryd.prog 99 #[.int .i64 k, .pointer (some ⟨B, 0, none⟩)] w fun e w' => e = .returned (.bool (fits z k)) ∧ w' = w := by
  go_enter Tryd.func99, Tryd.ntmps99
  by_cases c : k = 64
  · have cb : (k == 64) = true := beq_iff_eq.mpr c
    have e : fits z k = true := by simp [fits, c]
    rw [e]
    clear e
    clear c
    go_wp2
    go_ret
    exact ⟨rfl, rfl⟩
  · have cb : (k == 64) = false := beq_eq_false_iff_ne.mpr c
    have e : fits z k = (z / 2 ^ min k.toNat 64 == 0) := by simp only [fits, c, decide_false, Bool.false_or]; rfl
    rw [e]
    clear e
    clear c
    go_wp2
    go_ret
    exact ⟨rfl, rfl⟩
/-- The place of the first width that a number fits. -/
def codeIdx (z : Int) : Nat := widths.findIdx (fits z)
set_option maxHeartbeats 4000000 in
set_option maxRecDepth 100000 in
theorem slices_IndexFunc.calls (z : Int) (B : Nat) (w : World) (hG : Glob w) (hb : w.cell? ⟨B, 0, none⟩ = some (.int .u64 z)) :
    Calls Tryd.prog 98 #[.slice (some ⟨0, 0, none⟩) 6 6, .func (.func 99) #[] #[.pointer (some ⟨B, 0, none⟩)]] w fun e w' => e = .returned (.int .i64 (codeIdx z : Int)) ∧ Below w.heap.size w w' := by
  go_enter Tryd.func98, Tryd.ntmps98
  go_wp2
  go_loopg [5, 8] 6 (fun kq v5 v8 w' => ∃ (i : Nat), v8 = .int .i64 (i : Int) ∧ w' = w ∧ i + kq = 6 ∧ ∀ j : Nat, j < i → fits z (rd widths (j : Int)) = false)
  case atStart => exact ⟨0, rfl, rfl, rfl, fun j hj => by omega⟩
  case round =>
    obtain ⟨i, rfl, rfl, hi, hj⟩ := hrel
    have h6 : i < 6 := by
      rcases (by omega : i < 6 ∨ i = 6) with h | h
      · exact h
      · have := hj 5 (by omega)
        simp [fits, rd, widths] at this
    have hcell := hG.at_ (i : Int) (by omega) (by omega)
    have hw0 : 0 ≤ rd widths (i : Int) := widths_pos _ (by omega) (by omega)
    have c1 : decide ((i : Int) < 6) = true := decide_eq_true (by omega)
    have p1 : (i : Int) < 6 := by omega
    rw [Int.toNat_natCast] at hcell
    obtain ⟨x, hx⟩ : ∃ x, rd widths (i : Int) = x := ⟨_, rfl⟩
    rw [hx] at hcell hw0
    cases hf : fits z x with
    | true =>
      have hidx : codeIdx z = i := by
        have hl : i < widths.length := by simp only [widths, List.length_cons, List.length_nil]; omega
        refine (List.findIdx_eq hl).2 ⟨?_, fun j hji => ?_⟩
        · have e : widths[i] = x := by rw [← hx, rd, Int.toNat_natCast, List.getD_eq_getElem?_getD, List.getElem?_eq_getElem hl]; rfl
          rw [e]; exact hf
        · have h := hj j hji
          rw [rd, Int.toNat_natCast, List.getD_eq_getElem?_getD, List.getElem?_eq_getElem (Nat.lt_trans hji hl)] at h
          exact h
      replace hx := Aside0.mk hx
      replace hidx := Aside0.mk hidx
      go_wp2_with (first | (go_at_call 99; refine (codec_put_1.calls z x B wr hw0 hb).mono ?_; rintro e w1 ⟨rfl, rfl⟩))
      go_ret
      exact ⟨by rw [hidx.out]; rfl, Below.refl _ _⟩
    | false =>
      cases gk with
      | zero => omega
      | succ m =>
        have hi1 : wrap64 ((i : Int) + 1) = (i : Int) + 1 := wrap_in _ (by omega) (by omega)
        replace hx := Aside0.mk hx
        go_wp2_with (first | (go_at_call 99; refine (codec_put_1.calls z x B wr hw0 hb).mono ?_; rintro e w1 ⟨rfl, rfl⟩))
        go_roundg m
        case measure => omega
        case rel =>
          refine ⟨i + 1, by simp [hi1], rfl, by omega, fun j hji => ?_⟩
          rcases (by omega : j < i ∨ j = i) with h | h
          · exact hj j h
          · rw [h, hx.out]; exact hf

/-- The number that a code's bits tell. -/
def codec_zig (n : Int) : Int := bits .xor .u64 (IntKind.u64.wrap (IntKind.u64.wrap n * 2)) (IntKind.u64.wrap (n / 9223372036854775808))
theorem codec_zig_range (n : Int) : 0 ≤ codec_zig n ∧ codec_zig n < 18446744073709551616 := by
  have hw : ∀ x : Int, 0 ≤ IntKind.u64.wrap x ∧ IntKind.u64.wrap x < 18446744073709551616 := fun x => by
    simp only [IntKind.wrap, IntKind.bits, IntKind.signed]
    simp
    omega
  rw [codec_zig, u64_xor _ _ (hw _).1 (hw _).2 (hw _).1 (hw _).2]
  refine ⟨by omega, ?_⟩
  have h := Nat.xor_lt_two_pow (n := 64) (x := (IntKind.u64.wrap (IntKind.u64.wrap n * 2)).toNat) (y := (IntKind.u64.wrap (n / 9223372036854775808)).toNat) (by have := hw (IntKind.u64.wrap n * 2); omega) (by have := hw (n / 9223372036854775808); omega)
  omega
theorem codeIdx_lt (z : Int) : codeIdx z < 6 := by
  have h : widths.findIdx (fits z) < widths.length := List.findIdx_lt_length_of_exists ⟨64, by simp [widths], by simp [fits]⟩
  exact Nat.lt_of_lt_of_eq h rfl
/-- The bits of a number's code. -/
def codeBits (n : Int) : List Bool := List.replicate (codeIdx (codec_zig n)) true ++ [false] ++ (downs (rd widths (codeIdx (codec_zig n) : Int)).toNat).map (bitOf (codec_zig n))
theorem widths_le (i : Int) (h0 : 0 ≤ i) (h1 : i < 6) : rd widths i ≤ 64 := by
  have : i = 0 ∨ i = 1 ∨ i = 2 ∨ i = 3 ∨ i = 4 ∨ i = 5 := by omega
  rcases this with rfl | rfl | rfl | rfl | rfl | rfl <;> decide
set_option maxHeartbeats 8000000 in
set_option maxRecDepth 100000 in
theorem codec_put.calls (g : Nat) (β : List Bool) (n : Int) (w0 w : World) (hI : WrB w0 w g β) (hG : Glob w0) (hl : β.length < 549755813000) :
    Calls Tryd.prog 63 #[.pointer (some ⟨g, 0, none⟩), .int .i64 n] w fun e w' => e = .returned (.tuple #[]) ∧ WrB w0 w' g (β ++ codeBits n) ∧ KeepT w w' g := by
  have hI' := Aside0.mk hI
  clear hI
  go_enter Tryd.func63, Tryd.ntmps63
  go_upto_region 1 with (fail)
  obtain ⟨z, hz⟩ : ∃ z, codec_zig n = z := ⟨_, rfl⟩
  have hzr := codec_zig_range n
  rw [show bits .xor .u64 (IntKind.u64.wrap (IntKind.u64.wrap n * 2)) (IntKind.u64.wrap (n / 9223372036854775808)) = z from hz]
  rw [hz] at hzr
  have hB1 : Below w.heap.size w (w.alloc (.cells #[.int .u64 z] 87)) := below_alloc (Below.refl _ _) _
  have hP1 : (w.alloc (.cells #[.int .u64 z] 87)).heap[w.heap.size]? = some (.cells #[.int .u64 z] 87 (0, 0)) := by simpa using heap_alloc_new w (.cells #[.int .u64 z] 87)
  have hgw : g < w.heap.size := by obtain ⟨v, m, hb⟩ := hI'.out.block; exact blk_lt hb
  have hne : g ≠ w.heap.size := by omega
  obtain ⟨B, hB⟩ : ∃ B, w.heap.size = B := ⟨_, rfl⟩
  rw [hB] at hP1 hne ⊢
  have hI1 := Aside0.mk (hI'.out.below hB1)
  have hk1 := Aside0.mk (KeepT.below hB1 g)
  replace hB := Aside0.mk hB
  generalize w.alloc (.cells #[.int .u64 z] 87) = w1 at hB1 hP1 hI1 hk1 ⊢
  clear hI' hB1
  have cP : w1.cell? ⟨B, 0, none⟩ = some (.int .u64 z) := (blk_cell hP1 0).trans rfl
  have hG1 := Aside0.mk (hG.below hI1.out.bel)
  have hix := codeIdx_lt z
  obtain ⟨i, hi⟩ : ∃ i, codeIdx z = i := ⟨_, rfl⟩
  rw [hi] at hix
  go_upto_region 3 with (first | (go_at_call 98; refine (slices_IndexFunc.calls z B w1 hG1.out cP).mono ?_; rintro e w2 ⟨rfl, hB2⟩; rw [hi]; have hI2 := Aside0.mk (hI1.out.below hB2); have hk2 := Aside0.mk (hk1.out.trans (KeepT.below hB2 g)); have hP2 := Aside0.mk ((hB2.block B (blk_lt hP1)).trans hP1)) | (go_at_call 100; refine (bits_Writer_Unary.calls g β (i : Int) w0 w2 hI2.out (by omega) (by omega) (by omega)).mono ?_; rintro e w3 ⟨rfl, hI3, hk3⟩))
  obtain ⟨v_, m_, hb2⟩ := hI2.out.block
  have hP3 := hk3.blk hP2.out hb2 (by decide) (by decide)
  have cP3 : w3.cell? ⟨B, 0, none⟩ = some (.int .u64 z) := (blk_cell hP3 0).trans rfl
  have hG3 : w3.cell? ⟨0, (i : Int).toNat, none⟩ = some (.int .i64 (rd widths (i : Int))) := (hG.below hI3.bel).at_ (i : Int) (by omega) (by omega)
  rw [Int.toNat_natCast] at hG3
  have hr0 := widths_pos (i : Int) (by omega) (by omega)
  have hr1 := widths_le (i : Int) (by omega) (by omega)
  replace hi := Aside0.mk hi
  replace hz := Aside0.mk hz
  obtain ⟨x, hx⟩ : ∃ x, rd widths (i : Int) = x := ⟨_, rfl⟩
  rw [hx] at hG3 hr0 hr1
  replace hx := Aside0.mk hx
  have hk4 := Aside0.mk (hk2.out.trans hk3)
  have hI4 := Aside0.mk hI3.drew
  clear hI3 hk3 hk2 hI2 hP2 hP3 hG1 hk1 hI1 hP1 cP hb2
  have pi : (i : Int) < 6 := by omega
  go_still_tail 5, (by kernel_rfl)
  change wpList _ _ _ _ _ w3.drew
  replace hk4 : Aside0 (KeepT w w3.drew g) := hk4
  clear cP3 hG3
  generalize w3.drew = w4 at hI4 hk4 ⊢
  have hl2 : (β ++ List.replicate i true ++ [false]).length < 549755813888 := by
    simp only [List.length_append, List.length_replicate, List.length_singleton]; omega
  go_wp2_with (first | (go_at_call 101; refine (bits_Writer_Bits.calls g (β ++ List.replicate i true ++ [false]) z x w0 w4 (by simpa using hI4.out) hzr.1 hzr.2 hr0 hr1 hl2).mono ?_; rintro e w5 ⟨rfl, hI5, hk5⟩))
  go_end0
  refine ⟨rfl, ?_, hk4.out.trans hk5⟩
  rw [codeBits, hz.out, hi.out, hx.out]
  simpa using hI5
end Go.Proofs.YtblbieenfghbdaaDoor.D
end

section
namespace Go.Proofs.YtblbieenfghbdaaDoor.D
open Go.RowKit Go.Proofs.YtblbieenfghbdaaDoorW.PrintWords Go.Proofs.YtblbieenfghbdaaDoorW.PrintLast Go.Proofs.YtblbieenfghbdaaDoorW.PrintMore
set_option linter.unusedVariables false
set_option linter.unusedSimpArgs false
theorem codeBits_length (n : Int) : (codeBits n).length ≤ 70 := by
  have h := codeIdx_lt (codec_zig n)
  have h2 := widths_le (codeIdx (codec_zig n) : Int) (by omega) (by omega)
  simp only [codeBits, List.length_append, List.length_replicate, List.length_singleton, List.length_map, downs_length]
  omega
/-- The codes of a list's numbers, each foretold by the two before it. -/
def trendBits : Int → Int → List Int → List Bool
  | _, _, [] => []
  | a, b, n :: l => codeBits (wrap64 (wrap64 (n - a) - b)) ++ trendBits n (wrap64 (n - a)) l
/-- The bytes of a list. -/
def codec_Ints.f (k : Nat) (l0 : List Int) : Option (List Int) :=
  if l0.length ≤ 4294967296 then some (packL (codeBits (l0.length : Int) ++ trendBits 0 0 l0)) else none
theorem codec_Ints.mono (l0 : List Int) (k : Nat) : LeO (codec_Ints.f k l0) (codec_Ints.f (k + 1) l0) := LeO.refl _
theorem WrB.keepBut {w0 W W1 : World} {g p : Nat} {β : List Bool} (h : WrB w0 W g β) {cs : Array Value} {t : TypeId} (hp : W.heap[p]? = some (.cells cs t (0, 0))) (h1 : t ≠ 100) (h5 : t ≠ 5) (hk : KeepBut W W1 p none) (hb : Below w0.heap.size w0 W1) : WrB w0 W1 g β := by
  obtain ⟨v, hv⟩ := h
  have hne : g ≠ p := fun e => by
    have h2 := hv.blk
    rw [e, hp] at h2
    injection h2 with h2
    injection h2 with _ h2
    exact h1 h2
  have ho := Kd.R_types hv.own hp (fun q hq => by have : q = 5 := by simpa [Kd.int, Kd.scalar] using hq
                                                  subst this; exact fun e => h5 e.symm)
  exact ⟨v, (hk.2 g (blk_lt hv.blk) hne (by simp)).trans hv.blk, hv.hg, Kd.R_mono (Kd.R_keep ho hk (fun k hk => hk.2)) (fun k hk => hk.1), hb⟩

set_option maxHeartbeats 8000000 in
set_option maxRecDepth 100000 in
theorem codec_Ints.calls (k : Nat) (A0 : Option Addr) (c0 : Nat) (l0 : List Int) (r : List Int) (w : World) (hr0 : Kd.C (Kd.int .i64) w A0 l0.length l0) (hc0 : l0.length ≤ c0) (hG : Glob w) (h : codec_Ints.f k l0 = some r) :
    Calls Tryd.prog 17 #[.slice A0 l0.length c0] w fun e w' => ∃ v0_ : Value, e = .returned (v0_) ∧ Kd.R (Kd.int .u8) 5 w' w.heap.size (fun _ => True) v0_ r ∧ Below w.heap.size w w' := by
  unfold codec_Ints.f at h
  have hl : l0.length ≤ 4294967296 := by
    by_cases hl : l0.length ≤ 4294967296
    · exact hl
    · rw [if_neg hl] at h; cases h
  rw [if_pos hl] at h
  obtain rfl := Option.some.inj h
  clear h
  obtain ⟨T, hTot⟩ : ∃ T, codeBits (l0.length : Int) ++ trendBits 0 0 l0 = T := ⟨_, rfl⟩
  rw [hTot]
  replace hTot := Aside0.mk hTot
  go_enter Tryd.func17, Tryd.ntmps17
  go_upto_region 2 with (fail)
  have hW : WrB w (w.alloc (.cells #[.slice none 0 0, .int .i64 0] 100)) w.heap.size [] :=
    ⟨.slice none 0 0, by simpa using heap_alloc_new w _, Nat.le_refl _, Kd.R_nil _ _ _ _ _, below_alloc (Below.refl _ _) _⟩
  generalize hg_ : w.heap.size = g at hW ⊢
  replace hg_ := Aside0.mk hg_
  generalize w.alloc (.cells #[.slice none 0 0, .int .i64 0] 100) = w1 at hW ⊢
  have hW1 := Aside0.mk hW
  clear hW
  go_upto_region 4 with (first | (go_at_call 63; refine (codec_put.calls g [] (l0.length : Int) w w1 hW1.out hG (by simp)).mono ?_; rintro e w2 ⟨rfl, hW2, hk2⟩))
  rw [List.nil_append] at hW2
  have hT : IsS104 w (w2.alloc (.cells #[.int .i64 0, .int .i64 0] 104)) w2.heap.size 0 0 := ⟨by simpa using heap_alloc_new w2 _, hW2.bel.size⟩
  have hW3 := hW2.below (below_alloc (Below.refl _ _) (.cells #[.int .i64 0, .int .i64 0] 104))
  generalize w2.heap.size = p at hT ⊢
  generalize w2.alloc (.cells #[.int .i64 0, .int .i64 0] 104) = w3 at hT hW3 ⊢
  have hT3 := Aside0.mk hT
  have hW4 := Aside0.mk hW3
  clear hT hW3 hW2 hk2 hW1 w2 w1
  have hcb := Aside0.mk (codeBits_length (l0.length : Int))
  go_wp2
  go_loopg [6, 12] l0.length (fun kq v6 v12 w' => ∃ (i : Nat) (a b : Int) (β : List Bool), v12 = .int .i64 (i : Int) ∧ Aside0 (i + kq = l0.length) ∧ Aside0 (WrB w w' g β) ∧ Aside0 (IsS104 w w' p a b) ∧ Aside0 (β ++ trendBits a b (l0.drop i) = T) ∧ Aside0 (β.length ≤ 70 * (i + 1)))
  case atStart => exact ⟨0, 0, 0, _, rfl, ⟨by omega⟩, hW4, hT3, hTot, ⟨by have := hcb.out; omega⟩⟩
  case round =>
    clear hW4 hT3 hTot hcb
    obtain ⟨i, a, b, β, rfl, hi, hw, ht, hβ, hlen⟩ := hrel
    cases gk with
    | zero =>
      have e1 : i = l0.length := by have := hi.out; omega
      have c1 : decide ((i : Int) < (l0.length : Int)) = false := decide_eq_false (by omega)
      have c2 : decide (i < l0.length) = false := decide_eq_false (by omega)
      have c3 : l0.length ≤ i := by omega
      have hβ2 : β = T := by
        have h := hβ.out
        rw [e1, List.drop_length, trendBits, List.append_nil] at h
        exact h
      replace e1 := Aside0.mk e1
      replace hβ2 := Aside0.mk hβ2
      go_wp2_with (first | (go_at_call 65; refine (bits_Writer_Done.calls g β w wr hw.out (by have := hlen.out; have := e1.out; omega)).mono ?_; rintro e w5 ⟨v, rfl, hR, hB⟩))
      go_ret
      have hb := hw.out.bel
      exact ⟨v, rfl, by rw [← hβ2.out]; exact Kd.R_lower hR hb.size, below_then hb hb.size hB⟩
    | succ m =>
      have p0 : (0 : Int) ≤ (i : Int) := by omega
      have q0 : (i : Int) < (l0.length : Int) := by have := hi.out; omega
      have c1 : decide ((i : Int) < (l0.length : Int)) = true := decide_eq_true q0
      have c2 : decide (i < l0.length) = true := decide_eq_true (by omega)
      have c3 : i < l0.length := by omega
      obtain ⟨ad, e, hx⟩ := Kd.at_int hr0 (i : Int) p0 q0
      subst e
      have hx1 := pw_cell_below hw.out.bel hx
      rw [Int.toNat_natCast] at hx1
      have hdrop : l0.drop i = rd l0 (i : Int) :: l0.drop (i + 1) := by
        have hli : i < l0.length := by omega
        rw [List.drop_eq_getElem_cons hli, rd, Int.toNat_natCast, List.getD_eq_getElem?_getD, List.getElem?_eq_getElem hli]; rfl
      have hβ' := hβ.out
      rw [hdrop, trendBits, ← List.append_assoc] at hβ'
      obtain ⟨x, hxx⟩ : ∃ x, rd l0 (i : Int) = x := ⟨_, rfl⟩
      rw [hxx] at hx1 hβ'
      replace hβ' := Aside0.mk hβ'
      have hcb := Aside0.mk (codeBits_length (wrap64 (wrap64 (x - a) - b)))
      clear hx hdrop hxx hβ
      have hi1 : wrap64 ((i : Int) + 1) = (i : Int) + 1 := wrap_in _ (by omega) (by omega)
      have hl3 : β.length < 549755813000 := by have := hlen.out; have := hi.out; omega
      go_wp2_with (first | (go_at_call 64; refine (codec_trend_code.calls p a b x (wrap64 (wrap64 (x - a) - b)) x (wrap64 (x - a)) w wr ht.out hw.out.bel rfl).mono ?_; rintro e w5 ⟨rfl, hT5, hB5, hK5⟩; have hW5 := Aside0.mk (hw.out.keepBut ht.out.1 (by decide) (by decide) hK5 hB5); have hT5' := Aside0.mk hT5; clear hT5 hB5 hK5) | (go_at_call 63; refine (codec_put.calls g β (wrap64 (wrap64 (x - a) - b)) w w5 hW5.out hG hl3).mono ?_; rintro e w6 ⟨rfl, hW6, hk6⟩; obtain ⟨v_, m_, hb_⟩ := hW5.out.block; have hT6 := Aside0.mk (hk6.blk hT5'.out.1 hb_ (by decide) (by decide)); have hW6' := Aside0.mk hW6; clear hW6 hk6 hb_))
      go_roundg m
      case measure => omega
      case rel => exact ⟨i + 1, x, wrap64 (x - a), _, by simp [hi1], ⟨by have := hi.out; omega⟩, hW6', ⟨hT6.out, hT5'.out.2⟩, hβ', ⟨by rw [List.length_append]; have := hcb.out; have := hlen.out; omega⟩⟩
end Go.Proofs.YtblbieenfghbdaaDoor.D
end

section
namespace Go.Proofs.YtblbieenfghbdaaDoor.D
open Go.RowKit Go.Maps Go.WideMaps Go.Proofs.YtblbieenfghbdaaDoorW.PrintWords Go.Proofs.YtblbieenfghbdaaDoorW.PrintLast Go.Proofs.YtblbieenfghbdaaDoorW.PrintMore
set_option linter.unusedVariables false
set_option linter.unusedSimpArgs false
theorem law9 : Keyed Tryd.prog 9 := string_keyed Tryd.underlying9
theorem zeroE3 (w : World) : (zeroValue 3).run Tryd.prog w = .ok (.int .i64 0) w := by kernel_rfl
/-- Whether a string is among the words. -/
def memB (ws : List ByteArray) (x : ByteArray) : Bool := ws.any fun t => decide (t = x)
theorem memB_iff (ws : List ByteArray) (x : ByteArray) : memB ws x = true ↔ x ∈ ws := by simp [memB]
/-- One more string: its place among the words. -/
def dictStep (s : List ByteArray × List Int) (x : ByteArray) : List ByteArray × List Int :=
  if memB s.1 x = true then (s.1, s.2 ++ [((s.1.findIdx fun t => decide (t = x) : Nat) : Int)]) else (s.1 ++ [x], s.2 ++ [(s.1.length : Int)])
/-- The words of a list, and the list as their places. -/
def codec_Dict.f (l0 : List ByteArray) : Option (List ByteArray × List Int) :=
  if l0.length ≤ 4294967296 ∧ ∀ s, s ∈ l0 → s.size ≤ maxLen then some (l0.foldl dictStep ([], [])) else none
/-- What the map holds: the words, each at its place. -/
structure Told (D : DataW Unit) (ws : List ByteArray) : Prop where
  has : ∀ s : ByteArray, Maps.has D (.string s.data.toList) = memB ws s
  at_ : ∀ s : ByteArray, s ∈ ws → D.atKey (.string s.data.toList) (.lit (.int .i64 0)) = .lit (.int .i64 ((ws.findIdx fun t => decide (t = s) : Nat) : Int))
  isMap : IsMap D
theorem key_inj {s t : ByteArray} (h : (Lit.string s.data.toList) = Lit.string t.data.toList) : s = t := by
  injection h with h
  cases s; cases t
  exact congrArg ByteArray.mk (Array.toList_inj.mp h)
theorem Told.nil : Told (.map []) [] := ⟨fun s => rfl, fun s h => (by cases h), ⟨[], rfl⟩⟩
theorem Told.put {D : DataW Unit} {ws : List ByteArray} (h : Told D ws) {x : ByteArray} (hx : x ∉ ws) : Told (D.put (.string x.data.toList) (.lit (.int .i64 (ws.length : Int)))) (ws ++ [x]) := by
  have hkl : WideAt.IsKeyLit (.string x.data.toList) := by first | trivial | decide | simp [WideAt.IsKeyLit]
  refine ⟨fun s => ?_, fun s hs => ?_, ?_⟩
  · by_cases e : s = x
    · subst e; rw [has_put_same h.isMap hkl]; simp [memB]
    · rw [has_put_other (fun e2 => e (key_inj e2)), h.has]; simp [memB, show ¬ x = s from fun e2 => e e2.symm]
  · by_cases e : s = x
    · subst e
      rw [atKey_put_same h.isMap hkl]
      have : (ws ++ [s]).findIdx (fun t => decide (t = s)) = ws.length := by
        rw [List.findIdx_append]
        have hn : ws.findIdx (fun t => decide (t = s)) = ws.length := List.findIdx_eq_length.2 (fun t ht => by simp; rintro rfl; exact hx ht)
        rw [hn]; simp
      rw [this]
    · rw [atKey_put_other (fun e2 => e (key_inj e2))]
      have hs' : s ∈ ws := by simpa [e] using hs
      rw [h.at_ s hs']
      have hlt : ws.findIdx (fun t => decide (t = s)) < ws.length := List.findIdx_lt_length_of_exists ⟨s, hs', by simp⟩
      rw [List.findIdx_append, if_pos hlt]
  · obtain ⟨es, rfl⟩ := h.isMap
    exact ⟨_, rfl⟩

/-- The map, the words' row and the places' row of a round. -/
structure DI (w W : World) (B n : Nat) (v4 v5 : Value) (ws : List ByteArray) (out : List Int) (D : DataW Unit) : Prop where
  map : W.ownsMap Tryd.prog 9 (plainElem Tryd.prog 3) B n D
  told : Told D ws
  wsR : Kd.R Kd.string 9 W w.heap.size (fun _ => True) v4 ws
  outR : Kd.R (Kd.int .i64) 3 W w.heap.size (fun _ => True) v5 out
  bel : Below w.heap.size w W
  hB : w.heap.size ≤ B
theorem DI.mapAt {w W : World} {B n : Nat} {v4 v5 : Value} {ws : List ByteArray} {out : List Int} {D : DataW Unit} (h : DI w W B n v4 v5 ws out D) : ∃ es cl, W.heap[B]? = some (.map es cl) := by
  obtain ⟨es, cl, hb, _⟩ := h.map
  exact ⟨es, cl, hb⟩
theorem own_ne_map {α : Type} {d : Kd α} {e : Nat} {W : World} {base : Nat} {ok : Nat → Prop} {v : Value} {xs : List α} {B : Nat} {es : Array MapEntry} {cl : Nat} (h : d.R e W base ok v xs) (hm : W.heap[B]? = some (.map es cl)) : some B ≠ v.ownBlock := fun e_ => by
  obtain ⟨_, _, _, q, _, cs, hc⟩ := (Kd.R_bound h).1 B e_.symm
  rw [hm] at hc
  cases hc
theorem own_ne_own {α β : Type} {d : Kd α} {d' : Kd β} {e e' : Nat} {W : World} {base base' : Nat} {ok ok' : Nat → Prop} {v v' : Value} {xs : List α} {ys : List β} (h : d.R e W base ok v xs) (h' : d'.R e' W base' ok' v' ys) (hE : d.E = []) (hE' : d'.E = []) (hne : e ≠ e') : ∀ k, v.ownBlock = some k → some k ≠ v'.ownBlock := fun k hk hk' => by
  obtain ⟨_, _, _, q, hq, cs, hc⟩ := (Kd.R_bound h).1 k hk
  obtain ⟨_, _, _, q', hq', cs', hc'⟩ := (Kd.R_bound h').1 k hk'.symm
  rw [hE] at hq
  rw [hE'] at hq'
  rw [hc] at hc'
  have e1 : q = e := by simpa using hq
  have e2 : q' = e' := by simpa using hq'
  injection hc' with hc'
  injection hc' with _ hc'
  exact hne (by rw [← e1, ← e2]; exact hc')
theorem DI.store {w W W1 : World} {B n m : Nat} {v4 v5 : Value} {ws ws' : List ByteArray} {out : List Int} {D D' : DataW Unit} (h : DI w W B n v4 v5 ws out D) (hm : W1.ownsMap Tryd.prog 9 (plainElem Tryd.prog 3) B m D') (hg : W.grownBy W1 (some B)) :
    Kd.R Kd.string 9 W1 w.heap.size (fun _ => True) v4 ws ∧ Kd.R (Kd.int .i64) 3 W1 w.heap.size (fun _ => True) v5 out ∧ Below w.heap.size w W1 := by
  obtain ⟨es, cl, hb⟩ := h.mapAt
  exact ⟨Kd.R_grown2 h.wsR rfl hg (fun k e => by cases e; exact own_ne_map h.wsR hb), Kd.R_grown2 h.outR rfl hg (fun k e => by cases e; exact own_ne_map h.outR hb), pw_below_grown h.bel (some B) h.bel.size hg (fun k e => by cases e; exact h.hB)⟩
theorem wrap_in' (x : Int) (h : -9223372036854775808 ≤ x) (h2 : x < 9223372036854775808) : wrap64 x = x := by unfold wrap64; omega
set_option maxHeartbeats 8000000 in
set_option maxRecDepth 100000 in
theorem codec_Dict.calls (A0 : Option Addr) (c0 : Nat) (l0 : List ByteArray) (r1 : List ByteArray) (r2 : List Int) (w : World) (hr0 : Kd.C Kd.string w A0 l0.length l0) (hc0 : l0.length ≤ c0) (h : codec_Dict.f l0 = some (r1, r2)) :
    Calls Tryd.prog 26 #[.slice A0 l0.length c0] w fun e w' => ∃ v0_ v1_ : Value, e = .returned (.tuple #[v0_, v1_]) ∧ Kd.R Kd.string 9 w' w.heap.size (fun _ => True) v0_ r1 ∧ Kd.R (Kd.int .i64) 3 w' w.heap.size (fun _ => True) v1_ r2 ∧ Below w.heap.size w w' := by
  unfold codec_Dict.f at h
  have hl : l0.length ≤ 4294967296 ∧ ∀ s, s ∈ l0 → s.size ≤ maxLen := by
    by_cases hl : l0.length ≤ 4294967296 ∧ ∀ s, s ∈ l0 → s.size ≤ maxLen
    · exact hl
    · rw [if_neg hl] at h; cases h
  rw [if_pos hl] at h
  have HT := Aside0.mk (Option.some.inj h)
  have HS := Aside0.mk hl.2
  have hl1 := hl.1
  clear h hl
  have hmm := @run_makeMap Tryd.prog
  go_enter Tryd.func26, Tryd.ntmps26
  go_wp2
  have hD0 : DI w (w.alloc (.map #[] 0)) w.heap.size 0 (.slice none 0 0) (.slice none 0 0) [] [] (.map []) :=
    ⟨World.ownsMap_made _ _ _ _, Told.nil, Kd.R_nil _ _ _ _ _, Kd.R_nil _ _ _ _ _, below_alloc (Below.refl _ _) _, Nat.le_refl _⟩
  generalize w.alloc (.map #[] 0) = w1 at hD0 ⊢
  obtain ⟨B, hB⟩ : ∃ B, w.heap.size = B := ⟨_, rfl⟩
  have hD1 : Aside0 (DI w w1 B 0 (.slice none 0 0) (.slice none 0 0) [] [] (.map [])) := ⟨hB ▸ hD0⟩
  rw [hB]
  clear hD0 hB hmm
  go_loopg [4, 5, 14] l0.length (fun kq v4 v5 v14 w' => ∃ (i n : Nat) (ws : List ByteArray) (out : List Int) (D : DataW Unit), v14 = .int .i64 (i : Int) ∧ Aside0 (DI w w' B n v4 v5 ws out D) ∧ Aside0 (i + kq = l0.length ∧ n ≤ i ∧ ws.length ≤ i ∧ out.length = i) ∧ Aside0 ((l0.drop i).foldl dictStep (ws, out) = (r1, r2)))
  case atStart => exact ⟨0, 0, [], [], _, rfl, hD1, ⟨by omega, by omega, Nat.le_refl _, rfl⟩, HT⟩
  case round =>
    clear hD1 HT
    obtain ⟨i, n, ws, out, D, rfl, hd, hi, hf⟩ := hrel
    cases gk with
    | zero =>
      have e1 : l0.length ≤ i := by have := hi.out; omega
      have c1 : decide ((i : Int) < (l0.length : Int)) = false := decide_eq_false (by omega)
      have c2 : decide (i < l0.length) = false := decide_eq_false (by omega)
      have hfin := hf.out
      rw [List.drop_eq_nil_of_le e1, List.foldl_nil] at hfin
      injection hfin with h1 h2
      subst h1
      subst h2
      go_wp2
      go_ret2
      exact ⟨_, _, rfl, hd.out.wsR, hd.out.outR, hd.out.bel⟩
    | succ m =>
      have p0 : (0 : Int) ≤ (i : Int) := by omega
      have q0 : (i : Int) < (l0.length : Int) := by have := hi.out; omega
      have c1 : decide ((i : Int) < (l0.length : Int)) = true := decide_eq_true q0
      have c2 : decide (i < l0.length) = true := decide_eq_true (by omega)
      have c3 : i < l0.length := by omega
      obtain ⟨ad, e, hx⟩ := Kd.at_string hr0 (i : Int) p0 q0
      subst e
      have hx1 := pw_cell_below hd.out.bel hx
      rw [Int.toNat_natCast] at hx1
      have hdrop : l0.drop i = rdOf ByteArray.empty l0 (i : Int) :: l0.drop (i + 1) := by
        rw [List.drop_eq_getElem_cons c3, rdOf, Int.toNat_natCast, List.getD_eq_getElem?_getD, List.getElem?_eq_getElem c3]; rfl
      have hmem : rdOf ByteArray.empty l0 (i : Int) ∈ l0 := by
        rw [rdOf, Int.toNat_natCast, List.getD_eq_getElem?_getD, List.getElem?_eq_getElem c3]; exact List.getElem_mem c3
      have hsz := HS.out _ hmem
      have hf' := hf.out
      rw [hdrop, List.foldl_cons] at hf'
      clear hmem hdrop
      obtain ⟨x, hxx⟩ : ∃ x, rdOf ByteArray.empty l0 (i : Int) = x := ⟨_, rfl⟩
      rw [hxx] at hx1 hf' hsz
      clear hxx hx hf
      have hkey : keyOf Tryd.prog 9 (.string x) = some (.string x.data.toList) := keyOf_string_mk Tryd.underlying9 hsz
      have hi1 : wrap64 ((i : Int) + 1) = (i : Int) + 1 := wrap_in' _ (by omega) (by omega)
      obtain ⟨A4, c4, rfl⟩ := Kd.R_slice hd.out.wsR
      cases hm : memB ws x with
      | true =>
        have hhas : Maps.has D (.string x.data.toList) = true := by rw [hd.out.told.has, hm]
        have hstep : dictStep (ws, out) x = (ws, out ++ [((ws.findIdx fun t => decide (t = x) : Nat) : Int)]) := by simp only [dictStep, hm, if_true]
        rw [hstep] at hf'
        replace hf' := Aside0.mk hf'
        have hatx := Aside0.mk (hd.out.told.at_ x ((memB_iff ws x).1 hm))
        clear hm hstep
        go_wp2_with (first | (at_lookup; refine wpList_lookup_own_ok_int _ rfl _ _ 121 rfl 9 3 .i64 law9 Tryd.underlying121 Tryd.underlying3 (zeroE3 _) B n D rfl hd.out.map _ (.string x.data.toList) rfl hkey ?_; intro c hat hwc; have hat' := Aside0.mk hat; clear hat hwc) | ((with_reducible refine gate_builtin (b := .append) (xs := #[.tmp 35, .tmp 37]) rfl ?_); at_builtin; refine Kd.R_append (Kd.int .i64) (w0 := w) w.heap.size rfl (.tmp 35) (.tmp 37) 22 3 (.int .i64 0) 8 rfl Tryd.underlying22 info3 rfl (by decide) (by omega) u5 out c [.int .i64 c] (fun _ => True) (fun _ => False) rfl rfl rfl (fun _ hk => hk.elim) (fun _ _ => trivial) hd.out.outR hd.out.bel hd.out.bel.size (by have := hi.out; omega) ?_; intro v7 w7 ho7 hb7 hg7 hat7))
        have hc : c = ((ws.findIdx fun t => decide (t = x) : Nat) : Int) := by
          have h1 := hat'.out
          rw [hatx.out] at h1
          injection h1 with h1
          injection h1 with h1 h2
          exact h2.symm
        rw [← hc] at hf'
        obtain ⟨es, cl, hb⟩ := hd.out.mapAt
        have hd7 : DI w w7 B n (.slice A4 ws.length c4) v7 ws (out ++ [c]) D :=
          ⟨hd.out.map.kept hg7 (own_ne_map hd.out.outR hb), hd.out.told, Kd.R_grown2 hd.out.wsR rfl hg7 (own_ne_own hd.out.outR hd.out.wsR rfl rfl (by decide)), ho7, hb7, hd.out.hB⟩
        go_roundg m
        case measure => omega
        case rel => exact ⟨i + 1, n, ws, out ++ [c], D, by simp, ⟨hd7⟩, ⟨by have := hi.out; simp; omega⟩, hf'⟩
      | false =>
        have hhas : Maps.has D (.string x.data.toList) = false := by rw [hd.out.told.has, hm]
        have hnm : x ∉ ws := fun e => by rw [(memB_iff ws x).2 e] at hm; cases hm
        have hstep : dictStep (ws, out) x = (ws ++ [x], out ++ [(ws.length : Int)]) := by simp only [dictStep, hm]; rfl
        rw [hstep] at hf'
        replace hf' := Aside0.mk hf'
        clear hm hstep
        have hwf : (Lit.int .i64 (ws.length : Int)).wf = true := WalkArith.wf_i64 (by have := hi.out; omega)
        have hnx : n < maxLen := by unfold maxLen; have := hi.out; omega
        go_wp2_with (first | (at_lookup; refine wpList_lookup_own_ok_int _ rfl _ _ 121 rfl 9 3 .i64 law9 Tryd.underlying121 Tryd.underlying3 (zeroE3 _) B n D rfl hd.out.map _ (.string x.data.toList) rfl hkey ?_; intro c hat hwc; clear hat hwc) | (at_mapUpdate; refine wpList_mapUpdate_own _ rfl _ _ _ 121 rfl 9 3 law9 Tryd.underlying121 (plainElem Tryd.prog 3) B n D rfl hd.out.map hnx _ _ (.string x.data.toList) rfl rfl hkey (.lit (.int .i64 (ws.length : Int))) [] (plainElem_int Tryd.underlying3 hwf) ?_; intro w5 hown5 hgrow5; have hst := hd.out.store (ws' := ws) hown5 hgrow5; obtain ⟨es5, cl5, hb5, _⟩ := id hown5) | ((with_reducible refine gate_builtin (b := .append) (xs := #[.tmp 31, .tmp 33]) rfl ?_); at_builtin; refine Kd.R_append Kd.string (w0 := w) w.heap.size rfl (.tmp 31) (.tmp 33) 36 9 (.string ⟨#[]⟩) 16 rfl Tryd.underlying36 info9 rfl (by decide) (by omega) (.slice A4 ws.length c4) ws x [.string x] (fun _ => True) (fun _ => False) rfl rfl rfl (fun _ hk => hk.elim) (fun _ _ => trivial) hst.1 hst.2.2 hst.2.2.size (by have := hi.out; omega) ?_; intro v6 w6 ho6 hb6 hg6 hat6; have ho6' := Kd.R_grown2 hst.2.1 rfl hg6 (own_ne_own hst.1 hst.2.1 rfl rfl (by decide)); have hm6 := hown5.kept hg6 (own_ne_map hst.1 hb5)) | ((with_reducible refine gate_builtin (b := .append) (xs := #[.tmp 35, .tmp 37]) rfl ?_); at_builtin; refine Kd.R_append (Kd.int .i64) (w0 := w) w.heap.size rfl (.tmp 35) (.tmp 37) 22 3 (.int .i64 0) 8 rfl Tryd.underlying22 info3 rfl (by decide) (by omega) u5 out (ws.length : Int) [.int .i64 (ws.length : Int)] (fun _ => True) (fun _ => False) rfl rfl rfl (fun _ hk => hk.elim) (fun _ _ => trivial) ho6' hb6 hb6.size (by have := hi.out; omega) ?_; intro v7 w7 ho7 hb7 hg7 hat7))
        obtain ⟨es6, cl6, hb6m, _⟩ := id hm6
        have hd7 : DI w w7 B (n + 1) v6 v7 (ws ++ [x]) (out ++ [(ws.length : Int)]) (D.put (.string x.data.toList) (.lit (.int .i64 (ws.length : Int)))) :=
          ⟨hm6.kept hg7 (own_ne_map ho6' hb6m), hd.out.told.put hnm, Kd.R_grown2 ho6 rfl hg7 (own_ne_own ho6' ho6 rfl rfl (by decide)), ho7, hb7, hd.out.hB⟩
        go_roundg m
        case measure => omega
        case rel => exact ⟨i + 1, n + 1, ws ++ [x], _, _, by simp, ⟨hd7⟩, ⟨by have := hi.out; simp; omega⟩, hf'⟩
end Go.Proofs.YtblbieenfghbdaaDoor.D
end

section
namespace Go.Proofs.YtblbieenfghbdaaDoor.D
open Go.RowKit Go.Proofs.YtblbieenfghbdaaDoorW.PrintWords Go.Proofs.YtblbieenfghbdaaDoorW.PrintLast Go.Proofs.YtblbieenfghbdaaDoorW.PrintMore
set_option linter.unusedVariables false
set_option linter.unusedSimpArgs false
theorem lit_reads {α : Type} {enc : α → Value} (d : α) {W : World} {q : Nat} {t : TypeId} (l : List α) (h : W.heap[q]? = some (.cells (l.map enc).toArray t (0, 0))) (hl : l.length ≤ 9223372036854775807) :
    ReadsOf enc d W (some ⟨q, 0, none⟩) l.length l := by
  refine ⟨rfl, hl, fun _ => ⟨⟨q, 0, none⟩, rfl, fun j hj => ?_⟩⟩
  have e : (⟨q, 0, none⟩ : Addr).add j = ⟨q, j, none⟩ := by unfold Addr.add; split <;> simp_all
  rw [e, blk_cell h j]
  simp [List.getElem?_eq_getElem hj, List.getD_eq_getElem?_getD]
theorem lit_i64 (w : World) (l : List Int) (t : TypeId) (hl : l.length ≤ 9223372036854775807) : Kd.C (Kd.int .i64) (w.alloc (.cells (l.map (Value.int .i64)).toArray t)) (some ⟨w.heap.size, 0, none⟩) l.length l :=
  Kd.C_of_reads (enc := Value.int .i64) (d := 0) (h1 := fun _ => rfl) (lit_reads 0 l (by simpa using heap_alloc_new w (.cells (l.map (Value.int .i64)).toArray t)) hl)
theorem lit_u8 (w : World) (l : List Int) (t : TypeId) (hl : l.length ≤ 9223372036854775807) : Kd.C (Kd.int .u8) (w.alloc (.cells (l.map (Value.int .u8)).toArray t)) (some ⟨w.heap.size, 0, none⟩) l.length l :=
  Kd.C_of_reads (enc := Value.int .u8) (d := 0) (h1 := fun _ => rfl) (lit_reads 0 l (by simpa using heap_alloc_new w (.cells (l.map (Value.int .u8)).toArray t)) hl)
theorem lit_str (w : World) (l : List ByteArray) (t : TypeId) (hl : l.length ≤ 9223372036854775807) : Kd.C Kd.string (w.alloc (.cells (l.map Value.string).toArray t)) (some ⟨w.heap.size, 0, none⟩) l.length l :=
  Kd.C_of_reads (enc := Value.string) (d := ByteArray.empty) (h1 := fun _ => rfl) (lit_reads ByteArray.empty l (by simpa using heap_alloc_new w (.cells (l.map Value.string).toArray t)) hl)
set_option maxRecDepth 100000 in
theorem lives_dict : codec_Dict.f [⟨#[98]⟩, ⟨#[97]⟩, ⟨#[98]⟩] = some ([⟨#[98]⟩, ⟨#[97]⟩], [0, 1, 0]) := by
  rw [codec_Dict.f, if_pos ⟨by decide, by intro s hs; simp at hs; rcases hs with rfl | rfl | rfl <;> decide⟩]
  rfl
theorem lives_read : codec_ReadInts.f 80 [154, 169, 64] = some ([5, 7, 9], 0) := by kernel_rfl
theorem lives_ints0 : codec_Ints.f 80 [] = some [0] := by kernel_rfl
theorem lives_ints : codec_Ints.f 80 [5, 7, 9] = some [154, 169, 64] := by kernel_rfl
theorem lives_b0 : intervalmonref01_SameBytes.f 80 [0] [0] = some true := by kernel_rfl
theorem lives_b : intervalmonref01_SameBytes.f 80 [154, 169, 64] [154, 169, 64] = some true := by kernel_rfl
theorem lives_i : intervalmonref01_SameInts.f 80 [5, 7, 9] [5, 7, 9] = some true := by kernel_rfl
theorem lives_i0 : intervalmonref01_SameInts.f 80 [0, 1, 0] [0, 1, 0] = some true := by kernel_rfl
theorem lives_t : intervalmonref01_SameTexts.f 80 [⟨#[98]⟩, ⟨#[97]⟩] [⟨#[98]⟩, ⟨#[97]⟩] = some true := by kernel_rfl
set_option maxHeartbeats 2000000 in
set_option maxRecDepth 100000 in
theorem intervalmonlaw15_lives.calls (w : World) (hG : Glob w) : Calls Tryd.prog 25 #[] w fun e w' => e = .returned (.bool true) ∧ Below w.heap.size w w' := by
  go_enter Tryd.func25, Tryd.ntmps25
  go_upto_region 2 with (first | (go_at_call 26; refine (codec_Dict.calls _ 3 [⟨#[98]⟩, ⟨#[97]⟩, ⟨#[98]⟩] _ _ _ (lit_str w [⟨#[98]⟩, ⟨#[97]⟩, ⟨#[98]⟩] 9 (by decide)) (Nat.le_refl _) lives_dict).mono ?_; rintro e w1 ⟨v1, v2, rfl, hR1, hR2, hB1⟩; obtain ⟨A1, c1, rfl⟩ := Kd.R_slice hR1; obtain ⟨A2, c2, rfl⟩ := Kd.R_slice hR2))
  have hb1 : Below w.heap.size w w1 := below_then (below_alloc (Below.refl _ w) _) (by simp) hB1
  have k1 := Aside0.mk (Kd.R_reads' hR1)
  have k2 := Aside0.mk (Kd.R_reads' hR2)
  have hG1 := Aside0.mk (hG.below hb1)
  clear hR1 hR2 hB1
  go_upto_region 3 with (first | (go_at_call 22; refine (codec_ReadInts.calls 80 _ 3 [154, 169, 64] _ _ _ (lit_u8 w1 [154, 169, 64] 5 (by decide)) (Nat.le_refl _) (hG1.out.below (below_alloc (Below.refl _ w1) _)) lives_read).mono ?_; rintro e w2 ⟨v3, rfl, hR3, hB2⟩; obtain ⟨A3, c3, rfl⟩ := Kd.R_slice hR3))
  have hb2' : Below w1.heap.size w1 w2 := below_then (below_alloc (Below.refl _ w1) _) (by simp) hB2
  have hb2 : Below w.heap.size w w2 := below_then hb1 hb1.size hb2'
  have hG2 := hG.below hb2
  have m3 := Kd.R_reads' hR3
  have m1 := Kd.C_below k1.out.2.2 hb2'
  have m2 := Kd.C_below k2.out.2.2 hb2'
  replace hG2 := Aside0.mk hG2
  have k1' := Aside0.mk k1.out.2.1
  have k2' := Aside0.mk k2.out.2.1
  have k3' := Aside0.mk m3.2.1
  have m3' := Aside0.mk m3.2.2
  have m1' := Aside0.mk m1
  have m2' := Aside0.mk m2
  clear hb1 k1 k2 hG1 hR3 hB2 hb2' m1 m2 m3
  have hr := Aside0.mk (Below.refl w2.heap.size w2)
  go_wp2_with (fail)
  refine (codec_Ints.calls 80 none 0 [] _ w2 (Kd.C_nil _ _) (Nat.le_refl _) hG2.out lives_ints0).mono ?_
  rintro e w3 ⟨v4, rfl, hR4, hB3⟩
  obtain ⟨A4, c4, rfl⟩ := Kd.R_slice hR4
  have k4 := Aside0.mk (Kd.R_reads' hR4)
  clear hR4
  replace hr := Aside0.mk hB3
  clear hB3
  go_wp2_with (fail)
  refine (intervalmonref01_SameBytes.calls 80 A4 c4 [0] _ 1 [0] true _ (Kd.C_below k4.out.2.2 (below_alloc (Below.refl _ w3) _)) k4.out.2.1 (lit_u8 w3 [0] 5 (by decide)) (Nat.le_refl _) lives_b0).mono ?_
  rintro e w4 ⟨rfl, hd⟩
  replace hr := Aside0.mk (below_then (below_alloc hr.out (.cells #[.int .u8 0] 5)) (below_alloc hr.out (.cells #[.int .u8 0] 5)).size hd.below)
  clear hd k4
  go_wp2_with (fail)
  refine (intervalmonref01_SameInts.calls 80 A3 c3 [5, 7, 9] _ 3 [5, 7, 9] true _ (Kd.C_below m3'.out (below_alloc hr.out _)) k3'.out (lit_i64 w4 [5, 7, 9] 3 (by decide)) (Nat.le_refl _) lives_i).mono ?_
  rintro e w5 ⟨rfl, hd⟩
  replace hr := Aside0.mk (below_then (below_alloc hr.out (.cells #[.int .i64 5, .int .i64 7, .int .i64 9] 3)) (below_alloc hr.out (.cells #[.int .i64 5, .int .i64 7, .int .i64 9] 3)).size hd.below)
  clear hd
  go_wp2_with (fail)
  refine (codec_Ints.calls 80 A3 c3 [5, 7, 9] _ w5 (Kd.C_below m3'.out hr.out) k3'.out (hG2.out.below hr.out) lives_ints).mono ?_
  rintro e w6 ⟨v6, rfl, hR6, hB6⟩
  obtain ⟨A6, c6, rfl⟩ := Kd.R_slice hR6
  have k6 := Aside0.mk (Kd.R_reads' hR6)
  clear hR6
  replace hr := Aside0.mk (below_then hr.out hr.out.size hB6)
  clear hB6
  go_wp2_with (fail)
  refine (intervalmonref01_SameBytes.calls 80 A6 c6 [154, 169, 64] _ 3 [154, 169, 64] true _ (Kd.C_below k6.out.2.2 (below_alloc (Below.refl _ w6) _)) k6.out.2.1 (lit_u8 w6 [154, 169, 64] 5 (by decide)) (Nat.le_refl _) lives_b).mono ?_
  rintro e w7 ⟨rfl, hd⟩
  replace hr := Aside0.mk (below_then (below_alloc hr.out (.cells #[.int .u8 154, .int .u8 169, .int .u8 64] 5)) (below_alloc hr.out (.cells #[.int .u8 154, .int .u8 169, .int .u8 64] 5)).size hd.below)
  clear hd k6
  go_wp2_with (fail)
  refine (intervalmonref01_SameTexts.calls 80 A1 c1 [⟨#[98]⟩, ⟨#[97]⟩] _ 2 [⟨#[98]⟩, ⟨#[97]⟩] true _ (Kd.C_below m1'.out (below_alloc hr.out _)) k1'.out (lit_str w7 [⟨#[98]⟩, ⟨#[97]⟩] 9 (by decide)) (Nat.le_refl _) lives_t).mono ?_
  rintro e w8 ⟨rfl, hd⟩
  replace hr := Aside0.mk (below_then (below_alloc hr.out (.cells #[.string ⟨#[98]⟩, .string ⟨#[97]⟩] 9)) (below_alloc hr.out (.cells #[.string ⟨#[98]⟩, .string ⟨#[97]⟩] 9)).size hd.below)
  clear hd
  go_wp2_with (fail)
  refine (intervalmonref01_SameInts.calls 80 A2 c2 [0, 1, 0] _ 3 [0, 1, 0] true _ (Kd.C_below m2'.out (below_alloc hr.out _)) k2'.out (lit_i64 w8 [0, 1, 0] 3 (by decide)) (Nat.le_refl _) lives_i0).mono ?_
  rintro e w9 ⟨rfl, hd⟩
  replace hr := Aside0.mk (below_then (below_alloc hr.out (.cells #[.int .i64 0, .int .i64 1, .int .i64 0] 3)) (below_alloc hr.out (.cells #[.int .i64 0, .int .i64 1, .int .i64 0] 3)).size hd.below)
  clear hd
  go_wp2
  go_ret
  exact ⟨rfl, below_then hb2 hb2.size hr.out⟩
end Go.Proofs.YtblbieenfghbdaaDoor.D
end

section
namespace Go.Proofs.YtblbieenfghbdaaDoor.D
open Go.RowKit Go.Proofs.YtblbieenfghbdaaDoorW.PrintWords Go.Proofs.YtblbieenfghbdaaDoorW.PrintLast Go.Proofs.YtblbieenfghbdaaDoorW.PrintMore
set_option linter.unusedVariables false
set_option linter.unusedSimpArgs false
/-- A number of the reference's reader, whether its code is the shortest, and the reader behind it. -/
def intervalmonref15_Read.f (k : Nat) (s0_0 : List Bool) (s0_1 : Int) (s0_2 : Int) : Option (Int × Bool × Int × Int) :=
  (intervalmonref14_Reader_Unary.f k s0_0 s0_1 s0_2 5).bind fun u => if 0 ≤ u.1 ∧ u.1 < 6 then
    (intervalmonref14_Reader_Bits.f k s0_0 u.2.1 u.2.2 (rd ([0, 4, 8, 16, 32, 64] : List Int) u.1)).bind fun z => (intervalmonref02_Back.f z.1).bind fun n =>
      if z.2.2 = 0 then (intervalmonref15_Code.f k n).bind fun c => some (n, decide ((c.length : Int) = wrap64 (z.2.1 - s0_1)), z.2.1, z.2.2) else some (0, false, z.2.1, z.2.2) else none
theorem lit6_at {W : World} {q : Nat} {t : TypeId} (h : W.heap[q]? = some (.cells #[.int .i64 0, .int .i64 4, .int .i64 8, .int .i64 16, .int .i64 32, .int .i64 64] t (0, 0))) (i : Int) (h0 : 0 ≤ i) (h1 : i < 6) :
    W.cell? ⟨q, i.toNat, none⟩ = some (.int .i64 (rd ([0, 4, 8, 16, 32, 64] : List Int) i)) := by
  refine (blk_cell h i.toNat).trans ?_
  have : i = 0 ∨ i = 1 ∨ i = 2 ∨ i = 3 ∨ i = 4 ∨ i = 5 := by omega
  rcases this with rfl | rfl | rfl | rfl | rfl | rfl <;> rfl
set_option maxHeartbeats 8000000 in
set_option maxRecDepth 100000 in
theorem intervalmonref15_Read.calls (k : Nat) (g : Nat) (s0_0 : List Bool) (s0_1 : Int) (s0_2 : Int) (r1 : Int) (r2 : Bool) (r3 : Int) (r4 : Int) (w0 w : World) (hI : IsS118 w0 w g s0_0 s0_1 s0_2) (hB : Below w0.heap.size w0 w) (h : intervalmonref15_Read.f k s0_0 s0_1 s0_2 = some (r1, r2, r3, r4)) :
    Calls Tryd.prog 74 #[.pointer (some ⟨g, 0, none⟩)] w fun e w' => e = .returned (.tuple #[.int .i64 r1, .bool r2]) ∧ IsS118 w0 w' g s0_0 r3 r4 ∧ Below w0.heap.size w0 w' ∧ KeepBut w w' g none := by
  unfold intervalmonref15_Read.f at h
  obtain ⟨⟨u1, u2, u3⟩, hu, h⟩ := Option.bind_eq_some_iff.mp h
  by_cases hc : 0 ≤ u1 ∧ u1 < 6
  case neg => rw [if_neg hc] at h; cases h
  rw [if_pos hc] at h
  obtain ⟨⟨z1, z2, z3⟩, hz, h⟩ := Option.bind_eq_some_iff.mp h
  obtain ⟨n, hn, h⟩ := Option.bind_eq_some_iff.mp h
  have H := Aside0.mk h
  clear h
  obtain ⟨hu0, hu6⟩ := hc
  obtain ⟨x, hx⟩ : ∃ x, rd ([0, 4, 8, 16, 32, 64] : List Int) u1 = x := ⟨_, rfl⟩
  replace hx := Aside0.mk hx
  have HI := Aside0.mk hI
  have HZ := Aside0.mk hz
  have HU := Aside0.mk hu
  have HN := Aside0.mk hn
  obtain ⟨A0, c0, hblk, -, -⟩ := hI
  have k1 : w.cell? ⟨g, 1, none⟩ = some (.int .i64 s0_1) := (blk_cell hblk 1).trans rfl
  have hgw := blk_lt hblk
  clear hu hz hn hblk
  go_enter Tryd.func74, Tryd.ntmps74
  go_upto_region 3 with (fail)
  have hB1 : Below w0.heap.size w0 (w.alloc (.cells #[.int .i64 0, .int .i64 4, .int .i64 8, .int .i64 16, .int .i64 32, .int .i64 64] 3)) := below_alloc hB _
  have hP1 : (w.alloc (.cells #[.int .i64 0, .int .i64 4, .int .i64 8, .int .i64 16, .int .i64 32, .int .i64 64] 3)).heap[w.heap.size]? = some (.cells #[.int .i64 0, .int .i64 4, .int .i64 8, .int .i64 16, .int .i64 32, .int .i64 64] 3 (0, 0)) := by simpa using heap_alloc_new w _
  have hI1 := Aside0.mk (HI.out.alloc (.cells #[.int .i64 0, .int .i64 4, .int .i64 8, .int .i64 16, .int .i64 32, .int .i64 64] 3))
  have hk1 : KeepBut w (w.alloc (.cells #[.int .i64 0, .int .i64 4, .int .i64 8, .int .i64 16, .int .i64 32, .int .i64 64] 3)) g none := KeepBut.of_below (below_alloc (Below.refl _ _) _) g none
  have hne : g ≠ w.heap.size := by omega
  obtain ⟨q, hq⟩ : ∃ q, w.heap.size = q := ⟨_, rfl⟩
  rw [hq] at hP1 hne ⊢
  replace hq := Aside0.mk hq
  generalize w.alloc (.cells #[.int .i64 0, .int .i64 4, .int .i64 8, .int .i64 16, .int .i64 32, .int .i64 64] 3) = w1 at hB1 hP1 hI1 hk1 ⊢
  clear k1 HI
  replace hk1 := Aside0.mk hk1
  replace hP1 := Aside0.mk hP1
  go_upto_region 4 with (first | (go_at_call 108; refine (intervalmonref14_Reader_Unary.calls k g s0_0 s0_1 s0_2 5 u1 u2 u3 w0 w1 hI1.out hB1 HU.out).mono ?_; rintro e w2 ⟨rfl, hI2, hB2, hK2⟩))
  have hP2 := hK2.blk hP1.out (fun e => hne e.symm) (by simp)
  have hk2 := Aside0.mk (hk1.out.trans hK2 (.inl rfl))
  replace hI2 := Aside0.mk hI2
  have hc2 := lit6_at hP2 u1 hu0 hu6
  replace hP2 := Aside0.mk hP2
  clear hI1 hB1 hP1 hk1 hK2 HU hB
  rw [hx.out] at hc2
  have HZ' : Aside0 (intervalmonref14_Reader_Bits.f k s0_0 u2 u3 x = some (z1, z2, z3)) := ⟨by have := HZ.out; simp only [hx.out] at this; exact this⟩
  clear HZ
  go_upto_region 5 with (first | (go_at_call 110; refine (intervalmonref14_Reader_Bits.calls k g s0_0 u2 u3 x z1 z2 z3 w0 w2 hI2.out hB2 HZ'.out).mono ?_; rintro e w3 ⟨rfl, hI3, hB3, hK3⟩; have hk3 := Aside0.mk (hk2.out.trans hK3 (.inl rfl)); clear hK3) | (go_at_call 109; refine (intervalmonref02_Back.calls z1 n w3 HN.out).mono ?_; rintro e w4 ⟨rfl, hd4⟩))
  have hb4 := hd4.below
  have hI4 := hI3.below hb4
  have hB4 := below_then hB3 hB3.size hb4
  have hk4 := hk3.out.trans (KeepBut.of_below hb4 g none) (.inl rfl)
  clear hI2 hP2 hk2 hB2 hc2 HZ' hI3 hB3 hk3 hd4 hb4 HN
  obtain ⟨A0, c0, hblk, hge, hread⟩ := hI4
  have k1 : w4.cell? ⟨g, 1, none⟩ = some (.int .i64 z2) := (blk_cell hblk 1).trans rfl
  have k2 : w4.cell? ⟨g, 2, none⟩ = some (.int .i64 z3) := (blk_cell hblk 2).trans rfl
  have hI4 := Aside0.mk (show IsS118 w0 w4 g s0_0 z2 z3 from ⟨A0, c0, hblk, hge, hread⟩)
  clear hge hread
  have h := H.out
  clear H hx
  try simp only [] at h
  by_cases c : z3 = 0
  · rw [if_pos c] at h
    obtain ⟨cs, hcs, h⟩ := Option.bind_eq_some_iff.mp h
    simp only [Option.some.injEq, Prod.mk.injEq] at h
    obtain ⟨rfl, rfl, rfl, rfl⟩ := h
    subst c
    go_upto_region 7 with (fail)
    have HC := Aside0.mk hcs
    clear hcs
    go_region_held3 (fun w' => w'.cell? ⟨g, 1, none⟩ = some (.int .i64 z2)) (first | go_keep | (exact pw_cell_below (by assumption) (by assumption))) ((go_at_call 66; refine (intervalmonref15_Code.calls k n cs _ HC.out).mono ?_; rintro e w5 ⟨v5, rfl, hR5, hB5⟩; obtain ⟨A5, c5, rfl⟩ := Kd.R_slice hR5))
    rw [i64_w]
    have hb5 : Below w4.heap.size w4 w5 := below_then (below_drew1 (Below.refl _ w4)) (Nat.le_refl _) hB5
    clear hR5 k1 k2
    have hfin : IsS118 w0 w5 g s0_0 z2 0 ∧ Below w0.heap.size w0 w5 ∧ KeepBut w w5 g none := ⟨hI4.out.below hb5, below_then hB4 hB4.size hb5, hk4.trans (KeepBut.of_below hb5 g none) (.inl rfl)⟩
    replace hfin := Aside0.mk hfin
    clear hb5 hB5 hk4 hB4
    have he : ((cs.length : Int) == wrap64 (z2 - s0_1)) = decide ((cs.length : Int) = wrap64 (z2 - s0_1)) := by rw [Bool.eq_iff_iff]; simp
    rw [he]
    obtain ⟨b, hb⟩ : ∃ b, decide ((cs.length : Int) = wrap64 (z2 - s0_1)) = b := ⟨_, rfl⟩
    rw [hb]
    replace hb := Aside0.mk hb
    clear he
    go_wp2
    go_ret2
    exact ⟨by rw [hb.out]; rfl, hfin.out⟩
  · rw [if_neg c] at h
    simp only [Option.some.injEq, Prod.mk.injEq] at h
    obtain ⟨rfl, rfl, rfl, rfl⟩ := h
    have c1 : (z3 == 0) = false := by simp [c]
    have c2 : (z3 != 0) = true := by simp [c]
    clear c
    go_wp2
    go_ret2
    exact ⟨rfl, hI4.out, hB4, hk4⟩
end Go.Proofs.YtblbieenfghbdaaDoor.D
end

section
namespace Go.Proofs.YtblbieenfghbdaaDoor.D
open Go.RowKit Go.Proofs.YtblbieenfghbdaaDoorW.PrintWords
set_option linter.unusedVariables false
set_option linter.unusedSimpArgs false
theorem downs_lt : ∀ (k i : Nat), i ∈ downs k → i < k
  | 0, _, h => by cases h
  | k + 1, i, h => by
    rw [downs, List.mem_cons] at h
    rcases h with h | h
    · omega
    · have := downs_lt k i h; omega
theorem bitOf_nat (n i : Nat) (h : n < 18446744073709551616) (hi : i ≤ 64) : bitOf (n : Int) i = n.testBit i := by
  have hp : 0 < 2 ^ i := Nat.two_pow_pos i
  have hc : ((n : Int) / 2 ^ i) = ((n / 2 ^ i : Nat) : Int) := by push_cast; rfl
  have hle : n / 2 ^ i ≤ n := Nat.div_le_self _ _
  rw [bitOf, Nat.min_eq_left hi, hc, Nat.testBit_eq_decide_div_mod_eq]
  generalize n / 2 ^ i = q at hle ⊢
  rw [and_one _ (by omega) (by omega), decide_eq_decide]
  omega
/-- The number that bits tell, the first the most. -/
def valN (β : List Bool) : Nat := β.foldl (fun a b => 2 * a + b.toNat) 0
theorem foldl_val (β : List Bool) (a : Nat) : β.foldl (fun a b => 2 * a + b.toNat) a = a * 2 ^ β.length + valN β := by
  induction β generalizing a with
  | nil => simp [valN]
  | cons b β ih =>
    rw [valN, List.foldl_cons, List.foldl_cons, ih, ih (2 * 0 + b.toNat), List.length_cons, Nat.pow_succ, Nat.add_mul, Nat.add_mul]
    rw [show 2 * a * 2 ^ β.length = a * (2 ^ β.length * 2) by rw [Nat.mul_comm 2 a, Nat.mul_assoc, Nat.mul_comm 2]]
    omega
theorem valN_cons (b : Bool) (β : List Bool) : valN (b :: β) = b.toNat * 2 ^ β.length + valN β := by
  rw [valN, List.foldl_cons, foldl_val]
  simp
theorem val_of_bits (n : Nat) : ∀ k, valN ((downs k).map (fun i => n.testBit i)) = n % 2 ^ k
  | 0 => by simp [downs, valN, Nat.mod_one]
  | k + 1 => by
    rw [downs, List.map_cons, valN_cons, val_of_bits n k, List.length_map, downs_length, Nat.mod_pow_succ, Nat.testBit_eq_decide_div_mod_eq]
    have h2 : n / 2 ^ k % 2 = 0 ∨ n / 2 ^ k % 2 = 1 := by omega
    rcases h2 with h | h <;> rw [h] <;> simp <;> omega
/-- The bits of a byte, from the top. -/
def bits8 (x : Int) : List Bool := (downs 8).map (bitOf x)
/-- The bits of bytes. -/
def unpack (bs : List Int) : List Bool := bs.flatMap bits8
theorem bits8_length (x : Int) : (bits8 x).length = 8 := by simp [bits8, downs_length]
theorem unpack_length (bs : List Int) : (unpack bs).length = 8 * bs.length := by
  induction bs with
  | nil => rfl
  | cons x bs ih => simp only [unpack, List.flatMap_cons, List.length_append, bits8_length, List.length_cons] at ih ⊢; omega
theorem unpack_append (a b : List Int) : unpack (a ++ b) = unpack a ++ unpack b := by simp [unpack]
theorem unpack_cons (x : Int) (b : List Int) : unpack (x :: b) = bits8 x ++ unpack b := by simp [unpack]
/-- A list of bytes. -/
def AllB (bs : List Int) : Prop := ∀ x, x ∈ bs → 0 ≤ x ∧ x < 256
theorem AllB.app {a b : List Int} (h : AllB a) (k : AllB b) : AllB (a ++ b) := fun x hx => by
  rcases List.mem_append.1 hx with hx | hx
  · exact h x hx
  · exact k x hx
theorem fin_push : ∀ x : Fin 256, ∀ m : Fin 8, (bits8 ((x.val : Nat) : Int)).drop m.val = List.replicate (8 - m.val) false → ∀ b : Bool,
    0 ≤ pushByte ((x.val : Nat) : Int) ((m.val : Nat) : Int) (if b then 1 else 0) ∧ pushByte ((x.val : Nat) : Int) ((m.val : Nat) : Int) (if b then 1 else 0) < 256 ∧
    bits8 (pushByte ((x.val : Nat) : Int) ((m.val : Nat) : Int) (if b then 1 else 0)) = (bits8 ((x.val : Nat) : Int)).take m.val ++ b :: List.replicate (7 - m.val) false ∧
    pushByte ((x.val : Nat) : Int) ((m.val : Nat) : Int) (if b then 1 else 0) = (x.val : Int) + (if b then 2 ^ (7 - m.val) else 0) := by decide +kernel
theorem byte_push (x : Int) (m : Nat) (b : Bool) (h0 : 0 ≤ x) (h1 : x < 256) (hm : m < 8) (hd : (bits8 x).drop m = List.replicate (8 - m) false) :
    0 ≤ pushByte x m (if b then 1 else 0) ∧ pushByte x m (if b then 1 else 0) < 256 ∧ bits8 (pushByte x m (if b then 1 else 0)) = (bits8 x).take m ++ b :: List.replicate (7 - m) false ∧
    pushByte x m (if b then 1 else 0) = x + (if b then 2 ^ (7 - m) else 0) := by
  obtain ⟨n, rfl⟩ := Int.eq_ofNat_of_zero_le h0
  exact fin_push ⟨n, by omega⟩ ⟨m, hm⟩ hd b
/-- The bits that fill the last byte. -/
def padN (n : Nat) : Nat := (8 - n % 8) % 8
/-- Bytes that hold a list of bits and end in zeros. -/
def Packed (bs : List Int) (β : List Bool) : Prop := AllB bs ∧ unpack bs = β ++ List.replicate (padN β.length) false
theorem Packed.nil : Packed [] [] := ⟨fun x h => by (cases h), rfl⟩
theorem Packed.length {a : List Int} {β : List Bool} (h : Packed a β) : 8 * a.length = β.length + padN β.length := by
  rw [← unpack_length, h.2, List.length_append, List.length_replicate]
/-- One more bit, at a byte's begin. -/
theorem Packed.snoc0 {a : List Int} {β : List Bool} (h : Packed a β) (b : Bool) (h0 : β.length % 8 = 0) :
    Packed (a ++ [if b then 128 else 0]) (β ++ [b]) ∧ pushBits a β.length (if b then 1 else 0) = a ++ [if b then 128 else 0] := by
  have hT : Int.tmod (β.length : Int) 8 = 0 := by rw [Int.tmod_eq_emod_of_nonneg (by omega)]; omega
  have hu : unpack a = β := by
    have := h.2
    rw [show padN β.length = 0 by simp only [padN]; omega] at this
    simpa using this
  have hb := byte_push 0 0 b (by decide) (by decide) (by decide) (by decide +kernel)
  rw [show ((0 : Nat) : Int) = 0 from rfl] at hb
  have e3 : pushByte 0 0 (if b = true then 1 else 0) = if b = true then 128 else 0 := by
    rw [hb.2.2.2]
    cases b <;> rfl
  refine ⟨⟨h.1.app (fun x hx => ?_), ?_⟩, ?_⟩
  · rw [List.mem_singleton] at hx
    subst hx
    cases b <;> decide
  · rw [unpack_append, hu, unpack_cons, ← e3, hb.2.2.1, show unpack [] = [] from rfl, List.append_nil, List.take_zero, List.nil_append, List.length_append, List.length_singleton, List.append_assoc, List.singleton_append]
    rw [show padN (β.length + 1) = 7 by simp only [padN]; omega]
  · rw [pushBits, hT]
    show ((if (0 : Int) = 0 then a ++ [0] else a).set _ _) = _
    simp only [if_true]
    have e1 : ((a ++ [(0 : Int)]).length : Int) - 1 = (a.length : Int) := by simp
    have e2 : rdOf 0 (a ++ [(0 : Int)]) (a.length : Int) = 0 := by simp [rdOf]
    rw [e1, e2, e3, Int.toNat_natCast, List.set_append_right _ _ (Nat.le_refl _), Nat.sub_self]
    rfl
/-- One more bit, within a byte. -/
theorem Packed.snocm {a : List Int} {β : List Bool} (h : Packed a β) (b : Bool) (h0 : β.length % 8 ≠ 0) :
    Packed (a.set (a.length - 1) (rdOf 0 a ((a.length : Int) - 1) + (if b then 2 ^ (7 - β.length % 8) else 0))) (β ++ [b]) ∧
    pushBits a β.length (if b then 1 else 0) = a.set (a.length - 1) (rdOf 0 a ((a.length : Int) - 1) + (if b then 2 ^ (7 - β.length % 8) else 0)) := by
  obtain ⟨m, hm⟩ : ∃ m, β.length % 8 = m := ⟨_, rfl⟩
  have hT : Int.tmod (β.length : Int) 8 = (m : Int) := by rw [Int.tmod_eq_emod_of_nonneg (by omega)]; omega
  have hlen := h.length
  have hm8 : m < 8 := by omega
  simp only [padN] at hlen
  rw [hm] at hlen h0 ⊢
  have hne : a ≠ [] := fun e => by
    rw [e] at hlen
    simp only [List.length_nil] at hlen
    omega
  obtain ⟨init, x, rfl⟩ : ∃ init x, a = init ++ [x] := ⟨a.dropLast, a.getLast hne, (List.dropLast_concat_getLast hne).symm⟩
  have hx := h.1 x (by simp)
  have hu := h.2
  rw [unpack_append, unpack_cons, show unpack [] = [] from rfl, List.append_nil, show padN β.length = 8 - m by simp only [padN, hm]; omega] at hu
  simp only [List.length_append, List.length_singleton] at hlen
  have hil : (unpack init).length + m = β.length := by rw [unpack_length]; omega
  have hsp : (unpack init ++ (bits8 x).take m) ++ (bits8 x).drop m = β ++ List.replicate (8 - m) false := by rw [List.append_assoc, List.take_append_drop]; exact hu
  have hin := List.append_inj hsp (by rw [List.length_append, List.length_take, bits8_length, ← hil]; omega)
  have hb := byte_push x m b hx.1 hx.2 hm8 hin.2
  have e1 : ((init ++ [x]).length : Int) - 1 = (init.length : Int) := by simp
  have e2 : rdOf 0 (init ++ [x]) (init.length : Int) = x := by simp [rdOf]
  have e4 : (init ++ [x]).length - 1 = init.length := by simp
  have es : ∀ y, (init ++ [x]).set init.length y = init ++ [y] := fun y => by
    rw [List.set_append_right _ _ (Nat.le_refl _), Nat.sub_self]; rfl
  rw [e1, e2, e4, es, ← hb.2.2.2]
  refine ⟨⟨?_, ?_⟩, ?_⟩
  · refine AllB.app (fun y hy => h.1 y (by simp [hy])) (fun y hy => ?_)
    rw [List.mem_singleton] at hy
    subst hy
    exact ⟨hb.1, hb.2.1⟩
  · rw [unpack_append, unpack_cons, show unpack [] = [] from rfl, List.append_nil, hb.2.2.1, ← List.append_assoc, hin.1, List.length_append, List.length_singleton, List.append_assoc, List.singleton_append]
    rw [show padN (β.length + 1) = 7 - m by simp only [padN]; omega]
  · rw [pushBits, hT]
    show ((if (m : Int) = 0 then init ++ [x] ++ [0] else init ++ [x]).set _ _) = _
    have hm0 : ¬ (m : Int) = 0 := by omega
    simp only [hm0, if_false]
    rw [e1, e2, Int.toNat_natCast, es]
theorem packL_packed (β : List Bool) : Packed (packL β) β := by
  induction β using snoc_induction with
  | h0 => exact Packed.nil
  | hs β b ih =>
    rw [packL_snoc]
    by_cases h0 : β.length % 8 = 0
    · rw [(ih.snoc0 b h0).2]
      exact (ih.snoc0 b h0).1
    · rw [(ih.snocm b h0).2]
      exact (ih.snocm b h0).1
end Go.Proofs.YtblbieenfghbdaaDoor.D
end

section
namespace Go.Proofs.YtblbieenfghbdaaDoor.D
open Go.RowKit Go.Proofs.YtblbieenfghbdaaDoorW.PrintWords Go.Proofs.YtblbieenfghbdaaDoorW.PrintLast
set_option linter.unusedVariables false
set_option linter.unusedSimpArgs false
/-- A number of 64 bits with a sign. -/
def I64 (n : Int) : Prop := -9223372036854775808 ≤ n ∧ n < 9223372036854775808
theorem I64.wrap (n : Int) : I64 (wrap64 n) := by unfold I64 wrap64; omega
theorem xor_u64_m1 (a : Int) (h0 : 0 ≤ a) (h1 : a < 18446744073709551616) : bits .xor .u64 a 18446744073709551615 = 18446744073709551615 - a := by
  obtain ⟨n, rfl⟩ := Int.eq_ofNat_of_zero_le h0
  show IntKind.u64.wrap ((BitVec.ofInt 64 (n : Int) ^^^ BitVec.ofInt 64 18446744073709551615).toNat : Int) = _
  rw [show BitVec.ofInt 64 18446744073709551615 = BitVec.allOnes 64 from rfl, BitVec.xor_allOnes, BitVec.toNat_not, ofInt_u64 n (by omega), IntKind.wrap_u64]
  omega
theorem xor_u64_0 (a : Int) (h0 : 0 ≤ a) (h1 : a < 18446744073709551616) : bits .xor .u64 a 0 = a := by
  obtain ⟨n, rfl⟩ := Int.eq_ofNat_of_zero_le h0
  show IntKind.u64.wrap ((BitVec.ofInt 64 (n : Int) ^^^ BitVec.ofInt 64 0).toNat : Int) = _
  rw [show BitVec.ofInt 64 0 = 0#64 from rfl, BitVec.xor_zero, ofInt_u64 n (by omega), IntKind.wrap_u64]
  omega
/-- Zigzag in plain words. -/
def zig (n : Int) : Int := if n < 0 then -2 * n - 1 else 2 * n
def unzig (z : Int) : Int := if z % 2 = 1 then -(z / 2) - 1 else z / 2
theorem codec_zig_eq (n : Int) (h : I64 n) : codec_zig n = zig n := by
  unfold I64 at h
  rw [codec_zig, zig]
  by_cases c : n < 0
  · rw [if_pos c]
    have e1 : IntKind.u64.wrap (n / 9223372036854775808) = 18446744073709551615 := by rw [IntKind.wrap_u64]; omega
    have e2 : IntKind.u64.wrap (IntKind.u64.wrap n * 2) = 2 * n + 18446744073709551616 := by rw [IntKind.wrap_u64, IntKind.wrap_u64]; omega
    rw [e1, e2, xor_u64_m1 _ (by omega) (by omega)]
    omega
  · rw [if_neg c]
    have e1 : IntKind.u64.wrap (n / 9223372036854775808) = 0 := by rw [IntKind.wrap_u64]; omega
    have e2 : IntKind.u64.wrap (IntKind.u64.wrap n * 2) = 2 * n := by rw [IntKind.wrap_u64, IntKind.wrap_u64]; omega
    rw [e1, e2, xor_u64_0 _ (by omega) (by omega)]
theorem zig_range (n : Int) (h : I64 n) : 0 ≤ zig n ∧ zig n < 18446744073709551616 := by unfold I64 at h; unfold zig; split <;> omega
theorem unzig_zig (n : Int) : unzig (zig n) = n := by unfold zig; split <;> (unfold unzig; split <;> omega)
/-- The width at a place, and what stays below it. -/
def wN (i : Nat) : Nat := (rd widths (i : Int)).toNat
def wP (i : Nat) : Nat := 2 ^ wN i
theorem w_cases (i : Nat) (h : i < 6) : (i = 0 ∧ wN i = 0) ∨ (i = 1 ∧ wN i = 4) ∨ (i = 2 ∧ wN i = 8) ∨ (i = 3 ∧ wN i = 16) ∨ (i = 4 ∧ wN i = 32) ∨ (i = 5 ∧ wN i = 64) := by
  have : i = 0 ∨ i = 1 ∨ i = 2 ∨ i = 3 ∨ i = 4 ∨ i = 5 := by omega
  rcases this with rfl | rfl | rfl | rfl | rfl | rfl <;> decide
theorem fits_eq (z : Int) (h0 : 0 ≤ z) (h1 : z < 18446744073709551616) (j : Nat) (hj : j < 6) : fits z (rd widths (j : Int)) = decide (z < (wP j : Int)) := by
  have : j = 0 ∨ j = 1 ∨ j = 2 ∨ j = 3 ∨ j = 4 ∨ j = 5 := by omega
  rcases this with rfl | rfl | rfl | rfl | rfl | rfl <;> simp [fits, widths, rd, wP, wN] <;> omega
theorem codeIdx_spec (z : Int) (h0 : 0 ≤ z) (h1 : z < 18446744073709551616) : z < (wP (codeIdx z) : Int) ∧ ∀ j, j < codeIdx z → (wP j : Int) ≤ z := by
  have hi := codeIdx_lt z
  have hl : codeIdx z < widths.length := by simp only [widths, List.length_cons, List.length_nil]; omega
  have at_ : ∀ j (hj : j < widths.length), widths[j] = rd widths (j : Int) := fun j hj => by rw [rd, Int.toNat_natCast, List.getD_eq_getElem?_getD, List.getElem?_eq_getElem hj]; rfl
  have h := (List.findIdx_eq (p := fits z) hl).1 rfl
  refine ⟨?_, fun j hj => ?_⟩
  · have h2 := h.1
    rw [at_, fits_eq z h0 h1 _ hi] at h2
    simpa using h2
  · have h2 := h.2 j hj
    rw [at_, fits_eq z h0 h1 _ (by omega)] at h2
    simpa using h2
/-- Whether a code is longer than it must be. -/
def short (i : Nat) (z : Int) : Bool := decide (0 < i) && decide (z < (wP (i - 1) : Int))
/-- A number in unary: the bits 1 ahead of a bit 0; nothing where there are more than a bound, or the bits end. -/
def rdU : List Bool → Nat → Nat → Option Nat
  | [], _, _ => none
  | false :: _, n, _ => some n
  | true :: R, n, lim => if lim ≤ n then none else rdU R (n + 1) lim
theorem rdU_code (S : List Bool) (lim : Nat) : ∀ (j n : Nat), n + j ≤ lim → rdU (List.replicate j true ++ false :: S) n lim = some (n + j)
  | 0, n, h => rfl
  | j + 1, n, h => by
    rw [List.replicate_succ, List.cons_append, rdU, if_neg (by omega), rdU_code S lim j (n + 1) (by omega)]
    congr 1
    omega
/-- A code: its number, whether it is longer than it must be, and the bits behind it. -/
def getP (R : List Bool) : Option (Int × Bool × List Bool) :=
  (rdU R 0 5).bind fun i => if (R.drop (i + 1)).length < wN i then none else
    some (unzig (valN ((R.drop (i + 1)).take (wN i)) : Int), short i (valN ((R.drop (i + 1)).take (wN i)) : Int), (R.drop (i + 1)).drop (wN i))
theorem codeBits_eq (n : Int) (h : I64 n) : codeBits n = List.replicate (codeIdx (zig n)) true ++ false :: (downs (wN (codeIdx (zig n)))).map (fun i => (zig n).toNat.testBit i) := by
  have hz := zig_range n h
  obtain ⟨z, hz2⟩ := Int.eq_ofNat_of_zero_le hz.1
  have hw := w_cases (codeIdx (zig n)) (codeIdx_lt _)
  rw [codeBits, codec_zig_eq n h, List.append_assoc, List.singleton_append]
  congr 2
  refine List.map_congr_left fun i hi => ?_
  have := downs_lt _ _ hi
  rw [hz2, Int.toNat_natCast]
  rw [hz2] at hz hw
  rw [hz2] at this
  simp only [wN] at hw
  exact bitOf_nat z i (by omega) (by omega)
theorem getP_code (n : Int) (h : I64 n) (S : List Bool) : getP (codeBits n ++ S) = some (n, false, S) := by
  have hz := zig_range n h
  have hs := codeIdx_spec (zig n) hz.1 hz.2
  have hi := codeIdx_lt (zig n)
  obtain ⟨i, hi2⟩ : ∃ i, codeIdx (zig n) = i := ⟨_, rfl⟩
  rw [codeBits_eq n h, hi2, List.append_assoc, List.cons_append, getP, rdU_code _ 5 i 0 (by omega), Option.bind_some, Nat.zero_add]
  rw [hi2] at hs
  have hd : (List.replicate i true ++ false :: ((downs (wN i)).map (fun i => (zig n).toNat.testBit i) ++ S)).drop (i + 1) = (downs (wN i)).map (fun i => (zig n).toNat.testBit i) ++ S := by
    rw [List.drop_append, List.length_replicate]
    simp
  have hl : ((downs (wN i)).map (fun i => (zig n).toNat.testBit i)).length = wN i := by rw [List.length_map, downs_length]
  rw [hd, if_neg (by rw [List.length_append, hl]; omega), List.take_left' hl, List.drop_left' hl, val_of_bits]
  have hm : (zig n).toNat % 2 ^ wN i = (zig n).toNat := Nat.mod_eq_of_lt (by have := hs.1; simp only [wP] at this; omega)
  rw [hm, Int.toNat_of_nonneg hz.1, unzig_zig]
  congr 3
  simp only [short]
  by_cases c : 0 < i
  · have := hs.2 (i - 1) (by omega)
    simp [c, show ¬ zig n < (wP (i - 1) : Int) by omega]
  · simp [c]
end Go.Proofs.YtblbieenfghbdaaDoor.D
end

section
namespace Go.Proofs.YtblbieenfghbdaaDoor.D
open Go.RowKit Go.Proofs.YtblbieenfghbdaaDoorW.PrintWords Go.Proofs.YtblbieenfghbdaaDoorW.PrintLast
set_option linter.unusedVariables false
set_option linter.unusedSimpArgs false
/-- Bits that only fill the last byte. -/
def fills (S : List Bool) : Bool := decide (S.length < 8) && S.all (! ·)
theorem fills_iff (S : List Bool) : fills S = true ↔ ∃ n, n < 8 ∧ S = List.replicate n false := by
  constructor
  · intro h
    simp only [fills, Bool.and_eq_true, decide_eq_true_eq, List.all_eq_true] at h
    refine ⟨S.length, h.1, List.eq_replicate_iff.2 ⟨rfl, fun b hb => ?_⟩⟩
    have := h.2 b hb
    simpa using this
  · rintro ⟨n, hn, rfl⟩
    simp only [fills, List.length_replicate, Bool.and_eq_true, decide_eq_true_eq, List.all_eq_true]
    refine ⟨hn, fun b hb => ?_⟩
    rw [List.eq_of_mem_replicate hb]
    rfl
end Go.Proofs.YtblbieenfghbdaaDoor.D
end

section
namespace Go.Proofs.YtblbieenfghbdaaDoor.D
open Go.RowKit Go.Proofs.YtblbieenfghbdaaDoorW.PrintWords Go.Proofs.YtblbieenfghbdaaDoorW.PrintLast Go.Proofs.YtblbieenfghbdaaDoorW.PrintMore
set_option linter.unusedVariables false
set_option linter.unusedSimpArgs false
end Go.Proofs.YtblbieenfghbdaaDoor.D
end

section
namespace Go.Proofs.YtblbieenfghbdaaDoor.D
open Go.RowKit Go.Proofs.YtblbieenfghbdaaDoorW.PrintWords Go.Proofs.YtblbieenfghbdaaDoorW.PrintLast Go.Proofs.YtblbieenfghbdaaDoorW.PrintMore
set_option linter.unusedVariables false
set_option linter.unusedSimpArgs false
theorem rd_allB {bs : List Int} (hb : AllB bs) (i : Nat) (h : i < bs.length) : 0 ≤ rd bs (i : Int) ∧ rd bs (i : Int) < 256 := by
  rw [rd, Int.toNat_natCast, List.getD_eq_getElem?_getD, List.getElem?_eq_getElem h]
  exact hb _ (List.getElem_mem h)
end Go.Proofs.YtblbieenfghbdaaDoor.D
end

section
namespace Go.Proofs.YtblbieenfghbdaaDoor.D
open Go.RowKit Go.Proofs.YtblbieenfghbdaaDoorW.PrintWords
theorem wrap_at (x : Int) (h : -9223372036854775808 ≤ x) (h2 : x < 9223372036854775808) : wrap64 x = x := by unfold wrap64; omega
end Go.Proofs.YtblbieenfghbdaaDoor.D
end

section
namespace Go.Proofs.YtblbieenfghbdaaDoor.D
open Go.RowKit Go.Proofs.YtblbieenfghbdaaDoorW.PrintWords Go.Proofs.YtblbieenfghbdaaDoorW.PrintLast Go.Proofs.YtblbieenfghbdaaDoorW.PrintMore
set_option linter.unusedVariables false
set_option linter.unusedSimpArgs false
end Go.Proofs.YtblbieenfghbdaaDoor.D
end

section
namespace Go.Proofs.YtblbieenfghbdaaDoor.D
open Go.RowKit Go.Proofs.YtblbieenfghbdaaDoorW.PrintWords Go.Proofs.YtblbieenfghbdaaDoorW.PrintLast Go.Proofs.YtblbieenfghbdaaDoorW.PrintMore
set_option linter.unusedVariables false
set_option linter.unusedSimpArgs false
theorem drop_eq_step {a b : List Int} {i : Nat} (hlt : i < a.length) (hltb : i < b.length) : (a.drop i = b.drop i) ↔ (rd a (i : Int) = rd b (i : Int) ∧ a.drop (i + 1) = b.drop (i + 1)) := by
  rw [List.drop_eq_getElem_cons hlt, List.drop_eq_getElem_cons hltb]
  have ea : rd a (i : Int) = a[i] := by rw [rd, Int.toNat_natCast, List.getD_eq_getElem?_getD, List.getElem?_eq_getElem hlt]; rfl
  have eb : rd b (i : Int) = b[i] := by rw [rd, Int.toNat_natCast, List.getD_eq_getElem?_getD, List.getElem?_eq_getElem hltb]; rfl
  rw [ea, eb, List.cons.injEq]
theorem sameBytes_ev (a b : List Int) (ha : a.length < 4611686018427387904) : Ev (fun k => intervalmonref01_SameBytes.f k a b) (decide (a = b)) := by
  by_cases hl : a.length = b.length
  · have key : ∀ (d i : Nat), i + d = a.length → Ev (fun k => intervalmonref01_SameBytes.l0 k a b (i : Int)) (decide (a.drop i = b.drop i)) := by
      intro d
      induction d with
      | zero =>
        intro i hi
        rw [List.drop_eq_nil_of_le (by omega), List.drop_eq_nil_of_le (by omega), decide_eq_true rfl]
        refine Ev.step (fun k => ?_) (Ev.now _)
        rw [intervalmonref01_SameBytes.l0, if_neg (by omega)]
      | succ d ih =>
        intro i hi
        have hlt : i < a.length := by omega
        have hltb : i < b.length := by omega
        have hw : wrap64 ((i : Int) + 1) = ((i + 1 : Nat) : Int) := by rw [wrap_at _ (by omega) (by omega)]; omega
        have hs := drop_eq_step hlt hltb
        by_cases c : rd a (i : Int) = rd b (i : Int)
        · have h := ih (i + 1) (by omega)
          have e : decide (a.drop i = b.drop i) = decide (a.drop (i + 1) = b.drop (i + 1)) := by
            rw [decide_eq_decide, hs]
            exact ⟨fun h => h.2, fun h => ⟨c, h⟩⟩
          rw [e]
          refine Ev.step (fun k => ?_) h
          rw [intervalmonref01_SameBytes.l0, if_pos (by omega), if_pos (by omega), if_pos (by omega), if_pos c, hw]
        · rw [decide_eq_false (fun h => c (hs.1 h).1)]
          refine Ev.step (fun k => ?_) (Ev.now _)
          rw [intervalmonref01_SameBytes.l0, if_pos (by omega), if_pos (by omega), if_pos (by omega), if_neg c]
    have h := key a.length 0 (by omega)
    rw [List.drop_zero, List.drop_zero] at h
    refine Ev.congr (fun k => ?_) h
    rw [intervalmonref01_SameBytes.f, if_pos (by omega)]
    rfl
  · rw [decide_eq_false (fun h => hl (by rw [h]))]
    refine Ev.congr (fun k => ?_) (Ev.now _)
    rw [intervalmonref01_SameBytes.f, if_neg (by omega)]
end Go.Proofs.YtblbieenfghbdaaDoor.D
end

section
namespace Go.Proofs.YtblbieenfghbdaaDoor.D
open Go.RowKit Go.Proofs.YtblbieenfghbdaaDoorW.PrintWords Go.Proofs.YtblbieenfghbdaaDoorW.PrintLast Go.Proofs.YtblbieenfghbdaaDoorW.PrintMore
set_option linter.unusedVariables false
set_option linter.unusedSimpArgs false
end Go.Proofs.YtblbieenfghbdaaDoor.D
end
