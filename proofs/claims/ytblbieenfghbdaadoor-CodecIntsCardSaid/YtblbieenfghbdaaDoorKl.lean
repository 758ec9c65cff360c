/- The call of law 15's lives gives true: its examples hold. -/
import Derived.Test.YtblbieenfghbdaaDoorKi
import Derived.Test.YtblbieenfghbdaaDoorKr
import Derived.Test.YtblbieenfghbdaaDoorKm
namespace Go.Proofs.YtblbieenfghbdaaDoor.D
open Go.RowKit Go.Proofs.YtblbieenfghbdaaDoorW.PrintWords Go.Proofs.YtblbieenfghbdaaDoorW.PrintLast Go.Proofs.YtblbieenfghbdaaDoorW.PrintMore
set_option linter.unusedVariables false
set_option linter.unusedSimpArgs false
theorem lit_reads {α : Type} {enc : α → Value} (d : α) {W : World} {q : Nat} {t : TypeId} (l : List α) (h : W.heap[q]? = some (.cells (l.map enc).toArray t (0, 0))) (hl : l.length ≤ 9223372036854775807) :
    ReadsOf enc d W (some ⟨q, 0, none⟩) l.length l := by
  refine ⟨rfl, hl, fun _ => ⟨⟨q, 0, none⟩, rfl, fun j hj => ?_⟩⟩
  have e : (⟨q, 0, none⟩ : Addr).add j = ⟨q, j, none⟩ := by unfold Addr.add; split <;> simp_all
  rw [e, blk_cell h j]
  simp [List.getElem?_eq_getElem hj, List.getD_eq_getElem?_getD]
theorem lit_i64 (w : World) (l : List Int) (t : TypeId) (hl : l.length ≤ 9223372036854775807) : Kd.C (Kd.int .i64) (w.alloc (.cells (l.map (Value.int .i64)).toArray t)) (some ⟨w.heap.size, 0, none⟩) l.length l :=
  Kd.C_of_reads (enc := Value.int .i64) (d := 0) (h1 := fun _ => rfl) (lit_reads 0 l (by simpa using heap_alloc_new w (.cells (l.map (Value.int .i64)).toArray t)) hl)
theorem lit_u8 (w : World) (l : List Int) (t : TypeId) (hl : l.length ≤ 9223372036854775807) : Kd.C (Kd.int .u8) (w.alloc (.cells (l.map (Value.int .u8)).toArray t)) (some ⟨w.heap.size, 0, none⟩) l.length l :=
  Kd.C_of_reads (enc := Value.int .u8) (d := 0) (h1 := fun _ => rfl) (lit_reads 0 l (by simpa using heap_alloc_new w (.cells (l.map (Value.int .u8)).toArray t)) hl)
theorem lit_str (w : World) (l : List ByteArray) (t : TypeId) (hl : l.length ≤ 9223372036854775807) : Kd.C Kd.string (w.alloc (.cells (l.map Value.string).toArray t)) (some ⟨w.heap.size, 0, none⟩) l.length l :=
  Kd.C_of_reads (enc := Value.string) (d := ByteArray.empty) (h1 := fun _ => rfl) (lit_reads ByteArray.empty l (by simpa using heap_alloc_new w (.cells (l.map Value.string).toArray t)) hl)
set_option maxRecDepth 100000 in
theorem lives_dict : codec_Dict.f [⟨#[98]⟩, ⟨#[97]⟩, ⟨#[98]⟩] = some ([⟨#[98]⟩, ⟨#[97]⟩], [0, 1, 0]) := by
  rw [codec_Dict.f, if_pos ⟨by decide, by intro s hs; simp at hs; rcases hs with rfl | rfl | rfl <;> decide⟩]
  rfl
theorem lives_read : codec_ReadInts.f 80 [154, 169, 64] = some ([5, 7, 9], 0) := by kernel_rfl
theorem lives_ints0 : codec_Ints.f 80 [] = some [0] := by kernel_rfl
theorem lives_ints : codec_Ints.f 80 [5, 7, 9] = some [154, 169, 64] := by kernel_rfl
theorem lives_b0 : intervalmonref01_SameBytes.f 80 [0] [0] = some true := by kernel_rfl
theorem lives_b : intervalmonref01_SameBytes.f 80 [154, 169, 64] [154, 169, 64] = some true := by kernel_rfl
theorem lives_i : intervalmonref01_SameInts.f 80 [5, 7, 9] [5, 7, 9] = some true := by kernel_rfl
theorem lives_i0 : intervalmonref01_SameInts.f 80 [0, 1, 0] [0, 1, 0] = some true := by kernel_rfl
theorem lives_t : intervalmonref01_SameTexts.f 80 [⟨#[98]⟩, ⟨#[97]⟩] [⟨#[98]⟩, ⟨#[97]⟩] = some true := by kernel_rfl
set_option maxHeartbeats 2000000 in
set_option maxRecDepth 100000 in
theorem intervalmonlaw15_lives.calls (w : World) (hG : Glob w) : Calls Tryd.prog 25 #[] w fun e w' => e = .returned (.bool true) ∧ Below w.heap.size w w' := by
  go_enter Tryd.func25, Tryd.ntmps25
  go_upto_region 2 with (first | (go_at_call 26; refine (codec_Dict.calls _ 3 [⟨#[98]⟩, ⟨#[97]⟩, ⟨#[98]⟩] _ _ _ (lit_str w [⟨#[98]⟩, ⟨#[97]⟩, ⟨#[98]⟩] 9 (by decide)) (Nat.le_refl _) lives_dict).mono ?_; rintro e w1 ⟨v1, v2, rfl, hR1, hR2, hB1⟩; obtain ⟨A1, c1, rfl⟩ := Kd.R_slice hR1; obtain ⟨A2, c2, rfl⟩ := Kd.R_slice hR2))
  have hb1 : Below w.heap.size w w1 := below_then (below_alloc (Below.refl _ w) _) (by simp) hB1
  have k1 := Aside0.mk (Kd.R_reads' hR1)
  have k2 := Aside0.mk (Kd.R_reads' hR2)
  have hG1 := Aside0.mk (hG.below hb1)
  clear hR1 hR2 hB1
  go_upto_region 3 with (first | (go_at_call 22; refine (codec_ReadInts.calls 80 _ 3 [154, 169, 64] _ _ _ (lit_u8 w1 [154, 169, 64] 5 (by decide)) (Nat.le_refl _) (hG1.out.below (below_alloc (Below.refl _ w1) _)) lives_read).mono ?_; rintro e w2 ⟨v3, rfl, hR3, hB2⟩; obtain ⟨A3, c3, rfl⟩ := Kd.R_slice hR3))
  have hb2' : Below w1.heap.size w1 w2 := below_then (below_alloc (Below.refl _ w1) _) (by simp) hB2
  have hb2 : Below w.heap.size w w2 := below_then hb1 hb1.size hb2'
  have hG2 := hG.below hb2
  have m3 := Kd.R_reads' hR3
  have m1 := Kd.C_below k1.out.2.2 hb2'
  have m2 := Kd.C_below k2.out.2.2 hb2'
  replace hG2 := Aside0.mk hG2
  have k1' := Aside0.mk k1.out.2.1
  have k2' := Aside0.mk k2.out.2.1
  have k3' := Aside0.mk m3.2.1
  have m3' := Aside0.mk m3.2.2
  have m1' := Aside0.mk m1
  have m2' := Aside0.mk m2
  clear hb1 k1 k2 hG1 hR3 hB2 hb2' m1 m2 m3
  have hr := Aside0.mk (Below.refl w2.heap.size w2)
  go_wp2_with (fail)
  refine (codec_Ints.calls 80 none 0 [] _ w2 (Kd.C_nil _ _) (Nat.le_refl _) hG2.out lives_ints0).mono ?_
  rintro e w3 ⟨v4, rfl, hR4, hB3⟩
  obtain ⟨A4, c4, rfl⟩ := Kd.R_slice hR4
  have k4 := Aside0.mk (Kd.R_reads' hR4)
  clear hR4
  replace hr := Aside0.mk hB3
  clear hB3
  go_wp2_with (fail)
  refine (intervalmonref01_SameBytes.calls 80 A4 c4 [0] _ 1 [0] true _ (Kd.C_below k4.out.2.2 (below_alloc (Below.refl _ w3) _)) k4.out.2.1 (lit_u8 w3 [0] 5 (by decide)) (Nat.le_refl _) lives_b0).mono ?_
  rintro e w4 ⟨rfl, hd⟩
  replace hr := Aside0.mk (below_then (below_alloc hr.out (.cells #[.int .u8 0] 5)) (below_alloc hr.out (.cells #[.int .u8 0] 5)).size hd.below)
  clear hd k4
  go_wp2_with (fail)
  refine (intervalmonref01_SameInts.calls 80 A3 c3 [5, 7, 9] _ 3 [5, 7, 9] true _ (Kd.C_below m3'.out (below_alloc hr.out _)) k3'.out (lit_i64 w4 [5, 7, 9] 3 (by decide)) (Nat.le_refl _) lives_i).mono ?_
  rintro e w5 ⟨rfl, hd⟩
  replace hr := Aside0.mk (below_then (below_alloc hr.out (.cells #[.int .i64 5, .int .i64 7, .int .i64 9] 3)) (below_alloc hr.out (.cells #[.int .i64 5, .int .i64 7, .int .i64 9] 3)).size hd.below)
  clear hd
  go_wp2_with (fail)
  refine (codec_Ints.calls 80 A3 c3 [5, 7, 9] _ w5 (Kd.C_below m3'.out hr.out) k3'.out (hG2.out.below hr.out) lives_ints).mono ?_
  rintro e w6 ⟨v6, rfl, hR6, hB6⟩
  obtain ⟨A6, c6, rfl⟩ := Kd.R_slice hR6
  have k6 := Aside0.mk (Kd.R_reads' hR6)
  clear hR6
  replace hr := Aside0.mk (below_then hr.out hr.out.size hB6)
  clear hB6
  go_wp2_with (fail)
  refine (intervalmonref01_SameBytes.calls 80 A6 c6 [154, 169, 64] _ 3 [154, 169, 64] true _ (Kd.C_below k6.out.2.2 (below_alloc (Below.refl _ w6) _)) k6.out.2.1 (lit_u8 w6 [154, 169, 64] 5 (by decide)) (Nat.le_refl _) lives_b).mono ?_
  rintro e w7 ⟨rfl, hd⟩
  replace hr := Aside0.mk (below_then (below_alloc hr.out (.cells #[.int .u8 154, .int .u8 169, .int .u8 64] 5)) (below_alloc hr.out (.cells #[.int .u8 154, .int .u8 169, .int .u8 64] 5)).size hd.below)
  clear hd k6
  go_wp2_with (fail)
  refine (intervalmonref01_SameTexts.calls 80 A1 c1 [⟨#[98]⟩, ⟨#[97]⟩] _ 2 [⟨#[98]⟩, ⟨#[97]⟩] true _ (Kd.C_below m1'.out (below_alloc hr.out _)) k1'.out (lit_str w7 [⟨#[98]⟩, ⟨#[97]⟩] 9 (by decide)) (Nat.le_refl _) lives_t).mono ?_
  rintro e w8 ⟨rfl, hd⟩
  replace hr := Aside0.mk (below_then (below_alloc hr.out (.cells #[.string ⟨#[98]⟩, .string ⟨#[97]⟩] 9)) (below_alloc hr.out (.cells #[.string ⟨#[98]⟩, .string ⟨#[97]⟩] 9)).size hd.below)
  clear hd
  go_wp2_with (fail)
  refine (intervalmonref01_SameInts.calls 80 A2 c2 [0, 1, 0] _ 3 [0, 1, 0] true _ (Kd.C_below m2'.out (below_alloc hr.out _)) k2'.out (lit_i64 w8 [0, 1, 0] 3 (by decide)) (Nat.le_refl _) lives_i0).mono ?_
  rintro e w9 ⟨rfl, hd⟩
  replace hr := Aside0.mk (below_then (below_alloc hr.out (.cells #[.int .i64 0, .int .i64 1, .int .i64 0] 3)) (below_alloc hr.out (.cells #[.int .i64 0, .int .i64 1, .int .i64 0] 3)).size hd.below)
  clear hd
  go_wp2
  go_ret
  exact ⟨rfl, below_then hb2 hb2.size hr.out⟩
end Go.Proofs.YtblbieenfghbdaaDoor.D
