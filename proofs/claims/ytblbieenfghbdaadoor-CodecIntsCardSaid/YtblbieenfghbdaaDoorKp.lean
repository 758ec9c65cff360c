/- The call of codec.put, and the bits that it appends. -/
import Derived.Test.YtblbieenfghbdaaDoorKv
namespace Go.Proofs.YtblbieenfghbdaaDoor.D
open Go.RowKit Go.Proofs.YtblbieenfghbdaaDoorW.PrintWords Go.Proofs.YtblbieenfghbdaaDoorW.PrintLast Go.Proofs.YtblbieenfghbdaaDoorW.PrintMore
set_option linter.unusedVariables false
set_option linter.unusedSimpArgs false
/-- Whether a number fits a width. -/
def fits (z k : Int) : Bool := decide (k = 64) || decide (z / 2 ^ min k.toNat 64 = 0)
set_option maxHeartbeats 4000000 in
set_option maxRecDepth 100000 in
theorem codec_put_1.calls (z k : Int) (B : Nat) (w : World) (hk : 0 ≤ k) (hb : w.cell? ⟨B, 0, none⟩ = some (.int .u64 z)) :
    Calls Tryd.prog 99 #[.int .i64 k, .pointer (some ⟨B, 0, none⟩)] w fun e w' => e = .returned (.bool (fits z k)) ∧ w' = w := by
  go_enter Tryd.func99, Tryd.ntmps99
  by_cases c : k = 64
  · have cb : (k == 64) = true := beq_iff_eq.mpr c
    have e : fits z k = true := by simp [fits, c]
    rw [e]
    clear e
    clear c
    go_wp2
    go_ret
    exact ⟨rfl, rfl⟩
  · have cb : (k == 64) = false := beq_eq_false_iff_ne.mpr c
    have e : fits z k = (z / 2 ^ min k.toNat 64 == 0) := by simp only [fits, c, decide_false, Bool.false_or]; rfl
    rw [e]
    clear e
    clear c
    go_wp2
    go_ret
    exact ⟨rfl, rfl⟩
/-- The place of the first width that a number fits. -/
def codeIdx (z : Int) : Nat := widths.findIdx (fits z)
set_option maxHeartbeats 4000000 in
set_option maxRecDepth 100000 in
theorem slices_IndexFunc.calls (z : Int) (B : Nat) (w : World) (hG : Glob w) (hb : w.cell? ⟨B, 0, none⟩ = some (.int .u64 z)) :
    Calls Tryd.prog 98 #[.slice (some ⟨0, 0, none⟩) 6 6, .func (.func 99) #[] #[.pointer (some ⟨B, 0, none⟩)]] w fun e w' => e = .returned (.int .i64 (codeIdx z : Int)) ∧ Below w.heap.size w w' := by
  go_enter Tryd.func98, Tryd.ntmps98
  go_wp2
  go_loopg [5, 8] 6 (fun kq v5 v8 w' => ∃ (i : Nat), v8 = .int .i64 (i : Int) ∧ w' = w ∧ i + kq = 6 ∧ ∀ j : Nat, j < i → fits z (rd widths (j : Int)) = false)
  case atStart => exact ⟨0, rfl, rfl, rfl, fun j hj => by omega⟩
  case round =>
    obtain ⟨i, rfl, rfl, hi, hj⟩ := hrel
    have h6 : i < 6 := by
      rcases (by omega : i < 6 ∨ i = 6) with h | h
      · exact h
      · have := hj 5 (by omega)
        simp [fits, rd, widths] at this
    have hcell := hG.at_ (i : Int) (by omega) (by omega)
    have hw0 : 0 ≤ rd widths (i : Int) := widths_pos _ (by omega) (by omega)
    have c1 : decide ((i : Int) < 6) = true := decide_eq_true (by omega)
    have p1 : (i : Int) < 6 := by omega
    rw [Int.toNat_natCast] at hcell
    obtain ⟨x, hx⟩ : ∃ x, rd widths (i : Int) = x := ⟨_, rfl⟩
    rw [hx] at hcell hw0
    cases hf : fits z x with
    | true =>
      have hidx : codeIdx z = i := by
        have hl : i < widths.length := by simp only [widths, List.length_cons, List.length_nil]; omega
        refine (List.findIdx_eq hl).2 ⟨?_, fun j hji => ?_⟩
        · have e : widths[i] = x := by rw [← hx, rd, Int.toNat_natCast, List.getD_eq_getElem?_getD, List.getElem?_eq_getElem hl]; rfl
          rw [e]; exact hf
        · have h := hj j hji
          rw [rd, Int.toNat_natCast, List.getD_eq_getElem?_getD, List.getElem?_eq_getElem (Nat.lt_trans hji hl)] at h
          exact h
      replace hx := Aside0.mk hx
      replace hidx := Aside0.mk hidx
      go_wp2_with (first | (go_at_call 99; refine (codec_put_1.calls z x B wr hw0 hb).mono ?_; rintro e w1 ⟨rfl, rfl⟩))
      go_ret
      exact ⟨by rw [hidx.out]; rfl, Below.refl _ _⟩
    | false =>
      cases gk with
      | zero => omega
      | succ m =>
        have hi1 : wrap64 ((i : Int) + 1) = (i : Int) + 1 := wrap_in _ (by omega) (by omega)
        replace hx := Aside0.mk hx
        go_wp2_with (first | (go_at_call 99; refine (codec_put_1.calls z x B wr hw0 hb).mono ?_; rintro e w1 ⟨rfl, rfl⟩))
        go_roundg m
        case measure => omega
        case rel =>
          refine ⟨i + 1, by simp [hi1], rfl, by omega, fun j hji => ?_⟩
          rcases (by omega : j < i ∨ j = i) with h | h
          · exact hj j h
          · rw [h, hx.out]; exact hf

/-- The number that a code's bits tell. -/
def codec_zig (n : Int) : Int := bits .xor .u64 (IntKind.u64.wrap (IntKind.u64.wrap n * 2)) (IntKind.u64.wrap (n / 9223372036854775808))
theorem codec_zig_range (n : Int) : 0 ≤ codec_zig n ∧ codec_zig n < 18446744073709551616 := by
  have hw : ∀ x : Int, 0 ≤ IntKind.u64.wrap x ∧ IntKind.u64.wrap x < 18446744073709551616 := fun x => by
    simp only [IntKind.wrap, IntKind.bits, IntKind.signed]
    simp
    omega
  rw [codec_zig, u64_xor _ _ (hw _).1 (hw _).2 (hw _).1 (hw _).2]
  refine ⟨by omega, ?_⟩
  have h := Nat.xor_lt_two_pow (n := 64) (x := (IntKind.u64.wrap (IntKind.u64.wrap n * 2)).toNat) (y := (IntKind.u64.wrap (n / 9223372036854775808)).toNat) (by have := hw (IntKind.u64.wrap n * 2); omega) (by have := hw (n / 9223372036854775808); omega)
  omega
theorem codeIdx_lt (z : Int) : codeIdx z < 6 := by
  have h : widths.findIdx (fits z) < widths.length := List.findIdx_lt_length_of_exists ⟨64, by simp [widths], by simp [fits]⟩
  exact Nat.lt_of_lt_of_eq h rfl
/-- The bits of a number's code. -/
def codeBits (n : Int) : List Bool := List.replicate (codeIdx (codec_zig n)) true ++ [false] ++ (downs (rd widths (codeIdx (codec_zig n) : Int)).toNat).map (bitOf (codec_zig n))
theorem widths_le (i : Int) (h0 : 0 ≤ i) (h1 : i < 6) : rd widths i ≤ 64 := by
  have : i = 0 ∨ i = 1 ∨ i = 2 ∨ i = 3 ∨ i = 4 ∨ i = 5 := by omega
  rcases this with rfl | rfl | rfl | rfl | rfl | rfl <;> decide
/-! ### codec_put: function 63 -/
set_option maxHeartbeats 8000000 in
set_option maxRecDepth 100000 in
theorem codec_put.calls (g : Nat) (β : List Bool) (n : Int) (w0 w : World) (hI : WrB w0 w g β) (hG : Glob w0) (hl : β.length < 549755813000) :
    Calls Tryd.prog 63 #[.pointer (some ⟨g, 0, none⟩), .int .i64 n] w fun e w' => e = .returned (.tuple #[]) ∧ WrB w0 w' g (β ++ codeBits n) ∧ KeepT w w' g := by
  have hI' := Aside0.mk hI
  clear hI
  go_enter Tryd.func63, Tryd.ntmps63
  go_upto_region 1 with (fail)
  obtain ⟨z, hz⟩ : ∃ z, codec_zig n = z := ⟨_, rfl⟩
  have hzr := codec_zig_range n
  rw [show bits .xor .u64 (IntKind.u64.wrap (IntKind.u64.wrap n * 2)) (IntKind.u64.wrap (n / 9223372036854775808)) = z from hz]
  rw [hz] at hzr
  have hB1 : Below w.heap.size w (w.alloc (.cells #[.int .u64 z] 87)) := below_alloc (Below.refl _ _) _
  have hP1 : (w.alloc (.cells #[.int .u64 z] 87)).heap[w.heap.size]? = some (.cells #[.int .u64 z] 87 (0, 0)) := by simpa using heap_alloc_new w (.cells #[.int .u64 z] 87)
  have hgw : g < w.heap.size := by obtain ⟨v, m, hb⟩ := hI'.out.block; exact blk_lt hb
  have hne : g ≠ w.heap.size := by omega
  obtain ⟨B, hB⟩ : ∃ B, w.heap.size = B := ⟨_, rfl⟩
  rw [hB] at hP1 hne ⊢
  have hI1 := Aside0.mk (hI'.out.below hB1)
  have hk1 := Aside0.mk (KeepT.below hB1 g)
  replace hB := Aside0.mk hB
  generalize w.alloc (.cells #[.int .u64 z] 87) = w1 at hB1 hP1 hI1 hk1 ⊢
  clear hI' hB1
  have cP : w1.cell? ⟨B, 0, none⟩ = some (.int .u64 z) := (blk_cell hP1 0).trans rfl
  have hG1 := Aside0.mk (hG.below hI1.out.bel)
  have hix := codeIdx_lt z
  obtain ⟨i, hi⟩ : ∃ i, codeIdx z = i := ⟨_, rfl⟩
  rw [hi] at hix
  go_upto_region 3 with (first | (go_at_call 98; refine (slices_IndexFunc.calls z B w1 hG1.out cP).mono ?_; rintro e w2 ⟨rfl, hB2⟩; rw [hi]; have hI2 := Aside0.mk (hI1.out.below hB2); have hk2 := Aside0.mk (hk1.out.trans (KeepT.below hB2 g)); have hP2 := Aside0.mk ((hB2.block B (blk_lt hP1)).trans hP1)) | (go_at_call 100; refine (bits_Writer_Unary.calls g β (i : Int) w0 w2 hI2.out (by omega) (by omega) (by omega)).mono ?_; rintro e w3 ⟨rfl, hI3, hk3⟩))
  obtain ⟨v_, m_, hb2⟩ := hI2.out.block
  have hP3 := hk3.blk hP2.out hb2 (by decide) (by decide)
  have cP3 : w3.cell? ⟨B, 0, none⟩ = some (.int .u64 z) := (blk_cell hP3 0).trans rfl
  have hG3 : w3.cell? ⟨0, (i : Int).toNat, none⟩ = some (.int .i64 (rd widths (i : Int))) := (hG.below hI3.bel).at_ (i : Int) (by omega) (by omega)
  rw [Int.toNat_natCast] at hG3
  have hr0 := widths_pos (i : Int) (by omega) (by omega)
  have hr1 := widths_le (i : Int) (by omega) (by omega)
  replace hi := Aside0.mk hi
  replace hz := Aside0.mk hz
  obtain ⟨x, hx⟩ : ∃ x, rd widths (i : Int) = x := ⟨_, rfl⟩
  rw [hx] at hG3 hr0 hr1
  replace hx := Aside0.mk hx
  have hk4 := Aside0.mk (hk2.out.trans hk3)
  have hI4 := Aside0.mk hI3.drew
  clear hI3 hk3 hk2 hI2 hP2 hP3 hG1 hk1 hI1 hP1 cP hb2
  have pi : (i : Int) < 6 := by omega
  go_still_tail 5, (by kernel_rfl)
  change wpList _ _ _ _ _ w3.drew
  replace hk4 : Aside0 (KeepT w w3.drew g) := hk4
  clear cP3 hG3
  generalize w3.drew = w4 at hI4 hk4 ⊢
  have hl2 : (β ++ List.replicate i true ++ [false]).length < 549755813888 := by
    simp only [List.length_append, List.length_replicate, List.length_singleton]; omega
  go_wp2_with (first | (go_at_call 101; refine (bits_Writer_Bits.calls g (β ++ List.replicate i true ++ [false]) z x w0 w4 (by simpa using hI4.out) hzr.1 hzr.2 hr0 hr1 hl2).mono ?_; rintro e w5 ⟨rfl, hI5, hk5⟩))
  go_end0
  refine ⟨rfl, ?_, hk4.out.trans hk5⟩
  rw [codeBits, hz.out, hi.out, hx.out]
  simpa using hI5
end Go.Proofs.YtblbieenfghbdaaDoor.D
