/- The code of a number in plain words: zigzag, the place of the width, and reading a code back from a list of bits. -/
import Derived.Test.YtblbieenfghbdaaDoorPb
namespace Go.Proofs.YtblbieenfghbdaaDoor.D
open Go.RowKit Go.Proofs.YtblbieenfghbdaaDoorW.PrintWords Go.Proofs.YtblbieenfghbdaaDoorW.PrintLast
set_option linter.unusedVariables false
set_option linter.unusedSimpArgs false
/-- A number of 64 bits with a sign. -/
def I64 (n : Int) : Prop := -9223372036854775808 ≤ n ∧ n < 9223372036854775808
theorem I64.wrap (n : Int) : I64 (wrap64 n) := by unfold I64 wrap64; omega
theorem I64.eq {n : Int} (h : I64 n) : wrap64 n = n := by unfold I64 at h; unfold wrap64; omega
theorem xor_i64_m1 (a : Int) (h0 : 0 ≤ a) (h1 : a < 9223372036854775808) : bits .xor .i64 a (-1) = -a - 1 := by
  obtain ⟨n, rfl⟩ := Int.eq_ofNat_of_zero_le h0
  show IntKind.i64.wrap ((BitVec.ofInt 64 (n : Int) ^^^ BitVec.ofInt 64 (-1)).toNat : Int) = _
  rw [show BitVec.ofInt 64 (-1) = BitVec.allOnes 64 from rfl, BitVec.xor_allOnes, BitVec.toNat_not, ofInt_u64 n (by omega), i64_w]
  unfold wrap64; omega
theorem xor_i64_0 (a : Int) (h0 : 0 ≤ a) (h1 : a < 9223372036854775808) : bits .xor .i64 a 0 = a := by
  obtain ⟨n, rfl⟩ := Int.eq_ofNat_of_zero_le h0
  show IntKind.i64.wrap ((BitVec.ofInt 64 (n : Int) ^^^ BitVec.ofInt 64 0).toNat : Int) = _
  rw [show BitVec.ofInt 64 0 = 0#64 from rfl, BitVec.xor_zero, ofInt_u64 n (by omega), i64_w]
  unfold wrap64; omega
theorem xor_u64_m1 (a : Int) (h0 : 0 ≤ a) (h1 : a < 18446744073709551616) : bits .xor .u64 a 18446744073709551615 = 18446744073709551615 - a := by
  obtain ⟨n, rfl⟩ := Int.eq_ofNat_of_zero_le h0
  show IntKind.u64.wrap ((BitVec.ofInt 64 (n : Int) ^^^ BitVec.ofInt 64 18446744073709551615).toNat : Int) = _
  rw [show BitVec.ofInt 64 18446744073709551615 = BitVec.allOnes 64 from rfl, BitVec.xor_allOnes, BitVec.toNat_not, ofInt_u64 n (by omega), IntKind.wrap_u64]
  omega
theorem xor_u64_0 (a : Int) (h0 : 0 ≤ a) (h1 : a < 18446744073709551616) : bits .xor .u64 a 0 = a := by
  obtain ⟨n, rfl⟩ := Int.eq_ofNat_of_zero_le h0
  show IntKind.u64.wrap ((BitVec.ofInt 64 (n : Int) ^^^ BitVec.ofInt 64 0).toNat : Int) = _
  rw [show BitVec.ofInt 64 0 = 0#64 from rfl, BitVec.xor_zero, ofInt_u64 n (by omega), IntKind.wrap_u64]
  omega
/-- Zigzag in plain words. -/
def zig (n : Int) : Int := if n < 0 then -2 * n - 1 else 2 * n
def unzig (z : Int) : Int := if z % 2 = 1 then -(z / 2) - 1 else z / 2
theorem codec_zig_eq (n : Int) (h : I64 n) : codec_zig n = zig n := by
  unfold I64 at h
  rw [codec_zig, zig]
  by_cases c : n < 0
  · rw [if_pos c]
    have e1 : IntKind.u64.wrap (n / 9223372036854775808) = 18446744073709551615 := by rw [IntKind.wrap_u64]; omega
    have e2 : IntKind.u64.wrap (IntKind.u64.wrap n * 2) = 2 * n + 18446744073709551616 := by rw [IntKind.wrap_u64, IntKind.wrap_u64]; omega
    rw [e1, e2, xor_u64_m1 _ (by omega) (by omega)]
    omega
  · rw [if_neg c]
    have e1 : IntKind.u64.wrap (n / 9223372036854775808) = 0 := by rw [IntKind.wrap_u64]; omega
    have e2 : IntKind.u64.wrap (IntKind.u64.wrap n * 2) = 2 * n := by rw [IntKind.wrap_u64, IntKind.wrap_u64]; omega
    rw [e1, e2, xor_u64_0 _ (by omega) (by omega)]
theorem codec_unzig_eq (z : Int) (h0 : 0 ≤ z) (h1 : z < 18446744073709551616) : codec_unzig z = unzig z := by
  rw [codec_unzig, unzig, and_one z h0 h1, wrap_in (z / 2) (by omega) (by omega), wrap_in (z % 2) (by omega) (by omega)]
  by_cases c : z % 2 = 1
  · rw [if_pos c, c, show wrap64 (-1) = -1 by unfold wrap64; decide, xor_i64_m1 _ (by omega) (by omega)]
  · rw [if_neg c, show z % 2 = 0 by omega, show wrap64 (-0) = 0 by unfold wrap64; decide, xor_i64_0 _ (by omega) (by omega)]
theorem zig_range (n : Int) (h : I64 n) : 0 ≤ zig n ∧ zig n < 18446744073709551616 := by unfold I64 at h; unfold zig; split <;> omega
theorem unzig_zig (n : Int) : unzig (zig n) = n := by unfold zig; split <;> (unfold unzig; split <;> omega)
theorem zig_unzig (z : Int) (h0 : 0 ≤ z) : zig (unzig z) = z := by unfold unzig; split <;> (unfold zig; split <;> omega)
theorem unzig_range (z : Int) (h0 : 0 ≤ z) (h1 : z < 18446744073709551616) : I64 (unzig z) := by unfold I64 unzig; split <;> omega
/-- The width at a place, and what stays below it. -/
def wN (i : Nat) : Nat := (rd widths (i : Int)).toNat
def wP (i : Nat) : Nat := 2 ^ wN i
theorem w_cases (i : Nat) (h : i < 6) : (i = 0 ∧ wN i = 0) ∨ (i = 1 ∧ wN i = 4) ∨ (i = 2 ∧ wN i = 8) ∨ (i = 3 ∧ wN i = 16) ∨ (i = 4 ∧ wN i = 32) ∨ (i = 5 ∧ wN i = 64) := by
  have : i = 0 ∨ i = 1 ∨ i = 2 ∨ i = 3 ∨ i = 4 ∨ i = 5 := by omega
  rcases this with rfl | rfl | rfl | rfl | rfl | rfl <;> decide
theorem fits_eq (z : Int) (h0 : 0 ≤ z) (h1 : z < 18446744073709551616) (j : Nat) (hj : j < 6) : fits z (rd widths (j : Int)) = decide (z < (wP j : Int)) := by
  have : j = 0 ∨ j = 1 ∨ j = 2 ∨ j = 3 ∨ j = 4 ∨ j = 5 := by omega
  rcases this with rfl | rfl | rfl | rfl | rfl | rfl <;> simp [fits, widths, rd, wP, wN] <;> omega
theorem codeIdx_eq (z : Int) (h0 : 0 ≤ z) (h1 : z < 18446744073709551616) (i : Nat) (hi : i < 6) (hz : z < (wP i : Int)) (hs : ∀ j, j < i → (wP j : Int) ≤ z) : codeIdx z = i := by
  have hl : i < widths.length := by simp only [widths, List.length_cons, List.length_nil]; omega
  have at_ : ∀ j (hj : j < widths.length), widths[j] = rd widths (j : Int) := fun j hj => by rw [rd, Int.toNat_natCast, List.getD_eq_getElem?_getD, List.getElem?_eq_getElem hj]; rfl
  refine (List.findIdx_eq hl).2 ⟨?_, fun j hji => ?_⟩
  · rw [at_, fits_eq z h0 h1 i hi]; simpa using hz
  · rw [at_, fits_eq z h0 h1 j (by omega)]; have := hs j hji; simpa using this
theorem codeIdx_spec (z : Int) (h0 : 0 ≤ z) (h1 : z < 18446744073709551616) : z < (wP (codeIdx z) : Int) ∧ ∀ j, j < codeIdx z → (wP j : Int) ≤ z := by
  have hi := codeIdx_lt z
  have hl : codeIdx z < widths.length := by simp only [widths, List.length_cons, List.length_nil]; omega
  have at_ : ∀ j (hj : j < widths.length), widths[j] = rd widths (j : Int) := fun j hj => by rw [rd, Int.toNat_natCast, List.getD_eq_getElem?_getD, List.getElem?_eq_getElem hj]; rfl
  have h := (List.findIdx_eq (p := fits z) hl).1 rfl
  refine ⟨?_, fun j hj => ?_⟩
  · have h2 := h.1
    rw [at_, fits_eq z h0 h1 _ hi] at h2
    simpa using h2
  · have h2 := h.2 j hj
    rw [at_, fits_eq z h0 h1 _ (by omega)] at h2
    simpa using h2
theorem wP_mono {i j : Nat} (hj : j < 6) (h : i ≤ j) : wP i ≤ wP j := by
  have h1 := w_cases i (by omega)
  have h2 := w_cases j hj
  refine Nat.pow_le_pow_right (by decide) ?_
  omega
theorem wP_le (i : Nat) (h : i < 6) : wP i ≤ 18446744073709551616 := wP_mono (j := 5) (by decide) (by omega)
/-- Whether a code is longer than it must be. -/
def short (i : Nat) (z : Int) : Bool := decide (0 < i) && decide (z < (wP (i - 1) : Int))
theorem codec_short_eq (i : Nat) (hi : i < 6) (z : Int) (h0 : 0 ≤ z) : codec_short (i : Int) z = short i z := by
  have : i = 0 ∨ i = 1 ∨ i = 2 ∨ i = 3 ∨ i = 4 ∨ i = 5 := by omega
  rcases this with rfl | rfl | rfl | rfl | rfl | rfl <;> simp [codec_short, short, widths, rd, wP, wN] <;> omega
/-- A number in unary: the bits 1 ahead of a bit 0; nothing where there are more than a bound, or the bits end. -/
def rdU : List Bool → Nat → Nat → Option Nat
  | [], _, _ => none
  | false :: _, n, _ => some n
  | true :: R, n, lim => if lim ≤ n then none else rdU R (n + 1) lim
theorem rdU_spec : ∀ (R : List Bool) (n lim m : Nat), rdU R n lim = some m → n ≤ lim → n ≤ m ∧ m ≤ lim ∧ R = List.replicate (m - n) true ++ false :: R.drop (m - n + 1)
  | [], n, lim, m, h, _ => by cases h
  | false :: R, n, lim, m, h, hn => by
    injection h with h
    subst h
    simp [hn]
  | true :: R, n, lim, m, h, hn => by
    rw [rdU] at h
    by_cases c : lim ≤ n
    · rw [if_pos c] at h; cases h
    · rw [if_neg c] at h
      obtain ⟨h1, h2, h3⟩ := rdU_spec R (n + 1) lim m h (by omega)
      refine ⟨by omega, h2, ?_⟩
      rw [show m - n = (m - (n + 1)) + 1 by omega, List.replicate_succ, List.drop_succ_cons, List.cons_append, ← h3]
theorem rdU_code (S : List Bool) (lim : Nat) : ∀ (j n : Nat), n + j ≤ lim → rdU (List.replicate j true ++ false :: S) n lim = some (n + j)
  | 0, n, h => rfl
  | j + 1, n, h => by
    rw [List.replicate_succ, List.cons_append, rdU, if_neg (by omega), rdU_code S lim j (n + 1) (by omega)]
    congr 1
    omega
/-- A code: its number, whether it is longer than it must be, and the bits behind it. -/
def getP (R : List Bool) : Option (Int × Bool × List Bool) :=
  (rdU R 0 5).bind fun i => if (R.drop (i + 1)).length < wN i then none else
    some (unzig (valN ((R.drop (i + 1)).take (wN i)) : Int), short i (valN ((R.drop (i + 1)).take (wN i)) : Int), (R.drop (i + 1)).drop (wN i))
theorem codeBits_eq (n : Int) (h : I64 n) : codeBits n = List.replicate (codeIdx (zig n)) true ++ false :: (downs (wN (codeIdx (zig n)))).map (fun i => (zig n).toNat.testBit i) := by
  have hz := zig_range n h
  obtain ⟨z, hz2⟩ := Int.eq_ofNat_of_zero_le hz.1
  have hw := w_cases (codeIdx (zig n)) (codeIdx_lt _)
  rw [codeBits, codec_zig_eq n h, List.append_assoc, List.singleton_append]
  congr 2
  refine List.map_congr_left fun i hi => ?_
  have := downs_lt _ _ hi
  rw [hz2, Int.toNat_natCast]
  rw [hz2] at hz hw
  rw [hz2] at this
  simp only [wN] at hw
  exact bitOf_nat z i (by omega) (by omega)
theorem codeBits_len (n : Int) (h : I64 n) : (codeBits n).length = codeIdx (zig n) + 1 + wN (codeIdx (zig n)) := by
  rw [codeBits_eq n h]
  simp only [List.length_append, List.length_replicate, List.length_cons, List.length_map, downs_length]
  omega
theorem getP_code (n : Int) (h : I64 n) (S : List Bool) : getP (codeBits n ++ S) = some (n, false, S) := by
  have hz := zig_range n h
  have hs := codeIdx_spec (zig n) hz.1 hz.2
  have hi := codeIdx_lt (zig n)
  obtain ⟨i, hi2⟩ : ∃ i, codeIdx (zig n) = i := ⟨_, rfl⟩
  rw [codeBits_eq n h, hi2, List.append_assoc, List.cons_append, getP, rdU_code _ 5 i 0 (by omega), Option.bind_some, Nat.zero_add]
  rw [hi2] at hs
  have hd : (List.replicate i true ++ false :: ((downs (wN i)).map (fun i => (zig n).toNat.testBit i) ++ S)).drop (i + 1) = (downs (wN i)).map (fun i => (zig n).toNat.testBit i) ++ S := by
    rw [List.drop_append, List.length_replicate]
    simp
  have hl : ((downs (wN i)).map (fun i => (zig n).toNat.testBit i)).length = wN i := by rw [List.length_map, downs_length]
  rw [hd, if_neg (by rw [List.length_append, hl]; omega), List.take_left' hl, List.drop_left' hl, val_of_bits]
  have hm : (zig n).toNat % 2 ^ wN i = (zig n).toNat := Nat.mod_eq_of_lt (by have := hs.1; simp only [wP] at this; omega)
  rw [hm, Int.toNat_of_nonneg hz.1, unzig_zig]
  congr 3
  simp only [short]
  by_cases c : 0 < i
  · have := hs.2 (i - 1) (by omega)
    simp [c, show ¬ zig n < (wP (i - 1) : Int) by omega]
  · simp [c]
/-- What a code that was read says. -/
theorem getP_spec (R : List Bool) (n : Int) (b : Bool) (S : List Bool) (h : getP R = some (n, b, S)) :
    I64 n ∧ ∃ i, i < 6 ∧ R.length = i + 1 + wN i + S.length ∧ S = R.drop (i + 1 + wN i) ∧ (b = false → R = codeBits n ++ S) ∧ (b = true → (codeBits n).length ≠ i + 1 + wN i) := by
  rw [getP] at h
  obtain ⟨i, hi, h⟩ := Option.bind_eq_some_iff.1 h
  obtain ⟨-, h5, hR⟩ := rdU_spec R 0 5 i hi (by decide)
  rw [Nat.sub_zero] at hR
  by_cases c : (R.drop (i + 1)).length < wN i
  · rw [if_pos c] at h; cases h
  · rw [if_neg c] at h
    simp only [Option.some.injEq, Prod.mk.injEq] at h
    obtain ⟨h1, h2, h3⟩ := h
    obtain ⟨T, hT⟩ : ∃ T, (R.drop (i + 1)).take (wN i) = T := ⟨_, rfl⟩
    have hTl : T.length = wN i := by rw [← hT, List.length_take]; omega
    have hlt := valN_lt T
    rw [hTl] at hlt
    rw [hT] at h1 h2
    have hle := wP_le i (by omega)
    have hv1 : (valN T : Int) < 18446744073709551616 := by simp only [wP] at hle; omega
    have hI : I64 n := by rw [← h1]; exact unzig_range _ (by omega) hv1
    have hzn : zig n = (valN T : Int) := by rw [← h1, zig_unzig _ (by omega)]
    have hRl : R.length = i + 1 + wN i + S.length := by
      have e := congrArg List.length h3
      rw [List.length_drop] at e
      have e2 := congrArg List.length hR
      simp only [List.length_append, List.length_replicate, List.length_cons] at e2
      omega
    have hsp := codeIdx_spec (zig n) (by omega) (by omega)
    refine ⟨hI, i, by omega, hRl, by rw [← h3, List.drop_drop], fun hb => ?_, fun hb => ?_⟩
    · rw [hb] at h2
      have hidx : codeIdx (zig n) = i := by
        refine codeIdx_eq _ (by omega) (by omega) i (by omega) (by simp only [wP]; omega) (fun j hj => ?_)
        rw [hzn]
        have hj2 := wP_mono (i := j) (j := i - 1) (by omega) (by omega)
        simp only [short] at h2
        have h0 : 0 < i := by omega
        simp only [h0, decide_true, Bool.true_and, decide_eq_false_iff_not] at h2
        omega
      rw [codeBits_eq n hI, hidx, hzn, Int.toNat_natCast, ← hTl, bits_of_val, List.append_assoc, List.cons_append, ← hT, ← h3, List.take_append_drop]
      exact hR
    · rw [hb] at h2
      simp only [short, Bool.and_eq_true, decide_eq_true_eq] at h2
      rw [codeBits_len n hI]
      have hidx : codeIdx (zig n) < i := by
        rcases (by omega : codeIdx (zig n) < i ∨ i ≤ codeIdx (zig n)) with h | h
        · exact h
        · have := hsp.2 (i - 1) (by omega)
          omega
      have h1 := w_cases i (by omega)
      have h2 := w_cases (codeIdx (zig n)) (by omega)
      omega
end Go.Proofs.YtblbieenfghbdaaDoor.D
