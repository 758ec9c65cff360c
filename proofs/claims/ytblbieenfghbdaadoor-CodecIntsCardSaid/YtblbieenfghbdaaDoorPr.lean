/- The plain laws of the two readers of bits (package bits, and ref14): what is read is what getP tells of the bits that are left. -/
import Derived.Test.YtblbieenfghbdaaDoorPf
namespace Go.Proofs.YtblbieenfghbdaaDoor.D
open Go.RowKit Go.Proofs.YtblbieenfghbdaaDoorW.PrintWords Go.Proofs.YtblbieenfghbdaaDoorW.PrintLast Go.Proofs.YtblbieenfghbdaaDoorW.PrintMore
set_option linter.unusedVariables false
set_option linter.unusedSimpArgs false
theorem drop_at {l : List Bool} {p : Nat} (h : p < l.length) : l.drop p = l[p] :: l.drop (p + 1) := List.drop_eq_getElem_cons h
theorem rdU_nil (n lim : Nat) : rdU [] n lim = none := rfl
theorem rdU_false (R : List Bool) (n lim : Nat) : rdU (false :: R) n lim = some n := rfl
theorem rdU_true (R : List Bool) (n lim : Nat) : rdU (true :: R) n lim = if lim ≤ n then none else rdU R (n + 1) lim := rfl
/-- The reference's reader: unary. -/
theorem ref_rd_unary (L : List Bool) (hL : L.length < 1000000000) (p : Nat) (hp : p ≤ L.length) :
    (∃ m, rdU (L.drop p) 0 5 = some m ∧ Ev (fun k => intervalmonref14_Reader_Unary.f k L (p : Int) 0 5) ((m : Int), ((p + m + 1 : Nat) : Int), 0)) ∨
    (rdU (L.drop p) 0 5 = none ∧ ∃ e, e ≠ 0 ∧ Ev (fun k => intervalmonref14_Reader_Unary.f k L (p : Int) 0 5) (0, (p : Int), e)) := by
  have key : ∀ (d n : Nat), n + d = 6 →
      (∃ m, rdU (L.drop (p + n)) n 5 = some m ∧ Ev (fun k => intervalmonref14_Reader_Unary.l0 k 5 (n : Int) L (p : Int) 0) ((m : Int), ((p + m + 1 : Nat) : Int), 0)) ∨
      (rdU (L.drop (p + n)) n 5 = none ∧ ∃ e, e ≠ 0 ∧ Ev (fun k => intervalmonref14_Reader_Unary.l0 k 5 (n : Int) L (p : Int) 0) (0, (p : Int), e)) ∨ n = 6 := by
    intro d
    induction d with
    | zero => intro n hn; exact .inr (.inr (by omega))
    | succ d ih =>
      intro n hn
      have hw : wrap64 ((p : Int) + (n : Int)) = ((p + n : Nat) : Int) := by rw [wrap_in _ (by omega) (by omega)]; omega
      by_cases hlt : p + n < L.length
      · have hrd : rdOf false L ((p + n : Nat) : Int) = L[p + n] := by rw [rdOf, Int.toNat_natCast, List.getD_eq_getElem?_getD, List.getElem?_eq_getElem hlt]; rfl
        rw [drop_at hlt]
        cases hb : L[p + n] with
        | false =>
          rw [rdU_false]
          refine .inl ⟨n, rfl, Ev.step (fun k => ?_) (Ev.now _)⟩
          rw [intervalmonref14_Reader_Unary.l0, if_pos rfl, hw, if_neg (by omega), if_pos (by omega), if_pos (by omega), hrd, hb, if_neg (by decide), wrap_in _ (by omega) (by omega)]
          rfl
        | true =>
          rw [rdU_true]
          by_cases h5 : 5 ≤ n
          · rw [if_pos h5]
            refine .inr (.inl ⟨rfl, 4, by decide, Ev.step (f := fun k => intervalmonref14_Reader_Unary.l0 k 5 (wrap64 ((n : Int) + 1)) L (p : Int) 4) (fun k => ?_) (Ev.step (fun k => ?_) (Ev.now _))⟩)
            · rw [intervalmonref14_Reader_Unary.l0, if_pos rfl, hw, if_neg (by omega), if_pos (by omega), if_pos (by omega), hrd, hb, if_pos rfl, if_pos (by simp only [mx]; split <;> omega)]
            · rw [intervalmonref14_Reader_Unary.l0, if_neg (by decide)]
          · rw [if_neg h5]
            have hst : ∀ k, intervalmonref14_Reader_Unary.l0 (k + 1) 5 (n : Int) L (p : Int) 0 = intervalmonref14_Reader_Unary.l0 k 5 ((n + 1 : Nat) : Int) L (p : Int) 0 := fun k => by
              rw [intervalmonref14_Reader_Unary.l0, if_pos rfl, hw, if_neg (by omega), if_pos (by omega), if_pos (by omega), hrd, hb, if_pos rfl, if_neg (by simp only [mx]; split <;> omega), wrap_in _ (by omega) (by omega)]
              rfl
            rcases ih (n + 1) (by omega) with ⟨m, h1, h2⟩ | ⟨h1, e, he, h2⟩ | h
            · exact .inl ⟨m, h1, Ev.step hst h2⟩
            · exact .inr (.inl ⟨h1, e, he, Ev.step hst h2⟩)
            · omega
      · rw [List.drop_eq_nil_of_le (by omega)]
        refine .inr (.inl ⟨rfl, 3, by decide, Ev.step (fun k => ?_) (Ev.now _)⟩)
        rw [intervalmonref14_Reader_Unary.l0, if_pos rfl, hw, if_pos (by omega)]
  rcases key 6 0 rfl with h | h | h
  · exact .inl h
  · exact .inr h
  · omega
theorem ref_rd_unary_err (L : List Bool) (p e : Int) (he : e ≠ 0) : Ev (fun k => intervalmonref14_Reader_Unary.f k L p e 5) (0, p, e) := by
  refine Ev.step (fun k => ?_) (Ev.now _)
  rw [intervalmonref14_Reader_Unary.f, intervalmonref14_Reader_Unary.l0, if_neg he]
theorem count_eq (w : Nat) (h : w ≤ 64) : intervalmonref14_Count.f (w : Int) = some (w : Int) := by
  rw [intervalmonref14_Count.f]
  congr 1
  simp only [mx, mn]
  (repeat' split) <;> omega
theorem clamp_eq (w : Nat) (h : w ≤ 64) : bits_clamp.f (w : Int) 64 = some (w : Int) := by
  rw [bits_clamp.f]
  congr 1
  simp only [mx, mn]
  (repeat' split) <;> omega
theorem val_snoc (β : List Bool) (b : Bool) : valN (β ++ [b]) = 2 * valN β + b.toNat := by simp [valN]
theorem val_lt64 (β : List Bool) (h : β.length ≤ 63) : valN β < 9223372036854775808 := by
  have h1 := valN_lt β
  have h2 : 2 ^ β.length ≤ 2 ^ 63 := Nat.pow_le_pow_right (by decide) h
  omega
/-- The reference's reader: the bits of a number. -/
theorem ref_rd_bits (L : List Bool) (hL : L.length < 1000000000) (p w : Nat) (hp : p + w ≤ L.length) (hw : w ≤ 64) :
    Ev (fun k => intervalmonref14_Reader_Bits.f k L (p : Int) 0 (w : Int)) ((valN ((L.drop p).take w) : Int), ((p + w : Nat) : Int), 0) := by
  have key : ∀ (d n : Nat), n + d = w → Ev (fun k => intervalmonref14_Reader_Bits.l0 k (w : Int) (valN ((L.drop p).take n) : Int) (n : Int) L ((p + n : Nat) : Int) 0) ((valN ((L.drop p).take w) : Int), ((p + w : Nat) : Int), 0) := by
    intro d
    induction d with
    | zero =>
      intro n hn
      have : n = w := by omega
      subst this
      refine Ev.step (f := fun k => intervalmonref14_Reader_Bits.j3 k (n : Int) (valN ((L.drop p).take n) : Int) (n : Int) false L ((p + n : Nat) : Int) 0) (fun k => ?_) (Ev.step (fun k => ?_) (Ev.now _))
      · rw [intervalmonref14_Reader_Bits.l0, if_neg (by omega)]
      · rw [intervalmonref14_Reader_Bits.j3, if_neg (by decide)]
    | succ d ih =>
      intro n hn
      have hlt : p + n < L.length := by omega
      have hrd : rdOf false L ((p + n : Nat) : Int) = L[p + n] := by rw [rdOf, Int.toNat_natCast, List.getD_eq_getElem?_getD, List.getElem?_eq_getElem hlt]; rfl
      have hsn : (L.drop p).take (n + 1) = (L.drop p).take n ++ [L[p + n]] := by
        rw [List.take_succ_eq_append_getElem (by rw [List.length_drop]; omega), List.getElem_drop]
      have hlen : ((L.drop p).take n).length = n := by rw [List.length_take, List.length_drop]; omega
      have hv := val_lt64 ((L.drop p).take n) (by omega)
      have hvs := val_snoc ((L.drop p).take n) L[p + n]
      rw [← hsn] at hvs
      have h := ih (n + 1) (by omega)
      refine Ev.step (f := fun k => intervalmonref14_Reader_Bits.j3 k (w : Int) (valN ((L.drop p).take n) : Int) (n : Int) true L ((p + n : Nat) : Int) 0) (fun k => ?_) (Ev.step (fun k => ?_) h)
      · rw [intervalmonref14_Reader_Bits.l0, if_pos (by omega)]
        rfl
      · rw [intervalmonref14_Reader_Bits.j3, if_pos rfl, if_pos (by omega), if_pos (by omega), hrd, wrap_in ((n : Int) + 1) (by omega) (by omega), wrap_in (((p + n : Nat) : Int) + 1) (by omega) (by omega)]
        cases hb : L[p + n] with
        | true =>
          rw [hb] at hvs
          rw [if_pos rfl]
          have e : IntKind.u64.wrap (IntKind.u64.wrap (2 * (valN ((L.drop p).take n) : Int)) + 1) = (valN ((L.drop p).take (n + 1)) : Int) := by
            simp only [IntKind.wrap_u64]
            simp only [Bool.toNat_true] at hvs
            omega
          rw [e]
          rfl
        | false =>
          rw [hb] at hvs
          rw [if_neg (by decide)]
          have e : IntKind.u64.wrap (2 * (valN ((L.drop p).take n) : Int)) = (valN ((L.drop p).take (n + 1)) : Int) := by
            simp only [IntKind.wrap_u64]
            simp only [Bool.toNat_false] at hvs
            omega
          rw [e]
          rfl
  have h := key w 0 (by omega)
  have hf : decide ((w : Int) > wrap64 ((L.length : Int) - (p : Int))) = false := decide_eq_false (by rw [wrap_in _ (by omega) (by omega)]; omega)
  refine Ev.congr (g := fun k => intervalmonref14_Reader_Bits.f k L (p : Int) 0 (w : Int)) (f := fun k => intervalmonref14_Reader_Bits.j0 k (w : Int) false L (p : Int) 0) (fun k => ?_) ?_
  · rw [intervalmonref14_Reader_Bits.f, count_eq w hw, Option.bind_some, if_pos rfl, hf]
  · refine Ev.step (f := fun k => intervalmonref14_Reader_Bits.j1 k (w : Int) L (p : Int) 0) (fun k => ?_) (Ev.step (fun k => ?_) h)
    · rw [intervalmonref14_Reader_Bits.j0, if_neg (by decide)]
    · rw [intervalmonref14_Reader_Bits.j1]
      rfl
theorem ref_rd_bits_err (L : List Bool) (p e : Int) (w : Nat) (hw : w ≤ 64) (he : e ≠ 0) : Ev (fun k => intervalmonref14_Reader_Bits.f k L p e (w : Int)) (0, p, e) := by
  refine Ev.congr (f := fun k => intervalmonref14_Reader_Bits.j0 k (w : Int) false L p e) (fun k => ?_) ?_
  · rw [intervalmonref14_Reader_Bits.f, count_eq w hw, Option.bind_some, if_neg he]
  · refine Ev.step (f := fun k => intervalmonref14_Reader_Bits.j1 k (w : Int) L p e) (fun k => ?_) (Ev.step (f := fun k => intervalmonref14_Reader_Bits.l0 k (w : Int) 0 0 L p e) (fun k => ?_)
      (Ev.step (f := fun k => intervalmonref14_Reader_Bits.j3 k (w : Int) 0 0 false L p e) (fun k => ?_) (Ev.step (fun k => ?_) (Ev.now _))))
    · rw [intervalmonref14_Reader_Bits.j0, if_neg (by decide)]
    · rw [intervalmonref14_Reader_Bits.j1]
    · have hb : (e == 0) = false := by simp [he]
      rw [intervalmonref14_Reader_Bits.l0, hb]
      split <;> rfl
    · rw [intervalmonref14_Reader_Bits.j3, if_neg (by decide)]
theorem ref_rd_bits_more (L : List Bool) (hL : L.length < 1000000000) (p w : Nat) (hp : p ≤ L.length) (hp2 : L.length < p + w) (hw : w ≤ 64) :
    Ev (fun k => intervalmonref14_Reader_Bits.f k L (p : Int) 0 (w : Int)) (0, (p : Int), 3) := by
  have hf : decide ((w : Int) > wrap64 ((L.length : Int) - (p : Int))) = true := decide_eq_true (by rw [wrap_in _ (by omega) (by omega)]; omega)
  refine Ev.congr (f := fun k => intervalmonref14_Reader_Bits.j0 k (w : Int) true L (p : Int) 0) (fun k => ?_) ?_
  · rw [intervalmonref14_Reader_Bits.f, count_eq w hw, Option.bind_some, if_pos rfl, hf]
  · refine Ev.step (f := fun k => intervalmonref14_Reader_Bits.j1 k (w : Int) L (p : Int) 3) (fun k => ?_) (Ev.step (f := fun k => intervalmonref14_Reader_Bits.l0 k (w : Int) 0 0 L (p : Int) 3) (fun k => ?_)
      (Ev.step (f := fun k => intervalmonref14_Reader_Bits.j3 k (w : Int) 0 0 false L (p : Int) 3) (fun k => ?_) (Ev.step (fun k => ?_) (Ev.now _))))
    · rw [intervalmonref14_Reader_Bits.j0, if_pos rfl]
    · rw [intervalmonref14_Reader_Bits.j1]
    · rw [intervalmonref14_Reader_Bits.l0, show ((3 : Int) == 0) = false from rfl]
      split <;> rfl
    · rw [intervalmonref14_Reader_Bits.j3, if_neg (by decide)]
/-- The program's reader: a bit. -/
theorem bit_of (bs : List Int) (q : Nat) (h : q < 8 * bs.length) : (unpack bs)[q]'(by rw [unpack_length]; exact h) = bitOf (rd bs ((q / 8 : Nat) : Int)) (7 - q % 8) := by
  induction bs generalizing q with
  | nil => simp at h
  | cons x bs ih =>
    have hl := bits8_length x
    simp only [List.length_cons] at h
    by_cases h8 : q < 8
    · have e1 : q / 8 = 0 := by omega
      have e2 : q % 8 = q := by omega
      have : (unpack (x :: bs))[q]'(by rw [unpack_length]; simp; omega) = (bits8 x)[q]'(by omega) := by simp only [unpack_cons]; exact List.getElem_append_left (by omega)
      rw [this, e1, e2]
      have hx : rd (x :: bs) ((0 : Nat) : Int) = x := rfl
      rw [hx]
      have hq : q = 0 ∨ q = 1 ∨ q = 2 ∨ q = 3 ∨ q = 4 ∨ q = 5 ∨ q = 6 ∨ q = 7 := by omega
      rcases hq with rfl | rfl | rfl | rfl | rfl | rfl | rfl | rfl <;> rfl
    · have h3 := ih (q - 8) (by omega)
      have : (unpack (x :: bs))[q]'(by rw [unpack_length]; simp; omega) = (unpack bs)[q - 8]'(by rw [unpack_length]; omega) := by
        simp only [unpack_cons]
        rw [List.getElem_append_right (by omega)]
        simp only [hl]
      rw [this, h3]
      have e1 : q / 8 = (q - 8) / 8 + 1 := by omega
      have e2 : q % 8 = (q - 8) % 8 := by omega
      rw [e1, e2]
      congr 1
theorem rd_allB {bs : List Int} (hb : AllB bs) (i : Nat) (h : i < bs.length) : 0 ≤ rd bs (i : Int) ∧ rd bs (i : Int) < 256 := by
  rw [rd, Int.toNat_natCast, List.getD_eq_getElem?_getD, List.getElem?_eq_getElem h]
  exact hb _ (List.getElem_mem h)
theorem rd_bit (bs : List Int) (hb : AllB bs) (hl : bs.length < 100000000) (p n : Nat) (e : Int) (h : p + n < 8 * bs.length) :
    bits_Reader_bit.f bs (p : Int) e (n : Int) = some (if (unpack bs)[p + n]'(by rw [unpack_length]; exact h) then 1 else 0, (p : Int), e) := by
  obtain ⟨q, hq⟩ : ∃ q, p + n = q := ⟨_, rfl⟩
  have hw : wrap64 ((p : Int) + (n : Int)) = (q : Int) := by rw [wrap_in _ (by omega) (by omega)]; omega
  have hd : wrap64 (Int.tdiv (q : Int) 8) = ((q / 8 : Nat) : Int) := by rw [Int.tdiv_eq_ediv_of_nonneg (by omega), wrap_in _ (by omega) (by omega)]; omega
  have hm : wrap64 (7 - Int.tmod (q : Int) 8) = ((7 - q % 8 : Nat) : Int) := by rw [Int.tmod_eq_emod_of_nonneg (by omega), wrap_in _ (by omega) (by omega)]; omega
  have hx := rd_allB hb (q / 8) (by omega)
  obtain ⟨x, hx2⟩ := Int.eq_ofNat_of_zero_le hx.1
  rw [bits_Reader_bit.f, hw, hd, if_pos (by omega), if_pos (by omega), hm, if_pos (by omega), hx2]
  congr 2
  have hb2 := bit_of bs q (by omega)
  rw [hx2] at hx hb2
  simp only [hq, hb2]
  rw [bitOf_nat _ _ (by omega) (by omega)]
  have hs : IntKind.u64.wrap (shr .u8 (x : Int) ((7 - q % 8 : Nat) : Int)) = ((x / 2 ^ (7 - q % 8) : Nat) : Int) := by
    rw [shr, show min ((7 - q % 8 : Nat) : Int).toNat IntKind.u8.bits = 7 - q % 8 by simp [IntKind.bits]; omega, IntKind.wrap_u64]
    have hc : ((x : Int) / 2 ^ (7 - q % 8)) = ((x / 2 ^ (7 - q % 8) : Nat) : Int) := by push_cast; rfl
    have hle : x / 2 ^ (7 - q % 8) ≤ x := Nat.div_le_self _ _
    rw [hc]
    generalize x / 2 ^ (7 - q % 8) = y at hle ⊢
    omega
  have hle : x / 2 ^ (7 - q % 8) ≤ x := Nat.div_le_self _ _
  rw [hs, Nat.testBit_eq_decide_div_mod_eq]
  generalize x / 2 ^ (7 - q % 8) = y at hle ⊢
  rw [and_one _ (by omega) (by omega)]
  by_cases hy : y % 2 = 1
  · simp only [hy, decide_true, if_true]; omega
  · simp only [hy, decide_false, Bool.false_eq_true, if_false]; omega
theorem rd_left (bs : List Int) (hl : bs.length < 100000000) (p : Nat) (e : Int) (h : p ≤ 8 * bs.length) : bits_Reader_left.f bs (p : Int) e = some (((8 * bs.length - p : Nat) : Int), (p : Int), e) := by
  rw [bits_Reader_left.f, wrap_in (8 * _) (by omega) (by omega), wrap_in _ (by omega) (by omega)]
  congr 2
  omega
/-- The program's reader: unary. -/
theorem rd_unary (bs : List Int) (hb : AllB bs) (hl : bs.length < 100000000) (p : Nat) (hp : p ≤ 8 * bs.length) :
    (∃ m, rdU ((unpack bs).drop p) 0 5 = some m ∧ Ev (fun k => bits_Reader_Unary.f k bs (p : Int) 0 5) ((m : Int), ((p + m + 1 : Nat) : Int), 0)) ∨
    (rdU ((unpack bs).drop p) 0 5 = none ∧ ∃ e, e ≠ 0 ∧ Ev (fun k => bits_Reader_Unary.f k bs (p : Int) 0 5) (0, (p : Int), e)) := by
  have hul := unpack_length bs
  have key : ∀ (d n : Nat), n + d = 6 → p + n ≤ 8 * bs.length →
      (∃ m, rdU ((unpack bs).drop (p + n)) n 5 = some m ∧ Ev (fun k => bits_Reader_Unary.l0 k 5 (n : Int) bs (p : Int) 0) ((m : Int), ((p + m + 1 : Nat) : Int), 0)) ∨
      (rdU ((unpack bs).drop (p + n)) n 5 = none ∧ ∃ e, e ≠ 0 ∧ Ev (fun k => bits_Reader_Unary.l0 k 5 (n : Int) bs (p : Int) 0) (0, (p : Int), e)) ∨ n = 6 := by
    intro d
    induction d with
    | zero => intro n hn _; exact .inr (.inr (by omega))
    | succ d ih =>
      intro n hn hpn
      have hleft := rd_left bs hl p 0 hp
      have hw1 : wrap64 ((n : Int) + 1) = ((n + 1 : Nat) : Int) := by rw [wrap_in _ (by omega) (by omega)]; omega
      by_cases hlt : p + n < 8 * bs.length
      · have hbit := rd_bit bs hb hl p n 0 hlt
        rw [drop_at (l := unpack bs) (by rw [hul]; exact hlt)]
        cases hbb : (unpack bs)[p + n]'(by rw [hul]; exact hlt) with
        | false =>
          rw [hbb] at hbit
          rw [rdU_false]
          refine .inl ⟨n, rfl, Ev.step (fun k => ?_) (Ev.now _)⟩
          rw [bits_Reader_Unary.l0, if_pos rfl, hleft, Option.bind_some, if_neg (by simp only []; omega), hbit, Option.bind_some]
          simp only [Bool.false_eq_true, if_false, if_true]
          rw [hw1, wrap_in _ (by omega) (by omega)]
          congr 3
        | true =>
          rw [hbb] at hbit
          rw [rdU_true]
          by_cases h5 : 5 ≤ n
          · rw [if_pos h5]
            refine .inr (.inl ⟨rfl, 4, by decide, Ev.step (f := fun k => bits_Reader_Unary.l0 k 5 (wrap64 ((n : Int) + 1)) bs (p : Int) 4) (fun k => ?_) (Ev.step (fun k => ?_) (Ev.now _))⟩)
            · rw [bits_Reader_Unary.l0, if_pos rfl, hleft, Option.bind_some, if_neg (by simp only []; omega), hbit, Option.bind_some]
              simp only [if_true]
              rw [if_neg (by decide), if_pos (by omega)]
            · rw [bits_Reader_Unary.l0, if_neg (by decide)]
          · rw [if_neg h5]
            have hst : ∀ k, bits_Reader_Unary.l0 (k + 1) 5 (n : Int) bs (p : Int) 0 = bits_Reader_Unary.l0 k 5 ((n + 1 : Nat) : Int) bs (p : Int) 0 := fun k => by
              rw [bits_Reader_Unary.l0, if_pos rfl, hleft, Option.bind_some, if_neg (by simp only []; omega), hbit, Option.bind_some]
              simp only [if_true]
              rw [if_neg (by decide), if_neg (by omega), hw1]
            rcases ih (n + 1) (by omega) (by omega) with ⟨m, h1, h2⟩ | ⟨h1, e, he, h2⟩ | h
            · exact .inl ⟨m, h1, Ev.step hst h2⟩
            · exact .inr (.inl ⟨h1, e, he, Ev.step hst h2⟩)
            · omega
      · rw [List.drop_eq_nil_of_le (by rw [hul]; omega)]
        refine .inr (.inl ⟨rfl, 3, by decide, Ev.step (f := fun k => bits_Reader_Unary.l0 k 5 (wrap64 ((n : Int) + 1)) bs (p : Int) 3) (fun k => ?_) (Ev.step (fun k => ?_) (Ev.now _))⟩)
        · rw [bits_Reader_Unary.l0, if_pos rfl, hleft, Option.bind_some, if_pos (by simp only []; omega)]
        · rw [bits_Reader_Unary.l0, if_neg (by decide)]
  rcases key 6 0 rfl (by omega) with h | h | h
  · exact .inl h
  · exact .inr h
  · omega
theorem rd_unary_err (bs : List Int) (p e : Int) (he : e ≠ 0) : Ev (fun k => bits_Reader_Unary.f k bs p e 5) (0, p, e) := by
  refine Ev.step (fun k => ?_) (Ev.now _)
  rw [bits_Reader_Unary.f, bits_Reader_Unary.l0, if_neg he]
theorem or_bit (v : Nat) (b : Bool) (h : v < 9223372036854775808) : bits .or .u64 (IntKind.u64.wrap ((v : Int) * 2)) (if b then 1 else 0) = ((2 * v + b.toNat : Nat) : Int) := by
  have e : IntKind.u64.wrap ((v : Int) * 2) = ((2 * v : Nat) : Int) := by rw [IntKind.wrap_u64]; omega
  rw [e]
  cases b with
  | false =>
    rw [show (if false = true then (1 : Int) else 0) = ((0 : Nat) : Int) from rfl, u64_or_nat _ _ (by omega) (by omega)]
    simp
  | true =>
    rw [show (if true = true then (1 : Int) else 0) = ((1 : Nat) : Int) from rfl, u64_or_nat _ _ (by omega) (by omega), nat_join 1 (2 * v) 1 (by omega) (by decide)]
    rfl
/-- The program's reader: the bits of a number. -/
theorem rd_bits (bs : List Int) (hb : AllB bs) (hl : bs.length < 100000000) (p w : Nat) (hp : p + w ≤ 8 * bs.length) (hw : w ≤ 64) :
    Ev (fun k => bits_Reader_Bits.f k bs (p : Int) 0 (w : Int)) ((valN (((unpack bs).drop p).take w) : Int), ((p + w : Nat) : Int), 0) := by
  have hul := unpack_length bs
  have key : ∀ (d n : Nat), n + d = w → Ev (fun k => bits_Reader_Bits.l0 k (w : Int) (valN (((unpack bs).drop p).take n) : Int) (w : Int) (n : Int) bs (p : Int) 0) ((valN (((unpack bs).drop p).take w) : Int), ((p + w : Nat) : Int), 0) := by
    intro d
    induction d with
    | zero =>
      intro n hn
      have : n = w := by omega
      subst this
      refine Ev.step (fun k => ?_) (Ev.now _)
      rw [bits_Reader_Bits.l0, if_neg (by omega), wrap_in _ (by omega) (by omega)]
      rfl
    | succ d ih =>
      intro n hn
      have hlt : p + n < 8 * bs.length := by omega
      have hlt2 : p + n < (unpack bs).length := by rw [hul]; exact hlt
      have hsn : ((unpack bs).drop p).take (n + 1) = ((unpack bs).drop p).take n ++ [(unpack bs)[p + n]] := by
        rw [List.take_succ_eq_append_getElem (by rw [List.length_drop]; omega), List.getElem_drop]
      have hlen : (((unpack bs).drop p).take n).length = n := by rw [List.length_take, List.length_drop]; omega
      have hv := val_lt64 (((unpack bs).drop p).take n) (by omega)
      have hvs := val_snoc (((unpack bs).drop p).take n) (unpack bs)[p + n]
      rw [← hsn] at hvs
      have h := ih (n + 1) (by omega)
      refine Ev.step (fun k => ?_) h
      rw [bits_Reader_Bits.l0, if_pos (by omega), rd_bit bs hb hl p n 0 hlt, Option.bind_some]
      simp only []
      rw [or_bit _ _ hv, ← hvs, wrap_in _ (by omega) (by omega)]
      rfl
  have h := key w 0 (by omega)
  refine Ev.congr (g := fun k => bits_Reader_Bits.f k bs (p : Int) 0 (w : Int)) (f := fun k => bits_Reader_Bits.j0 k (w : Int) false bs (p : Int) 0) (fun k => ?_) ?_
  · rw [bits_Reader_Bits.f, clamp_eq w hw, Option.bind_some, if_pos rfl, rd_left bs hl p 0 (by omega), Option.bind_some]
    simp only []
    rw [decide_eq_false (by omega)]
  · refine Ev.step (f := fun k => bits_Reader_Bits.j1 k (w : Int) bs (p : Int) 0) (fun k => ?_) (Ev.step (fun k => ?_) h)
    · rw [bits_Reader_Bits.j0, if_neg (by decide)]
    · rw [bits_Reader_Bits.j1, if_pos rfl]
      rfl
theorem rd_bits_err (bs : List Int) (p e : Int) (w : Nat) (hw : w ≤ 64) (he : e ≠ 0) : Ev (fun k => bits_Reader_Bits.f k bs p e (w : Int)) (0, p, e) := by
  refine Ev.congr (f := fun k => bits_Reader_Bits.j0 k (w : Int) false bs p e) (fun k => ?_) ?_
  · rw [bits_Reader_Bits.f, clamp_eq w hw, Option.bind_some, if_neg he]
  · refine Ev.step (f := fun k => bits_Reader_Bits.j1 k (w : Int) bs p e) (fun k => ?_) (Ev.step (fun k => ?_) (Ev.now _))
    · rw [bits_Reader_Bits.j0, if_neg (by decide)]
    · rw [bits_Reader_Bits.j1, if_neg he]
theorem rd_bits_more (bs : List Int) (hl : bs.length < 100000000) (p w : Nat) (hp : p ≤ 8 * bs.length) (hp2 : 8 * bs.length < p + w) (hw : w ≤ 64) :
    Ev (fun k => bits_Reader_Bits.f k bs (p : Int) 0 (w : Int)) (0, (p : Int), 3) := by
  refine Ev.congr (f := fun k => bits_Reader_Bits.j0 k (w : Int) true bs (p : Int) 0) (fun k => ?_) ?_
  · rw [bits_Reader_Bits.f, clamp_eq w hw, Option.bind_some, if_pos rfl, rd_left bs hl p 0 (by omega), Option.bind_some]
    simp only []
    rw [decide_eq_true (by omega)]
  · refine Ev.step (f := fun k => bits_Reader_Bits.j1 k (w : Int) bs (p : Int) 3) (fun k => ?_) (Ev.step (fun k => ?_) (Ev.now _))
    · rw [bits_Reader_Bits.j0, if_pos rfl]
    · rw [bits_Reader_Bits.j1, if_neg (by decide)]
/-- The program's reader: its end. -/
theorem rd_end (bs : List Int) (hb : AllB bs) (hl : bs.length < 100000000) (p : Nat) (hp : p ≤ 8 * bs.length) :
    ∃ e, Ev (fun k => bits_Reader_End.f k bs (p : Int) 0) (e, (p : Int), 0) ∧ (e = 0 ↔ fills ((unpack bs).drop p) = true) := by
  have hul := unpack_length bs
  have hleft := rd_left bs hl p 0 hp
  have hlen : ((unpack bs).drop p).length = 8 * bs.length - p := by rw [List.length_drop, hul]
  by_cases h8 : 8 ≤ 8 * bs.length - p
  · refine ⟨2, Ev.congr (fun k => ?_) (Ev.now _), ⟨fun h => absurd h (by decide), fun h => ?_⟩⟩
    · rw [bits_Reader_End.f, if_pos rfl, hleft, Option.bind_some, if_pos (by simp only []; omega)]
    · simp only [fills, Bool.and_eq_true, decide_eq_true_eq] at h
      omega
  · have key : ∀ (d n : Nat), p + n + d = 8 * bs.length → (∀ j (hj : j < n), (unpack bs)[p + j]? = some false) →
        ∃ e, Ev (fun k => bits_Reader_End.l0 k ((8 * bs.length - p : Nat) : Int) (n : Int) bs (p : Int) 0) (e, (p : Int), 0) ∧ (e = 0 ↔ ((unpack bs).drop (p + n)).all (! ·) = true) := by
      intro d
      induction d with
      | zero =>
        intro n hn hj
        refine ⟨0, Ev.step (fun k => ?_) (Ev.now _), ?_⟩
        · rw [bits_Reader_End.l0, if_neg (by omega)]
        · rw [List.drop_eq_nil_of_le (by rw [hul]; omega)]
          simp
      | succ d ih =>
        intro n hn hj
        have hlt : p + n < 8 * bs.length := by omega
        have hlt2 : p + n < (unpack bs).length := by rw [hul]; exact hlt
        have hbit := rd_bit bs hb hl p n 0 hlt
        rw [drop_at hlt2, List.all_cons]
        cases hbb : (unpack bs)[p + n] with
        | true =>
          rw [hbb] at hbit
          refine ⟨2, Ev.step (fun k => ?_) (Ev.now _), ⟨fun h => absurd h (by decide), fun h => by simp at h⟩⟩
          rw [bits_Reader_End.l0, if_pos (by omega), hbit, Option.bind_some]
          rfl
        | false =>
          rw [hbb] at hbit
          obtain ⟨e, h1, h2⟩ := ih (n + 1) (by omega) (fun j hj2 => by
            rcases (by omega : j < n ∨ j = n) with h | h
            · exact hj j h
            · rw [h, List.getElem?_eq_getElem hlt2, hbb])
          refine ⟨e, Ev.step (fun k => ?_) h1, ?_⟩
          · rw [bits_Reader_End.l0, if_pos (by omega), hbit, Option.bind_some]
            simp only [Bool.false_eq_true, if_false]
            rw [if_neg (by decide), wrap_in _ (by omega) (by omega)]
            rfl
          · rw [h2]
            simp [Nat.add_assoc]
    obtain ⟨e, h1, h2⟩ := key (8 * bs.length - p) 0 (by omega) (fun j hj => by omega)
    refine ⟨e, Ev.congr (f := fun k => bits_Reader_End.l0 k ((8 * bs.length - p : Nat) : Int) ((0 : Nat) : Int) bs (p : Int) 0) (fun k => ?_) h1, ?_⟩
    · rw [bits_Reader_End.f, if_pos rfl, hleft, Option.bind_some, if_neg (by simp only []; omega)]
      simp only []
      rw [hleft, Option.bind_some]
      rfl
    · rw [h2]
      simp only [fills, Bool.and_eq_true, decide_eq_true_eq, hlen, Nat.add_zero]
      exact ⟨fun h => ⟨by omega, h⟩, fun h => h.2⟩
end Go.Proofs.YtblbieenfghbdaaDoor.D
