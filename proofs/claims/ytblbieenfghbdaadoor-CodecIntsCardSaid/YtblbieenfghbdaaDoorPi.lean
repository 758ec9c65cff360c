/- Lists of codes in plain words: what is read from bits is what was written, and bytes that are read are the bytes of what they say. -/
import Derived.Test.YtblbieenfghbdaaDoorPc
namespace Go.Proofs.YtblbieenfghbdaaDoor.D
open Go.RowKit Go.Proofs.YtblbieenfghbdaaDoorW.PrintWords Go.Proofs.YtblbieenfghbdaaDoorW.PrintLast
set_option linter.unusedVariables false
set_option linter.unusedSimpArgs false
/-- As many numbers, each foretold by the two before it; nothing where a code is longer than it must be, or ends. -/
def rdList : Nat → List Bool → Int → Int → Option (List Int × List Bool)
  | 0, R, _, _ => some ([], R)
  | m + 1, R, a, b => (getP R).bind fun g => if g.2.1 = true then none else
      (rdList m g.2.2 (wrap64 (a + wrap64 (b + g.1))) (wrap64 (b + g.1))).bind fun s => some (wrap64 (a + wrap64 (b + g.1)) :: s.1, s.2)
theorem rdList_bits (S : List Bool) : ∀ (l : List Int) (a b : Int), (∀ x, x ∈ l → I64 x) → rdList l.length (trendBits a b l ++ S) a b = some (l, S)
  | [], a, b, h => rfl
  | n :: l, a, b, h => by
    have hn := h n List.mem_cons_self
    have e1 : wrap64 (b + wrap64 (wrap64 (n - a) - b)) = wrap64 (n - a) := by unfold wrap64; omega
    have e2 : wrap64 (a + wrap64 (n - a)) = n := by unfold I64 at hn; unfold wrap64; omega
    rw [trendBits, List.append_assoc, List.length_cons, rdList, getP_code _ (I64.wrap _), Option.bind_some, if_neg (by simp)]
    simp only []
    rw [e1, e2, rdList_bits S l n _ (fun x hx => h x (List.mem_cons_of_mem _ hx)), Option.bind_some]
theorem rdList_spec : ∀ (m : Nat) (R : List Bool) (a b : Int) (l : List Int) (S : List Bool), rdList m R a b = some (l, S) → I64 a → I64 b → l.length = m ∧ (∀ x, x ∈ l → I64 x) ∧ R = trendBits a b l ++ S
  | 0, R, a, b, l, S, h, ha, hb => by
    simp only [rdList, Option.some.injEq, Prod.mk.injEq] at h
    obtain ⟨rfl, rfl⟩ := h
    exact ⟨rfl, fun x hx => (by cases hx), rfl⟩
  | m + 1, R, a, b, l, S, h, ha, hb => by
    rw [rdList] at h
    obtain ⟨⟨c, sh, T⟩, hg, h⟩ := Option.bind_eq_some_iff.1 h
    simp only [] at h
    cases sh with
    | true => rw [if_pos rfl] at h; cases h
    | false =>
      rw [if_neg (by simp)] at h
      obtain ⟨⟨l', S'⟩, hr, h⟩ := Option.bind_eq_some_iff.1 h
      simp only [Option.some.injEq, Prod.mk.injEq] at h
      obtain ⟨rfl, rfl⟩ := h
      obtain ⟨hc, i, -, -, -, hR, -⟩ := getP_spec R c false T hg
      obtain ⟨h1, h2, h3⟩ := rdList_spec m T _ _ l' S' hr (I64.wrap _) (I64.wrap _)
      refine ⟨by rw [List.length_cons, h1], fun x hx => ?_, ?_⟩
      · rcases List.mem_cons.1 hx with hx | hx
        · subst hx; exact I64.wrap _
        · exact h2 x hx
      · have e1 : wrap64 (wrap64 (a + wrap64 (b + c)) - a) = wrap64 (b + c) := by unfold I64 at ha; unfold wrap64; omega
        have e2 : wrap64 (wrap64 (b + c) - b) = c := by unfold I64 at hb hc; unfold wrap64; omega
        rw [trendBits, e1, e2, List.append_assoc, ← h3]
        exact hR rfl
theorem trendBits_len : ∀ (l : List Int) (a b : Int), l.length ≤ (trendBits a b l).length
  | [], a, b => Nat.le_refl _
  | n :: l, a, b => by
    have h1 := trendBits_len l n (wrap64 (n - a))
    have h2 : 1 ≤ (codeBits (wrap64 (wrap64 (n - a) - b))).length := by rw [codeBits_len _ (I64.wrap _)]; omega
    rw [trendBits, List.length_append, List.length_cons]
    omega
/-- Bits that only fill the last byte. -/
def fills (S : List Bool) : Bool := decide (S.length < 8) && S.all (! ·)
theorem fills_iff (S : List Bool) : fills S = true ↔ ∃ n, n < 8 ∧ S = List.replicate n false := by
  constructor
  · intro h
    simp only [fills, Bool.and_eq_true, decide_eq_true_eq, List.all_eq_true] at h
    refine ⟨S.length, h.1, List.eq_replicate_iff.2 ⟨rfl, fun b hb => ?_⟩⟩
    have := h.2 b hb
    simpa using this
  · rintro ⟨n, hn, rfl⟩
    simp only [fills, List.length_replicate, Bool.and_eq_true, decide_eq_true_eq, List.all_eq_true]
    refine ⟨hn, fun b hb => ?_⟩
    rw [List.eq_of_mem_replicate hb]
    rfl
/-- Bytes are those of the bits that were read exactly where only the filling is left. -/
theorem tail_iff {bs : List Int} {β S : List Bool} (hb : AllB bs) (h : unpack bs = β ++ S) : bs = packL β ↔ fills S = true := by
  have hp := packL_packed β
  rw [fills_iff]
  constructor
  · intro e
    have h2 := hp.2
    rw [← e, h] at h2
    exact ⟨padN β.length, by simp only [padN]; omega, List.append_cancel_left h2⟩
  · rintro ⟨n, hn, rfl⟩
    have hl := unpack_length bs
    rw [h, List.length_append, List.length_replicate] at hl
    have hn2 : n = padN β.length := by simp only [padN]; omega
    exact Packed.uniq ⟨hb, by rw [h, hn2]⟩ hp
/-- The bytes of a list of numbers. -/
def intsOf (l : List Int) : List Int := packL (codeBits (l.length : Int) ++ trendBits 0 0 l)
/-- The list that bytes tell. -/
def parseInts (bs : List Int) : Option (List Int) :=
  (getP (unpack bs)).bind fun g => if g.2.1 = true ∨ g.1 < 0 ∨ 8 * (bs.length : Int) < g.1 then none else
    (rdList g.1.toNat g.2.2 0 0).bind fun s => if fills s.2 = true then some s.1 else none
theorem parse_ints (l : List Int) (hI : ∀ x, x ∈ l → I64 x) (hl : l.length < 4611686018427387904) : parseInts (intsOf l) = some l := by
  have hp := packL_packed (codeBits (l.length : Int) ++ trendBits 0 0 l)
  have hlen := hp.length
  rw [List.length_append] at hlen
  have ht := trendBits_len l 0 0
  rw [parseInts, intsOf, hp.2, List.append_assoc, getP_code _ (by unfold I64; omega), Option.bind_some]
  simp only []
  rw [if_neg (by simp only [Bool.false_eq_true, false_or]; omega), Int.toNat_natCast, rdList_bits _ l 0 0 hI, Option.bind_some]
  simp only []
  rw [if_pos ((fills_iff _).2 ⟨_, by simp only [padN]; omega, rfl⟩)]
theorem parse_spec (bs l : List Int) (hb : AllB bs) (h : parseInts bs = some l) : (∀ x, x ∈ l → I64 x) ∧ bs = intsOf l ∧ l.length ≤ 8 * bs.length := by
  rw [parseInts] at h
  obtain ⟨⟨n, sh, T⟩, hg, h⟩ := Option.bind_eq_some_iff.1 h
  simp only [] at h
  by_cases c : sh = true ∨ n < 0 ∨ 8 * (bs.length : Int) < n
  · rw [if_pos c] at h; cases h
  · rw [if_neg c] at h
    simp only [not_or, Bool.not_eq_true] at c
    obtain ⟨⟨l', S⟩, hr, h⟩ := Option.bind_eq_some_iff.1 h
    simp only [] at h
    by_cases f : fills S = true
    · rw [if_pos f] at h
      injection h with h
      subst h
      obtain ⟨rfl, c1, c2⟩ := c
      obtain ⟨hc, i, -, -, -, hR, -⟩ := getP_spec _ n false T hg
      obtain ⟨h1, h2, h3⟩ := rdList_spec _ T 0 0 l' S hr (by unfold I64; omega) (by unfold I64; omega)
      refine ⟨h2, ?_, by omega⟩
      refine (tail_iff hb (S := S) ?_).2 f
      rw [hR rfl, h3, List.append_assoc, h1, Int.toNat_of_nonneg (by omega)]
    · rw [if_neg f] at h; cases h
end Go.Proofs.YtblbieenfghbdaaDoor.D
