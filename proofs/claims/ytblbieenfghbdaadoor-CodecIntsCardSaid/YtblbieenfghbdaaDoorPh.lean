/- The plain laws of the readers of lists: codec.ReadInts and the reference's ReadInts come to what parseInts tells. -/
import Derived.Test.YtblbieenfghbdaaDoorPr
import Derived.Test.YtblbieenfghbdaaDoorKn
import Derived.Test.YtblbieenfghbdaaDoorKr
import Derived.Test.YtblbieenfghbdaaDoorPs
namespace Go.Proofs.YtblbieenfghbdaaDoor.D
open Go.RowKit Go.Proofs.YtblbieenfghbdaaDoorW.PrintWords Go.Proofs.YtblbieenfghbdaaDoorW.PrintLast Go.Proofs.YtblbieenfghbdaaDoorW.PrintMore
set_option linter.unusedVariables false
set_option linter.unusedSimpArgs false
theorem wN_le (i : Nat) (h : i < 6) : wN i ≤ 64 := by have := w_cases i h; omega
theorem rd6_wN (i : Nat) (h : i < 6) : rd ([0, 4, 8, 16, 32, 64] : List Int) (i : Int) = (wN i : Int) := by
  have : i = 0 ∨ i = 1 ∨ i = 2 ∨ i = 3 ∨ i = 4 ∨ i = 5 := by omega
  rcases this with rfl | rfl | rfl | rfl | rfl | rfl <;> decide
theorem widths_wN (i : Nat) (h : i < 6) : rd widths (i : Int) = (wN i : Int) := by
  have := widths_pos (i : Int) (by omega) (by omega)
  simp only [wN]
  omega
/-- What getP does, step by step. -/
theorem getP_some {R : List Bool} {n : Int} {b : Bool} {S : List Bool} (h : getP R = some (n, b, S)) :
    ∃ i, i < 6 ∧ rdU R 0 5 = some i ∧ i + 1 + wN i ≤ R.length ∧ n = unzig (valN ((R.drop (i + 1)).take (wN i)) : Int) ∧ b = short i (valN ((R.drop (i + 1)).take (wN i)) : Int) ∧ S.length + (i + 1 + wN i) = R.length ∧ S = R.drop (i + 1 + wN i) := by
  obtain ⟨hI, j, hj, hl, hS, -, -⟩ := getP_spec R n b S h
  rw [getP] at h
  obtain ⟨i, hi, h⟩ := Option.bind_eq_some_iff.1 h
  obtain ⟨-, h5, hR⟩ := rdU_spec R 0 5 i hi (by decide)
  rw [Nat.sub_zero] at hR
  have hRl : i + 1 ≤ R.length := by
    have := congrArg List.length hR
    simp only [List.length_append, List.length_replicate, List.length_cons] at this
    omega
  by_cases c : (R.drop (i + 1)).length < wN i
  · rw [if_pos c] at h; cases h
  · rw [if_neg c] at h
    rw [List.length_drop] at c
    simp only [Option.some.injEq, Prod.mk.injEq] at h
    obtain ⟨h1, h2, h3⟩ := h
    rw [List.drop_drop] at h3
    have hSl : S.length = R.length - (i + 1 + wN i) := by rw [← h3, List.length_drop]
    exact ⟨i, by omega, hi, by omega, h1.symm, h2.symm, by omega, h3.symm⟩
theorem getP_none {R : List Bool} (h : getP R = none) : rdU R 0 5 = none ∨ ∃ i, i < 6 ∧ rdU R 0 5 = some i ∧ i + 1 ≤ R.length ∧ R.length < i + 1 + wN i := by
  rw [getP] at h
  cases hi : rdU R 0 5 with
  | none => exact .inl rfl
  | some i =>
    obtain ⟨-, h5, hR⟩ := rdU_spec R 0 5 i hi (by decide)
    rw [Nat.sub_zero] at hR
    have hRl : i + 1 ≤ R.length := by
      have := congrArg List.length hR
      simp only [List.length_append, List.length_replicate, List.length_cons] at this
      omega
    rw [hi, Option.bind_some] at h
    by_cases c : (R.drop (i + 1)).length < wN i
    · rw [List.length_drop] at c
      exact .inr ⟨i, by omega, rfl, hRl, by omega⟩
    · rw [if_neg c] at h; cases h
theorem val_u64 (β : List Bool) (h : β.length ≤ 64) : (valN β : Int) < 18446744073709551616 := by
  have h1 := valN_lt β
  have h2 : 2 ^ β.length ≤ 2 ^ 64 := Nat.pow_le_pow_right (by decide) h
  omega
/-- The reference reads a number. -/
theorem ref_read (L : List Bool) (hL : L.length < 1000000000) (p : Nat) (hp : p ≤ L.length) :
    (∀ n b S, getP (L.drop p) = some (n, b, S) → Ev (fun k => intervalmonref15_Read.f k L (p : Int) 0) (n, !b, ((L.length - S.length : Nat) : Int), 0)) ∧
    (getP (L.drop p) = none → ∃ n p' e, Ev (fun k => intervalmonref15_Read.f k L (p : Int) 0) (n, false, p', e)) := by
  constructor
  · intro n b S h
    obtain ⟨hI, j, hj, hl, hS, hcf, hct⟩ := getP_spec _ n b S h
    obtain ⟨i, hi6, hu, hle, hn, hb, hSl, hSd⟩ := getP_some h
    rw [List.length_drop] at hle hSl hl
    have hij : i + 1 + wN i = j + 1 + wN j := by omega
    rcases ref_rd_unary L hL p hp with ⟨m, hm, hEv⟩ | ⟨hm, -⟩
    · rw [hu] at hm
      injection hm with hm
      subst hm
      have hEb := ref_rd_bits L hL (p + i + 1) (wN i) (by omega) (wN_le i hi6)
      have hv : (L.drop (p + i + 1)).take (wN i) = ((L.drop p).drop (i + 1)).take (wN i) := by rw [List.drop_drop]; rfl
      rw [hv] at hEb
      have hvlt := val_u64 (((L.drop p).drop (i + 1)).take (wN i)) (by rw [List.length_take]; have := wN_le i hi6; omega)
      have hbk := ref_back _ (Int.natCast_nonneg _) hvlt
      refine Ev.bind hEv ?_
      refine Ev.congr (fun k => if_pos (by constructor <;> simp only [] <;> omega)) ?_
      simp only []
      rw [rd6_wN i hi6]
      refine Ev.bind hEb ?_
      simp only []
      refine Ev.congr (f := fun k => (intervalmonref15_Code.f k n).bind fun c => some (n, decide ((c.length : Int) = wrap64 (((p + i + 1 + wN i : Nat) : Int) - (p : Int))), ((p + i + 1 + wN i : Nat) : Int), (0 : Int))) (fun k => ?_) ?_
      · rw [hbk, Option.bind_some, if_pos trivial, ← hn]
      · refine Ev.bind (ref_code n hI) ?_
        refine Ev.congr (fun k => ?_) (Ev.now _)
        have e1 : wrap64 (((p + i + 1 + wN i : Nat) : Int) - (p : Int)) = ((i + 1 + wN i : Nat) : Int) := by rw [wrap_in _ (by omega) (by omega)]; omega
        have e2 : ((p + i + 1 + wN i : Nat) : Int) = ((L.length - S.length : Nat) : Int) := by omega
        rw [e1, e2]
        have e3 : decide (((codeBits n).length : Int) = ((i + 1 + wN i : Nat) : Int)) = !b := by
          cases b with
          | false =>
            have hR := congrArg List.length (hcf rfl)
            rw [List.length_append, List.length_drop] at hR
            simp only [Bool.not_false]
            exact decide_eq_true (by omega)
          | true =>
            have hR := hct rfl
            simp only [Bool.not_true]
            exact decide_eq_false (by omega)
        rw [e3]
    · rw [hu] at hm; cases hm
  · intro h
    rcases getP_none h with hu | ⟨i, hi6, hu, hle, hlt⟩
    · rcases ref_rd_unary L hL p hp with ⟨m, hm, -⟩ | ⟨-, e, he, hEv⟩
      · rw [hu] at hm; cases hm
      · refine ⟨0, (p : Int), e, ?_⟩
        have hEb := ref_rd_bits_err L (p : Int) e 0 (by decide) he
        refine Ev.bind hEv ?_
        refine Ev.congr (fun k => if_pos (by simp)) ?_
        refine Ev.bind (a := ((0 : Int), (p : Int), e)) hEb ?_
        refine Ev.congr (fun k => ?_) (Ev.now _)
        rw [ref_back 0 (by decide) (by decide), Option.bind_some, if_neg he]
    · rw [List.length_drop] at hle hlt
      rcases ref_rd_unary L hL p hp with ⟨m, hm, hEv⟩ | ⟨hm, -⟩
      · rw [hu] at hm
        injection hm with hm
        subst hm
        refine ⟨0, ((p + i + 1 : Nat) : Int), 3, ?_⟩
        have hEb := ref_rd_bits_more L hL (p + i + 1) (wN i) (by omega) (by omega) (wN_le i hi6)
        refine Ev.bind hEv ?_
        refine Ev.congr (fun k => if_pos (by constructor <;> simp only [] <;> omega)) ?_
        simp only []
        rw [rd6_wN i hi6]
        refine Ev.bind hEb ?_
        refine Ev.congr (fun k => ?_) (Ev.now _)
        rw [ref_back 0 (by decide) (by decide), Option.bind_some, if_neg (by simp)]
      · rw [hu] at hm; cases hm
/-- The program reads a number. -/
theorem src_get (bs : List Int) (hb : AllB bs) (hl : bs.length < 100000000) (p : Nat) (hp : p ≤ 8 * bs.length) (bad : Bool) :
    (∀ n b S, getP ((unpack bs).drop p) = some (n, b, S) → Ev (fun k => codec_source_get.f k bs (p : Int) 0 bad) (n, ((8 * bs.length - S.length : Nat) : Int), 0, bad || b)) ∧
    (getP ((unpack bs).drop p) = none → ∃ n e b', ∃ p' : Nat, p' ≤ 8 * bs.length ∧ e ≠ 0 ∧ Ev (fun k => codec_source_get.f k bs (p : Int) 0 bad) (n, (p' : Int), e, b')) := by
  have hul := unpack_length bs
  constructor
  · intro n b S h
    obtain ⟨i, hi6, hu, hle, hn, hbb, hSl, hSd⟩ := getP_some h
    rw [List.length_drop, hul] at hle hSl
    rcases rd_unary bs hb hl p hp with ⟨m, hm, hEv⟩ | ⟨hm, -⟩
    · rw [hu] at hm
      injection hm with hm
      subst hm
      have hEb := rd_bits bs hb hl (p + i + 1) (wN i) (by omega) (wN_le i hi6)
      have hv : ((unpack bs).drop (p + i + 1)).take (wN i) = (((unpack bs).drop p).drop (i + 1)).take (wN i) := by rw [List.drop_drop]; rfl
      rw [hv] at hEb
      have hvlt := val_u64 ((((unpack bs).drop p).drop (i + 1)).take (wN i)) (by rw [List.length_take]; have := wN_le i hi6; omega)
      refine Ev.bind hEv ?_
      refine Ev.congr (fun k => if_pos (by constructor <;> simp only [] <;> omega)) ?_
      simp only []
      rw [widths_wN i hi6]
      refine Ev.bind hEb ?_
      refine Ev.congr (fun k => ?_) (Ev.now _)
      have e2 : ((p + i + 1 + wN i : Nat) : Int) = ((8 * bs.length - S.length : Nat) : Int) := by omega
      simp only []
      rw [codec_unzig_eq _ (Int.natCast_nonneg _) hvlt, codec_short_eq i hi6 _ (Int.natCast_nonneg _), ← hn, ← hbb, e2]
    · rw [hu] at hm; cases hm
  · intro h
    rcases getP_none h with hu | ⟨i, hi6, hu, hle, hlt⟩
    · rcases rd_unary bs hb hl p hp with ⟨m, hm, -⟩ | ⟨-, e, he, hEv⟩
      · rw [hu] at hm; cases hm
      · refine ⟨codec_unzig 0, e, bad || codec_short 0 0, p, hp, he, ?_⟩
        have hEb := rd_bits_err bs (p : Int) e 0 (by decide) he
        refine Ev.bind hEv ?_
        refine Ev.congr (fun k => if_pos (by simp)) ?_
        exact Ev.bind (a := ((0 : Int), (p : Int), e)) hEb (Ev.now _)
    · rw [List.length_drop, hul] at hle hlt
      rcases rd_unary bs hb hl p hp with ⟨m, hm, hEv⟩ | ⟨hm, -⟩
      · rw [hu] at hm
        injection hm with hm
        subst hm
        refine ⟨codec_unzig 0, 3, bad || codec_short (i : Int) 0, p + i + 1, by omega, by decide, ?_⟩
        have hEb := rd_bits_more bs hl (p + i + 1) (wN i) (by omega) (by omega) (wN_le i hi6)
        refine Ev.bind hEv ?_
        refine Ev.congr (fun k => if_pos (by constructor <;> simp only [] <;> omega)) ?_
        simp only []
        rw [widths_wN i hi6]
        exact Ev.bind hEb (Ev.now _)
      · rw [hu] at hm; cases hm
theorem src_get_err (bs : List Int) (p e : Int) (bad : Bool) (he : e ≠ 0) : Ev (fun k => codec_source_get.f k bs p e bad) (codec_unzig 0, p, e, bad || codec_short 0 0) := by
  refine Ev.bind (rd_unary_err bs p e he) ?_
  refine Ev.congr (fun k => if_pos (by simp)) ?_
  exact Ev.bind (a := ((0 : Int), p, e)) (rd_bits_err bs p e 0 (by decide) he) (Ev.now _)
/-- A source that has failed goes on failing. -/
theorem src_failed (bs : List Int) (hb : AllB bs) (hl : bs.length < 100000000) (p : Nat) (hp : p ≤ 8 * bs.length) (e : Int) (bad : Bool) (hf : bad = true ∨ e ≠ 0) :
    ∃ n e' b', ∃ p' : Nat, p' ≤ 8 * bs.length ∧ (b' = true ∨ e' ≠ 0) ∧ Ev (fun k => codec_source_get.f k bs (p : Int) e bad) (n, (p' : Int), e', b') := by
  by_cases he : e = 0
  · subst he
    have hbad : bad = true := by rcases hf with h | h; exact h; exact absurd rfl h
    subst hbad
    obtain ⟨h1, h2⟩ := src_get bs hb hl p hp true
    cases hg : getP ((unpack bs).drop p) with
    | none =>
      obtain ⟨n, e, b', p', hp', he, hEv⟩ := h2 hg
      exact ⟨n, e, b', p', hp', .inr he, hEv⟩
    | some g =>
      obtain ⟨n, b, S⟩ := g
      exact ⟨n, 0, true || b, _, by omega, .inl rfl, h1 n b S hg⟩
  · exact ⟨_, e, _, p, hp, .inr he, src_get_err bs (p : Int) e bad he⟩
theorem loop_failed (bs : List Int) (hb : AllB bs) (hl : bs.length < 100000000) : ∀ (m p : Nat) (e : Int) (bad : Bool) (a b : Int) (out : List Int), p ≤ 8 * bs.length → (bad = true ∨ e ≠ 0) → out.length + m < 17592186044416 →
    ∃ out' e' b', ∃ p' : Nat, p' ≤ 8 * bs.length ∧ (b' = true ∨ e' ≠ 0) ∧ Ev (fun k => codec_ReadInts.l0 k bs m (p : Int) e bad a b out) (out', (p' : Int), e', b')
  | 0, p, e, bad, a, b, out, hp, hf, ho => ⟨out, e, bad, p, hp, hf, Ev.now _⟩
  | m + 1, p, e, bad, a, b, out, hp, hf, ho => by
    obtain ⟨n, e', b', p', hp', hf', hEv⟩ := src_failed bs hb hl p hp e bad hf
    obtain ⟨out2, e2, b2, p2, hp2, hf2, hEv2⟩ := loop_failed bs hb hl m p' e' b' (wrap64 (a + wrap64 (b + n))) (wrap64 (b + n)) (out ++ [wrap64 (a + wrap64 (b + n))]) hp' hf' (by simp; omega)
    refine ⟨out2, e2, b2, p2, hp2, hf2, ?_⟩
    refine Ev.bind hEv ?_
    exact Ev.congr (fun k => if_pos (by omega)) hEv2
theorem loop_reads (bs : List Int) (hb : AllB bs) (hl : bs.length < 100000000) : ∀ (m p : Nat) (a b : Int) (out : List Int), p ≤ 8 * bs.length → out.length + m < 17592186044416 →
    (∀ l S, rdList m ((unpack bs).drop p) a b = some (l, S) → Ev (fun k => codec_ReadInts.l0 k bs m (p : Int) 0 false a b out) (out ++ l, ((8 * bs.length - S.length : Nat) : Int), 0, false) ∧ (unpack bs).drop (8 * bs.length - S.length) = S ∧ S.length ≤ 8 * bs.length) ∧
    (rdList m ((unpack bs).drop p) a b = none → ∃ out' e' b', ∃ p' : Nat, p' ≤ 8 * bs.length ∧ (b' = true ∨ e' ≠ 0) ∧ Ev (fun k => codec_ReadInts.l0 k bs m (p : Int) 0 false a b out) (out', (p' : Int), e', b'))
  | 0, p, a, b, out, hp, ho => by
    have hul := unpack_length bs
    refine ⟨fun l S h => ?_, fun h => (by cases h)⟩
    simp only [rdList, Option.some.injEq, Prod.mk.injEq] at h
    obtain ⟨rfl, rfl⟩ := h
    rw [List.append_nil, List.length_drop, hul, show 8 * bs.length - (8 * bs.length - p) = p by omega]
    exact ⟨Ev.now _, rfl, by omega⟩
  | m + 1, p, a, b, out, hp, ho => by
    have hul := unpack_length bs
    obtain ⟨g1, g2⟩ := src_get bs hb hl p hp false
    cases hg : getP ((unpack bs).drop p) with
    | none =>
      refine ⟨fun l S h => (by rw [rdList, hg] at h; cases h), fun h => ?_⟩
      obtain ⟨n, e, b', p', hp', he, hEv⟩ := g2 hg
      obtain ⟨out2, e2, b2, p2, hp2, hf2, hEv2⟩ := loop_failed bs hb hl m p' e b' (wrap64 (a + wrap64 (b + n))) (wrap64 (b + n)) (out ++ [wrap64 (a + wrap64 (b + n))]) hp' (.inr he) (by simp; omega)
      refine ⟨out2, e2, b2, p2, hp2, hf2, ?_⟩
      refine Ev.bind hEv ?_
      exact Ev.congr (fun k => if_pos (by omega)) hEv2
    | some g =>
      obtain ⟨n, sh, T⟩ := g
      have hEv := g1 n sh T hg
      obtain ⟨i, hi6, hu, hle, hn, hbb, hSl, hSd⟩ := getP_some hg
      rw [List.length_drop, hul] at hle hSl
      have hdT : (unpack bs).drop (8 * bs.length - T.length) = T := by
        rw [hSd, List.drop_drop]
        congr 1
        rw [List.length_drop, hul]
        omega
      rw [Bool.false_or] at hEv
      cases sh with
      | true =>
        refine ⟨fun l S h => (by rw [rdList, hg, Option.bind_some, if_pos rfl] at h; cases h), fun h => ?_⟩
        obtain ⟨out2, e2, b2, p2, hp2, hf2, hEv2⟩ := loop_failed bs hb hl m (8 * bs.length - T.length) 0 true (wrap64 (a + wrap64 (b + n))) (wrap64 (b + n)) (out ++ [wrap64 (a + wrap64 (b + n))]) (by omega) (.inl rfl) (by simp; omega)
        refine ⟨out2, e2, b2, p2, hp2, hf2, ?_⟩
        refine Ev.bind hEv ?_
        exact Ev.congr (fun k => if_pos (by omega)) hEv2
      | false =>
        obtain ⟨ih1, ih2⟩ := loop_reads bs hb hl m (8 * bs.length - T.length) (wrap64 (a + wrap64 (b + n))) (wrap64 (b + n)) (out ++ [wrap64 (a + wrap64 (b + n))]) (by omega) (by simp; omega)
        rw [hdT] at ih1 ih2
        refine ⟨fun l S h => ?_, fun h => ?_⟩
        · rw [rdList, hg, Option.bind_some, if_neg (by simp)] at h
          obtain ⟨⟨l', S'⟩, hr, h⟩ := Option.bind_eq_some_iff.1 h
          simp only [Option.some.injEq, Prod.mk.injEq] at h
          obtain ⟨rfl, rfl⟩ := h
          obtain ⟨hE, hd⟩ := ih1 l' S' hr
          refine ⟨?_, hd⟩
          refine Ev.bind hEv ?_
          refine Ev.congr (fun k => if_pos (by omega)) ?_
          simp only []
          rw [List.append_assoc, List.singleton_append] at hE
          exact hE
        · rw [rdList, hg, Option.bind_some, if_neg (by simp)] at h
          have hr : rdList m T (wrap64 (a + wrap64 (b + n))) (wrap64 (b + n)) = none := by
            cases hr : rdList m T (wrap64 (a + wrap64 (b + n))) (wrap64 (b + n)) with
            | none => rfl
            | some s => simp only [] at h; rw [hr] at h; cases h
          obtain ⟨out2, e2, b2, p2, hp2, hf2, hEv2⟩ := ih2 hr
          refine ⟨out2, e2, b2, p2, hp2, hf2, ?_⟩
          refine Ev.bind hEv ?_
          exact Ev.congr (fun k => if_pos (by omega)) hEv2
/-- What ReadInts gives. -/
def intsRes (bs : List Int) : List Int × Int := match parseInts bs with
  | some l => (l, 0)
  | none => ([], 2)
theorem read_ints (bs : List Int) (hb : AllB bs) (hl : bs.length < 1000000) : Ev (fun k => codec_ReadInts.f k bs) (intsRes bs) := by
  have hul := unpack_length bs
  obtain ⟨g1, g2⟩ := src_get bs hb (by omega) 0 (by omega) false
  rw [List.drop_zero] at g1 g2
  refine Ev.congr (f := fun k => (codec_source_get.f k bs ((0 : Nat) : Int) 0 false).bind fun r => if r.1 < 0 then some ([], 2) else if 8 * (bs.length : Int) < r.1 then some ([], 2) else
        (codec_ReadInts.l0 k bs r.1.toNat r.2.1 r.2.2.1 r.2.2.2 0 0 []).bind fun s => if s.2.2.2 = true then some ([], 2) else (bits_Reader_End.f k bs s.2.1 s.2.2.1).bind fun e => if e.1 = 0 then some (s.1, 0) else some ([], 2)) (fun k => ?_) ?_
  · rw [codec_ReadInts.f, if_pos (by omega)]
    rfl
  -- what happens behind a failed source
  have hfail : ∀ (n e : Int) (b' : Bool) (p' : Nat), p' ≤ 8 * bs.length → (b' = true ∨ e ≠ 0) → Ev (fun k => if n < 0 then some (([] : List Int), (2 : Int)) else if 8 * (bs.length : Int) < n then some ([], 2) else
        (codec_ReadInts.l0 k bs n.toNat (p' : Int) e b' 0 0 []).bind fun s => if s.2.2.2 = true then some ([], 2) else (bits_Reader_End.f k bs s.2.1 s.2.2.1).bind fun e => if e.1 = 0 then some (s.1, 0) else some ([], 2)) ([], 2) := by
    intro n e b' p' hp' hf
    by_cases c1 : n < 0
    · exact Ev.congr (fun k => if_pos c1) (Ev.now _)
    refine Ev.congr (fun k => if_neg c1) ?_
    by_cases c2 : 8 * (bs.length : Int) < n
    · exact Ev.congr (fun k => if_pos c2) (Ev.now _)
    refine Ev.congr (fun k => if_neg c2) ?_
    obtain ⟨out2, e2, b2, p2, hp2, hf2, hEv2⟩ := loop_failed bs hb (by omega) n.toNat p' e b' 0 0 [] hp' hf (by simp; omega)
    refine Ev.bind hEv2 ?_
    cases b2 with
    | true => exact Ev.congr (fun k => if_pos rfl) (Ev.now _)
    | false =>
      have he2 : e2 ≠ 0 := by rcases hf2 with h | h; cases h; exact h
      refine Ev.congr (f := fun _ => some ([], 2)) (fun k => ?_) (Ev.now _)
      simp only [Bool.false_eq_true, if_false]
      rw [bits_Reader_End.f, if_neg he2, Option.bind_some, if_neg he2]
  cases hg : getP (unpack bs) with
  | none =>
    have hres : intsRes bs = ([], 2) := by simp only [intsRes, parseInts, hg, Option.bind_none]
    rw [hres]
    obtain ⟨n, e, b', p', hp', he, hEv⟩ := g2 hg
    exact Ev.bind hEv (hfail n e b' p' hp' (.inr he))
  | some g =>
    obtain ⟨n, sh, T⟩ := g
    have hEv := g1 n sh T hg
    rw [Bool.false_or] at hEv
    cases sh with
    | true =>
      have hres : intsRes bs = ([], 2) := by simp only [intsRes, parseInts, hg, Option.bind_some, true_or, if_true]
      rw [hres]
      exact Ev.bind hEv (hfail n 0 true _ (by omega) (.inl rfl))
    | false =>
      refine Ev.bind hEv ?_
      simp only []
      by_cases c1 : n < 0
      · have hres : intsRes bs = ([], 2) := by simp only [intsRes, parseInts, hg, Option.bind_some, c1, true_or, or_true, if_true]
        rw [hres]
        exact Ev.congr (fun k => if_pos c1) (Ev.now _)
      by_cases c2 : 8 * (bs.length : Int) < n
      · have hres : intsRes bs = ([], 2) := by simp only [intsRes, parseInts, hg, Option.bind_some, c2, or_true, if_true]
        rw [hres]
        refine Ev.congr (fun k => if_neg c1) ?_
        exact Ev.congr (fun k => if_pos c2) (Ev.now _)
      refine Ev.congr (fun k => if_neg c1) ?_
      refine Ev.congr (fun k => if_neg c2) ?_
      obtain ⟨i, hi6, hu, hle, hn, hbb, hSl, hSd⟩ := getP_some hg
      rw [hul] at hle hSl
      have hdT : (unpack bs).drop (8 * bs.length - T.length) = T := by
        rw [hSd]
        congr 1
        rw [List.length_drop, hul]
        omega
      obtain ⟨l1, l2⟩ := loop_reads bs hb (by omega) n.toNat (8 * bs.length - T.length) 0 0 [] (by omega) (by simp; omega)
      rw [hdT] at l1 l2
      have hpi : parseInts bs = (rdList n.toNat T 0 0).bind fun s => if fills s.2 = true then some s.1 else none := by
        rw [parseInts, hg, Option.bind_some, if_neg (by simp only [Bool.false_eq_true, false_or]; omega)]
      cases hr : rdList n.toNat T 0 0 with
      | none =>
        have hres : intsRes bs = ([], 2) := by simp only [intsRes, hpi, hr, Option.bind_none]
        rw [hres]
        obtain ⟨out2, e2, b2, p2, hp2, hf2, hEv2⟩ := l2 hr
        refine Ev.bind hEv2 ?_
        cases b2 with
        | true => exact Ev.congr (fun k => if_pos rfl) (Ev.now _)
        | false =>
          have he2 : e2 ≠ 0 := by rcases hf2 with h | h; cases h; exact h
          refine Ev.congr (f := fun _ => some ([], 2)) (fun k => ?_) (Ev.now _)
          simp only [Bool.false_eq_true, if_false]
          rw [bits_Reader_End.f, if_neg he2, Option.bind_some, if_neg he2]
      | some s =>
        obtain ⟨l, S⟩ := s
        obtain ⟨hE, hdS, hSle⟩ := l1 l S hr
        rw [List.nil_append] at hE
        refine Ev.bind hE ?_
        obtain ⟨e, hEe, hiff⟩ := rd_end bs hb (by omega) (8 * bs.length - S.length) (by omega)
        rw [hdS] at hiff
        refine Ev.congr (fun k => if_neg (by simp)) ?_
        simp only []
        refine Ev.bind hEe ?_
        by_cases hf : fills S = true
        · have hres : intsRes bs = (l, 0) := by simp only [intsRes, hpi, hr, Option.bind_some, hf, if_true]
          rw [hres]
          exact Ev.congr (fun k => if_pos (hiff.2 hf)) (Ev.now _)
        · have hres : intsRes bs = ([], 2) := by simp only [intsRes, hpi, hr, Option.bind_some, hf]; rfl
          rw [hres]
          exact Ev.congr (fun k => if_neg (fun h => hf (hiff.1 h))) (Ev.now _)
end Go.Proofs.YtblbieenfghbdaaDoor.D
