/- The plain laws of the reference's ReadInts, and of the comparing functions in general. -/
import Derived.Test.YtblbieenfghbdaaDoorPh
namespace Go.Proofs.YtblbieenfghbdaaDoor.D
open Go.RowKit Go.Proofs.YtblbieenfghbdaaDoorW.PrintWords Go.Proofs.YtblbieenfghbdaaDoorW.PrintLast Go.Proofs.YtblbieenfghbdaaDoorW.PrintMore
set_option linter.unusedVariables false
set_option linter.unusedSimpArgs false
theorem drop_eq_step {a b : List Int} {i : Nat} (hlt : i < a.length) (hltb : i < b.length) : (a.drop i = b.drop i) ↔ (rd a (i : Int) = rd b (i : Int) ∧ a.drop (i + 1) = b.drop (i + 1)) := by
  rw [List.drop_eq_getElem_cons hlt, List.drop_eq_getElem_cons hltb]
  have ea : rd a (i : Int) = a[i] := by rw [rd, Int.toNat_natCast, List.getD_eq_getElem?_getD, List.getElem?_eq_getElem hlt]; rfl
  have eb : rd b (i : Int) = b[i] := by rw [rd, Int.toNat_natCast, List.getD_eq_getElem?_getD, List.getElem?_eq_getElem hltb]; rfl
  rw [ea, eb, List.cons.injEq]
theorem sameBytes_ev (a b : List Int) (ha : a.length < 4611686018427387904) : Ev (fun k => intervalmonref01_SameBytes.f k a b) (decide (a = b)) := by
  by_cases hl : a.length = b.length
  · have key : ∀ (d i : Nat), i + d = a.length → Ev (fun k => intervalmonref01_SameBytes.l0 k a b (i : Int)) (decide (a.drop i = b.drop i)) := by
      intro d
      induction d with
      | zero =>
        intro i hi
        rw [List.drop_eq_nil_of_le (by omega), List.drop_eq_nil_of_le (by omega), decide_eq_true rfl]
        refine Ev.step (fun k => ?_) (Ev.now _)
        rw [intervalmonref01_SameBytes.l0, if_neg (by omega)]
      | succ d ih =>
        intro i hi
        have hlt : i < a.length := by omega
        have hltb : i < b.length := by omega
        have hw : wrap64 ((i : Int) + 1) = ((i + 1 : Nat) : Int) := by rw [wrap_at _ (by omega) (by omega)]; omega
        have hs := drop_eq_step hlt hltb
        by_cases c : rd a (i : Int) = rd b (i : Int)
        · have h := ih (i + 1) (by omega)
          have e : decide (a.drop i = b.drop i) = decide (a.drop (i + 1) = b.drop (i + 1)) := by
            rw [decide_eq_decide, hs]
            exact ⟨fun h => h.2, fun h => ⟨c, h⟩⟩
          rw [e]
          refine Ev.step (fun k => ?_) h
          rw [intervalmonref01_SameBytes.l0, if_pos (by omega), if_pos (by omega), if_pos (by omega), if_pos c, hw]
        · rw [decide_eq_false (fun h => c (hs.1 h).1)]
          refine Ev.step (fun k => ?_) (Ev.now _)
          rw [intervalmonref01_SameBytes.l0, if_pos (by omega), if_pos (by omega), if_pos (by omega), if_neg c]
    have h := key a.length 0 (by omega)
    rw [List.drop_zero, List.drop_zero] at h
    refine Ev.congr (fun k => ?_) h
    rw [intervalmonref01_SameBytes.f, if_pos (by omega)]
    rfl
  · rw [decide_eq_false (fun h => hl (by rw [h]))]
    refine Ev.congr (fun k => ?_) (Ev.now _)
    rw [intervalmonref01_SameBytes.f, if_neg (by omega)]
theorem sameInts_ev (a b : List Int) (ha : a.length < 4611686018427387904) : Ev (fun k => intervalmonref01_SameInts.f k a b) (decide (a = b)) := by
  by_cases hl : a.length = b.length
  · have key : ∀ (d i : Nat), i + d = a.length → Ev (fun k => intervalmonref01_SameInts.l0 k a b (i : Int)) (decide (a.drop i = b.drop i)) := by
      intro d
      induction d with
      | zero =>
        intro i hi
        rw [List.drop_eq_nil_of_le (by omega), List.drop_eq_nil_of_le (by omega), decide_eq_true rfl]
        refine Ev.step (fun k => ?_) (Ev.now _)
        rw [intervalmonref01_SameInts.l0, if_neg (by omega)]
      | succ d ih =>
        intro i hi
        have hlt : i < a.length := by omega
        have hltb : i < b.length := by omega
        have hw : wrap64 ((i : Int) + 1) = ((i + 1 : Nat) : Int) := by rw [wrap_at _ (by omega) (by omega)]; omega
        have hs := drop_eq_step hlt hltb
        by_cases c : rd a (i : Int) = rd b (i : Int)
        · have h := ih (i + 1) (by omega)
          have e : decide (a.drop i = b.drop i) = decide (a.drop (i + 1) = b.drop (i + 1)) := by
            rw [decide_eq_decide, hs]
            exact ⟨fun h => h.2, fun h => ⟨c, h⟩⟩
          rw [e]
          refine Ev.step (fun k => ?_) h
          rw [intervalmonref01_SameInts.l0, if_pos (by omega), if_pos (by omega), if_pos (by omega), if_pos c, hw]
        · rw [decide_eq_false (fun h => c (hs.1 h).1)]
          refine Ev.step (fun k => ?_) (Ev.now _)
          rw [intervalmonref01_SameInts.l0, if_pos (by omega), if_pos (by omega), if_pos (by omega), if_neg c]
    have h := key a.length 0 (by omega)
    rw [List.drop_zero, List.drop_zero] at h
    refine Ev.congr (fun k => ?_) h
    rw [intervalmonref01_SameInts.f, if_pos (by omega)]
    rfl
  · rw [decide_eq_false (fun h => hl (by rw [h]))]
    refine Ev.congr (fun k => ?_) (Ev.now _)
    rw [intervalmonref01_SameInts.f, if_neg (by omega)]
theorem ref_loop (L : List Bool) (hL : L.length < 1000000000) (x0 : List Int) : ∀ (m p : Nat) (e : Int) (a b : Int) (out : List Int), p ≤ L.length → e = 0 → out.length + m < 17592186044416 →
    (∀ l S res, rdList m (L.drop p) a b = some (l, S) → Ev (fun k => intervalmonref15_ReadInts.e k x0 (out ++ l)) res → Ev (fun k => intervalmonref15_ReadInts.l0 k L x0 m (p : Int) e a b out) res) ∧
    (rdList m (L.drop p) a b = none → Ev (fun k => intervalmonref15_ReadInts.l0 k L x0 m (p : Int) e a b out) ([], 2))
  | 0, p, e, a, b, out, hp, he, ho => by
    refine ⟨fun l S res h hE => ?_, fun h => (by cases h)⟩
    simp only [rdList, Option.some.injEq, Prod.mk.injEq] at h
    obtain ⟨rfl, rfl⟩ := h
    rw [List.append_nil] at hE
    exact hE
  | m + 1, p, e, a, b, out, hp, he, ho => by
    subst he
    obtain ⟨g1, g2⟩ := ref_read L hL p hp
    cases hg : getP (L.drop p) with
    | none =>
      refine ⟨fun l S res h => (by rw [rdList, hg] at h; cases h), fun h => ?_⟩
      obtain ⟨n, p', e, hEv⟩ := g2 hg
      refine Ev.bind hEv ?_
      exact Ev.congr (fun k => if_neg (by simp)) (Ev.now _)
    | some g =>
      obtain ⟨n, sh, T⟩ := g
      have hEv := g1 n sh T hg
      obtain ⟨i, hi6, hu, hle, hn, hbb, hSl, hSd⟩ := getP_some hg
      rw [List.length_drop] at hle hSl
      have hdT : L.drop (L.length - T.length) = T := by
        rw [hSd, List.drop_drop]
        congr 1
        rw [List.length_drop]
        omega
      cases sh with
      | true =>
        refine ⟨fun l S res h => (by rw [rdList, hg, Option.bind_some, if_pos rfl] at h; cases h), fun h => ?_⟩
        refine Ev.bind hEv ?_
        exact Ev.congr (fun k => if_neg (by simp)) (Ev.now _)
      | false =>
        obtain ⟨ih1, ih2⟩ := ref_loop L hL x0 m (L.length - T.length) 0 (wrap64 (a + wrap64 (b + n))) (wrap64 (b + n)) (out ++ [wrap64 (a + wrap64 (b + n))]) (by omega) rfl (by simp; omega)
        rw [hdT] at ih1 ih2
        refine ⟨fun l S res h hE => ?_, fun h => ?_⟩
        · rw [rdList, hg, Option.bind_some, if_neg (by simp)] at h
          obtain ⟨⟨l', S'⟩, hr, h⟩ := Option.bind_eq_some_iff.1 h
          simp only [Option.some.injEq, Prod.mk.injEq] at h
          obtain ⟨rfl, rfl⟩ := h
          refine Ev.bind hEv ?_
          refine Ev.congr (fun k => if_pos (by simp)) ?_
          refine Ev.congr (fun k => if_pos (by omega)) ?_
          refine ih1 l' S' res hr ?_
          rw [List.append_assoc, List.singleton_append]
          exact hE
        · rw [rdList, hg, Option.bind_some, if_neg (by simp)] at h
          have hr : rdList m T (wrap64 (a + wrap64 (b + n))) (wrap64 (b + n)) = none := by
            cases hr : rdList m T (wrap64 (a + wrap64 (b + n))) (wrap64 (b + n)) with
            | none => rfl
            | some s => simp only [] at h; rw [hr] at h; cases h
          refine Ev.bind hEv ?_
          refine Ev.congr (fun k => if_pos (by simp)) ?_
          exact Ev.congr (fun k => if_pos (by omega)) (ih2 hr)
theorem ref_read_ints (bs : List Int) (hb : AllB bs) (hl : bs.length < 100000) : Ev (fun k => intervalmonref15_ReadInts.f k bs) (intsRes bs) := by
  have hul := unpack_length bs
  obtain ⟨g1, g2⟩ := ref_read (unpack bs) (by omega) 0 (by omega)
  rw [List.drop_zero] at g1 g2
  refine Ev.bind (ref_unpack bs hb (by omega)) ?_
  cases hg : getP (unpack bs) with
  | none =>
    have hres : intsRes bs = ([], 2) := by simp only [intsRes, parseInts, hg, Option.bind_none]
    rw [hres]
    obtain ⟨n, p', e, hEv⟩ := g2 hg
    refine Ev.bind hEv ?_
    exact Ev.congr (fun k => if_neg (by simp)) (Ev.now _)
  | some g =>
    obtain ⟨n, sh, T⟩ := g
    have hEv := g1 n sh T hg
    refine Ev.bind hEv ?_
    cases sh with
    | true =>
      have hres : intsRes bs = ([], 2) := by simp only [intsRes, parseInts, hg, Option.bind_some, true_or, if_true]
      rw [hres]
      exact Ev.congr (fun k => if_neg (by simp)) (Ev.now _)
    | false =>
      refine Ev.congr (fun k => if_pos (by simp)) ?_
      simp only []
      by_cases c1 : n < 0
      · have hres : intsRes bs = ([], 2) := by simp only [intsRes, parseInts, hg, Option.bind_some, c1, true_or, or_true, if_true]
        rw [hres]
        exact Ev.congr (fun k => if_pos c1) (Ev.now _)
      by_cases c2 : 8 * (bs.length : Int) < n
      · have hres : intsRes bs = ([], 2) := by simp only [intsRes, parseInts, hg, Option.bind_some, c2, or_true, if_true]
        rw [hres]
        refine Ev.congr (fun k => if_neg c1) ?_
        exact Ev.congr (fun k => if_pos (by omega)) (Ev.now _)
      refine Ev.congr (fun k => if_neg c1) ?_
      refine Ev.congr (fun k => if_neg (by omega)) ?_
      obtain ⟨hI, j, hj, hjl, hjS, hcf, hct⟩ := getP_spec _ n false T hg
      obtain ⟨i, hi6, hu, hle, hn, hbb, hSl, hSd⟩ := getP_some hg
      rw [hul] at hle hSl
      have hdT : (unpack bs).drop ((unpack bs).length - T.length) = T := by
        rw [hSd]
        congr 1
        rw [List.length_drop]
        omega
      obtain ⟨l1, l2⟩ := ref_loop (unpack bs) (by omega) bs n.toNat ((unpack bs).length - T.length) 0 0 0 [] (by omega) rfl (by simp; omega)
      rw [hdT] at l1 l2
      have hpi : parseInts bs = (rdList n.toNat T 0 0).bind fun s => if fills s.2 = true then some s.1 else none := by
        rw [parseInts, hg, Option.bind_some, if_neg (by simp only [Bool.false_eq_true, false_or]; omega)]
      cases hr : rdList n.toNat T 0 0 with
      | none =>
        have hres : intsRes bs = ([], 2) := by simp only [intsRes, hpi, hr, Option.bind_none]
        rw [hres]
        exact l2 hr
      | some s =>
        obtain ⟨l, S⟩ := s
        obtain ⟨h1, h2, h3⟩ := rdList_spec _ T 0 0 l S hr (by unfold I64; omega) (by unfold I64; omega)
        refine l1 l S _ hr ?_
        rw [List.nil_append]
        have htail := tail_iff (bs := bs) (β := codeBits (l.length : Int) ++ trendBits 0 0 l) (S := S) hb (by rw [hcf rfl, h3, List.append_assoc, h1, Int.toNat_of_nonneg (by omega)])
        refine Ev.bind (ref_ints l h2 (by omega)) ?_
        have hil : (intsOf l).length < 4611686018427387904 := by
          have hp := (packL_packed (codeBits (l.length : Int) ++ trendBits 0 0 l)).length
          have h70 := trendBits_le l 0 0
          have hc70 := codeBits_length (l.length : Int)
          rw [List.length_append] at hp
          simp only [padN] at hp
          simp only [intsOf]
          omega
        refine Ev.bind (sameBytes_ev (intsOf l) bs hil) ?_
        by_cases hf : fills S = true
        · have hres : intsRes bs = (l, 0) := by simp only [intsRes, hpi, hr, Option.bind_some, hf, if_true]
          rw [hres]
          exact Ev.congr (fun k => if_pos (decide_eq_true (htail.2 hf).symm)) (Ev.now _)
        · have hres : intsRes bs = ([], 2) := by simp only [intsRes, hpi, hr, Option.bind_some, hf]; rfl
          rw [hres]
          exact Ev.congr (fun k => if_neg (by rw [decide_eq_true_eq]; exact fun h => hf (htail.1 h.symm))) (Ev.now _)
end Go.Proofs.YtblbieenfghbdaaDoor.D
