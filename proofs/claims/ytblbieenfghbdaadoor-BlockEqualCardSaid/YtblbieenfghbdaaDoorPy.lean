/- The plain law of the reference's Same for claims; encodings of small claims tell the claims. -/
import Derived.Test.YtblbieenfghbdaaDoorPm
import Derived.Test.YtblbieenfghbdaaDoorPo
import Derived.Test.YtblbieenfghbdaaDoorExA1
namespace Go.Proofs.YtblbieenfghbdaaDoor.E
open Go.RowKit Go.Proofs.YtblbieenfghbdaaDoor.D Go.Proofs.YtblbieenfghbdaaDoorW.PrintWords Go.Proofs.YtblbieenfghbdaaDoorW.PrintLast Go.Proofs.YtblbieenfghbdaaDoorW.PrintMore
set_option linter.unusedVariables false
set_option linter.unusedSimpArgs false
theorem dropS_step {a b : List S44} {i : Nat} (ha : i < a.length) (hb : i < b.length) :
    (a.drop i = b.drop i) ↔ (a[i] = b[i] ∧ a.drop (i + 1) = b.drop (i + 1)) := by
  rw [List.drop_eq_getElem_cons ha, List.drop_eq_getElem_cons hb, List.cons.injEq]
theorem ne4 (c d : S44) : ((!(c.f0 == d.f0) || (!(c.f1 == d.f1) || (!(c.f2 == d.f2) || (!(c.f3 == d.f3))))) = true) ↔ c ≠ d := by
  constructor
  · intro h e
    subst e
    simp at h
  · intro h
    rcases Bool.eq_false_or_eq_true (!(c.f0 == d.f0) || (!(c.f1 == d.f1) || (!(c.f2 == d.f2) || (!(c.f3 == d.f3))))) with q | q
    · exact q
    · simp only [Bool.or_eq_false_iff, Bool.not_eq_false', beq_iff_eq] at q
      exact absurd (SC.ext q.1 q.2.1 q.2.2.1 q.2.2.2) h
theorem same_claims (a b : List S44) (ha : a.length < 4611686018427387904) : ∃ r, Ev (fun k => intervalmonref15_Same.f k a b) r ∧ (r = true ↔ a = b) := by
  have key : ∃ r, Ev (fun k => intervalmonref11_Same.f k a b) r ∧ (r = true ↔ a = b) := by
    by_cases hl : a.length = b.length
    · have key : ∀ (d i : Nat), i + d = a.length → ∃ r, Ev (fun k => intervalmonref11_Same.l0 k a b (i : Int)) r ∧ (r = true ↔ a.drop i = b.drop i) := by
        intro d
        induction d with
        | zero =>
          intro i hi
          refine ⟨true, ?_, ?_⟩
          · refine Ev.step (fun k => ?_) (Ev.now _)
            rw [intervalmonref11_Same.l0, if_neg (by omega)]
          · rw [List.drop_eq_nil_of_le (by omega), List.drop_eq_nil_of_le (by omega)]
            simp
        | succ d ih =>
          intro i hi
          have hlt : i < a.length := by omega
          have hltb : i < b.length := by omega
          have hw : wrap64 ((i : Int) + 1) = ((i + 1 : Nat) : Int) := by rw [wrap_at _ (by omega) (by omega)]; omega
          have hs := dropS_step hlt hltb
          by_cases c : a[i] = b[i]
          · obtain ⟨r, h, hr⟩ := ih (i + 1) (by omega)
            refine ⟨r, ?_, hr.trans ⟨fun h => hs.2 ⟨c, h⟩, fun h => (hs.1 h).2⟩⟩
            refine Ev.step (fun k => ?_) h
            rw [intervalmonref11_Same.l0, if_pos (by omega), if_pos (by omega), if_pos (by omega), rdT_at hlt, rdT_at hltb, if_neg (fun h => (ne4 _ _).1 h c), hw]
          · refine ⟨false, ?_, ⟨fun h => (by cases h), fun h => absurd (hs.1 h).1 c⟩⟩
            refine Ev.step (fun k => ?_) (Ev.now _)
            rw [intervalmonref11_Same.l0, if_pos (by omega), if_pos (by omega), if_pos (by omega), rdT_at hlt, rdT_at hltb, if_pos ((ne4 _ _).2 c)]
      obtain ⟨r, h, hr⟩ := key a.length 0 (by omega)
      rw [List.drop_zero, List.drop_zero] at hr
      refine ⟨r, Ev.congr (fun k => ?_) h, hr⟩
      rw [intervalmonref11_Same.f, if_pos (by omega)]
      rfl
    · refine ⟨false, Ev.congr (fun k => ?_) (Ev.now _), ⟨fun h => (by cases h), fun h => absurd (by rw [h]) hl⟩⟩
      rw [intervalmonref11_Same.f, if_neg (by omega)]
  obtain ⟨r, h, hr⟩ := key
  refine ⟨r, ?_, hr⟩
  show Ev (fun k => (intervalmonref11_Same.f k a b).bind fun t200 => (some t200)) r
  exact Ev.bind h (Ev.now _)
theorem claims_inj {a b : List S44} (ha : ∀ c, c ∈ a → encB c = true) (hb : ∀ c, c ∈ b → encB c = true) (la : a.length ≤ 4096) (lb : b.length ≤ 4096) (h : claimsOf a = claimsOf b) : a = b := by
  have h1 := parse_claims a ha la
  rw [h, parse_claims b hb lb] at h1
  exact (Option.some.inj h1).symm
/-- What the card's four calls come to: the encoding of small claims, read back. -/
theorem claims_back {l : List S44} (h : ∀ c, c ∈ l → encB c = true) (hl : l.length ≤ 4096) : encRes l = (claimsOf l, 0) ∧ claimRes (claimsOf l) = (l, 0) := by
  refine ⟨?_, ?_⟩
  · rw [encRes, if_neg (by omega), if_pos (List.all_eq_true.2 h)]
  · rw [claimRes, parse_claims l h hl]
end Go.Proofs.YtblbieenfghbdaaDoor.E
