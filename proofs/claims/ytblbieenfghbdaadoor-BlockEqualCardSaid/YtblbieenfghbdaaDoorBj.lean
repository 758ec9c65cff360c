/- The plain laws of block.Equal and of the reference's Same for blocks; encodings of claims that differ, differ. -/
import Derived.Test.YtblbieenfghbdaaDoorPy
import Derived.Test.YtblbieenfghbdaaDoorFxA2
import Derived.Test.YtblbieenfghbdaaDoorFxC0
namespace Go.Proofs.YtblbieenfghbdaaDoor.F
open Go.RowKit Go.Proofs.YtblbieenfghbdaaDoor.D Go.Proofs.YtblbieenfghbdaaDoor.E Go.Proofs.YtblbieenfghbdaaDoorW.PrintWords Go.Proofs.YtblbieenfghbdaaDoorW.PrintLast Go.Proofs.YtblbieenfghbdaaDoorW.PrintMore
set_option linter.unusedVariables false
set_option linter.unusedSimpArgs false
theorem api_claims (a b : List S44) (ha : a.length < 4611686018427387904) : ∃ r, Ev (fun k => api_Claim.f k a b) r ∧ (r = true ↔ a = b) := by
  by_cases hl : a.length = b.length
  · have key : ∀ (d i : Nat), i + d = a.length → ∃ r, Ev (fun k => api_Claim.l0 k a b (a.length : Int) (i : Int)) r ∧ (r = true ↔ a.drop i = b.drop i) := by
      intro d
      induction d with
      | zero =>
        intro i hi
        refine ⟨true, ?_, ?_⟩
        · refine Ev.step (fun k => ?_) (Ev.now _)
          rw [api_Claim.l0, if_neg (by omega)]
        · rw [List.drop_eq_nil_of_le (by omega), List.drop_eq_nil_of_le (by omega)]
          simp
      | succ d ih =>
        intro i hi
        have hlt : i < a.length := by omega
        have hltb : i < b.length := by omega
        have hw : wrap64 ((i : Int) + 1) = ((i + 1 : Nat) : Int) := by rw [wrap_at _ (by omega) (by omega)]; omega
        have hs := dropS_step hlt hltb
        by_cases c : a[i] = b[i]
        · obtain ⟨r, h, hr⟩ := ih (i + 1) (by omega)
          refine ⟨r, ?_, hr.trans ⟨fun h => hs.2 ⟨c, h⟩, fun h => (hs.1 h).2⟩⟩
          refine Ev.step (fun k => ?_) h
          rw [api_Claim.l0, if_pos (by omega), if_pos (by omega), if_pos (by omega), if_pos (by omega), rdT_at hlt, rdT_at hltb, if_neg (fun h => (ne4 _ _).1 h c), hw]
        · refine ⟨false, ?_, ⟨fun h => (by cases h), fun h => absurd (hs.1 h).1 c⟩⟩
          refine Ev.step (fun k => ?_) (Ev.now _)
          rw [api_Claim.l0, if_pos (by omega), if_pos (by omega), if_pos (by omega), if_pos (by omega), rdT_at hlt, rdT_at hltb, if_pos ((ne4 _ _).2 c)]
    obtain ⟨r, h, hr⟩ := key a.length 0 (by omega)
    rw [List.drop_zero, List.drop_zero] at hr
    refine ⟨r, Ev.congr (fun k => ?_) h, hr⟩
    rw [api_Claim.f, if_pos (by omega)]
    rfl
  · refine ⟨false, Ev.congr (fun k => ?_) (Ev.now _), ⟨fun h => (by cases h), fun h => absurd (by rw [h]) hl⟩⟩
    rw [api_Claim.f, if_neg (by omega)]
open Classical in
/-- Two blocks are the same, field by field. -/
noncomputable def sameV (s k p c : Int) (a : List S44) (s' k' p' c' : Int) (a' : List S44) : Bool := decide (s = s' ∧ k = k' ∧ p = p' ∧ c = c' ∧ a = a')
theorem bool_of_iff {r : Bool} {p : Prop} [Decidable p] (h : r = true ↔ p) : r = decide p := by
  cases r
  · exact (decide_eq_false (fun hp => by have := h.2 hp; cases this)).symm
  · exact (decide_eq_true (h.1 rfl)).symm
open Classical in
theorem block_eq (s k p c : Int) (a : List S44) (s' k' p' c' : Int) (a' : List S44) (ha : a.length < 4611686018427387904) : Ev (fun n => block_Equal.f n s k p c a s' k' p' c' a') (sameV s k p c a s' k' p' c' a') := by
  unfold sameV block_Equal.f
  by_cases h1 : s = s'
  · by_cases h2 : k = k'
    · by_cases h3 : p = p'
      · by_cases h4 : c = c'
        · obtain ⟨r, h, hr⟩ := api_claims a a' ha
          simp only [h1, h2, h3, h4, if_true, true_and]
          rw [← bool_of_iff hr]
          exact Ev.bind h (Ev.now _)
        · simp only [h1, h2, h3, h4, if_true, if_false, true_and, false_and, decide_false]; exact Ev.now _
      · simp only [h1, h2, h3, if_true, if_false, true_and, false_and, decide_false]; exact Ev.now _
    · simp only [h1, h2, if_true, if_false, true_and, false_and, decide_false]; exact Ev.now _
  · simp only [h1, if_false, false_and, decide_false]; exact Ev.now _
open Classical in
theorem ref_same18 (s k p c : Int) (a : List S44) (s' k' p' c' : Int) (a' : List S44) (ha : a.length < 4611686018427387904) : Ev (fun n => intervalmonref18_Same.f n s k p c a s' k' p' c' a') (sameV s k p c a s' k' p' c' a') := by
  unfold sameV intervalmonref18_Same.f
  by_cases h1 : s = s'
  · by_cases h2 : k = k'
    · by_cases h3 : p = p'
      · by_cases h4 : c = c'
        · obtain ⟨r, h, hr⟩ := same_claims a a' ha
          simp only [h1, h2, h3, h4, if_true, true_and]
          rw [← bool_of_iff hr]
          exact Ev.bind h (Ev.now _)
        · simp only [h1, h2, h3, h4, if_true, if_false, true_and, false_and, decide_false]; exact Ev.now _
      · simp only [h1, h2, h3, if_true, if_false, true_and, false_and, decide_false]; exact Ev.now _
    · simp only [h1, h2, if_true, if_false, true_and, false_and, decide_false]; exact Ev.now _
  · simp only [h1, if_false, false_and, decide_false]; exact Ev.now _
theorem sameV_self (s k p c : Int) (a : List S44) : sameV s k p c a s k p c a = true := by simp [sameV]
theorem sameV_ne (s k p c : Int) {a b : List S44} (h : a ≠ b) : sameV s k p c a s k p c b = false := by simp [sameV, h]
/-- Claims that differ from encodable ones have other bytes. -/
theorem enc_ne {a b : List S44} (hne : a ≠ b) (h0 : a ≠ []) (h : ∀ c, c ∈ a → encB c = true) (hl : a.length ≤ 4096) : (encRes a).1 ≠ (encRes b).1 := by
  obtain ⟨h1, h2⟩ := claims_back h hl
  rw [h1]
  intro e
  have e' : claimsOf a = (encRes b).1 := e
  unfold encRes at e'
  have hnil : claimsOf a ≠ [] := by
    intro e2
    rw [e2] at h2
    have e3 : (claimRes []).2 = 2 := by kernel_rfl
    rw [h2] at e3
    cases e3
  split at e'
  · exact hnil e'
  · rename_i hb
    split at e'
    · rename_i hall
      exact hne (claims_inj h (List.all_eq_true.1 hall) hl (by omega) e')
    · exact hnil e'
end Go.Proofs.YtblbieenfghbdaaDoor.F
