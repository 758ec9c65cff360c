/- The plain law of CodecDict: for every list of strings the function gives true. -/
import Derived.Test.YtblbieenfghbdaaDoorPu
import Derived.Test.YtblbieenfghbdaaDoorPl
import Derived.Test.YtblbieenfghbdaaDoorDxB1
namespace Go.Proofs.YtblbieenfghbdaaDoor.D
open Go.RowKit Go.Proofs.YtblbieenfghbdaaDoorW.PrintWords
theorem codecDict_true (l0 : List ByteArray) (a1 a2 : Int) (hsz : ∀ s, s ∈ l0 → s.size ≤ maxLen) : ∃ k, intervalmonlaw15_CodecDict.f k l0 a1 a2 = some true := by
  obtain ⟨m, hm⟩ : ∃ m, mn (l0.length : Int) 30 = m := ⟨_, rfl⟩
  have hm0 : 0 ≤ m := by rw [← hm]; simp only [mn]; split <;> omega
  have hm1 : m ≤ (l0.length : Int) := by rw [← hm]; simp only [mn]; split <;> omega
  have hm2 : m ≤ 30 := by rw [← hm]; simp only [mn]; split <;> omega
  obtain ⟨own, hown⟩ : ∃ own, l0.take m.toNat = own := ⟨_, rfl⟩
  have hol : own.length ≤ 30 := by rw [← hown, List.length_take]; omega
  have hos : ∀ s, s ∈ own → s.size ≤ maxLen := fun s hs => hsz s (List.mem_of_mem_take (hown ▸ hs))
  obtain ⟨ws, out, hfold⟩ : ∃ ws out, own.foldl dictStep ([], []) = (ws, out) := ⟨_, _, rfl⟩
  have hD : codec_Dict.f own = some (ws, out) := by rw [codec_Dict.f, if_pos ⟨by omega, hos⟩, hfold]
  have hB := back_all own
  rw [hfold] at hB
  have hbl : out.length = own.length := by rw [← hB.back]; simp
  have hwl : ws.length ≤ 30 := by have := hB.len; simp at this; omega
  obtain ⟨K1, h1⟩ := ref_dict own (by omega)
  rw [hfold] at h1
  obtain ⟨K2, h2⟩ := undict_ok ws out (by omega) out [] [] rfl rfl hB.range
  rw [List.nil_append, hB.back] at h2
  have hrg : ∀ i, i ∈ out → 0 ≤ i ∧ i < (own.length : Int) := fun i hi => by have := hB.range i hi; have := hB.len; omega
  have hy : (out ++ [a2]).length < 1000000 := by simp; omega
  have tail : ∃ K, ∀ k, K ≤ k → intervalmonlaw15_CodecDict.j0 (k + 2) a2 own out false = some true := by
    by_cases hbad : a2 < 0 ∨ (own.length : Int) ≤ a2
    · obtain ⟨K3, h3⟩ := undict_bad own (out ++ [a2]) hy a2 hbad out [] [] rfl rfl hrg
      refine ⟨K3 + 80, fun k hk => ?_⟩
      have hj1 : intervalmonlaw15_CodecDict.j1 (k + 1) a2 own (out ++ [a2]) [] 1 true = some true := by
        rw [intervalmonlaw15_CodecDict.j1, if_pos rfl, if_pos rfl, if_pos (show (([] : List ByteArray).length : Int) = 0 from rfl), lives_true k (by omega)]
        rfl
      rw [intervalmonlaw15_CodecDict.j0, if_neg (by decide), if_pos (by omega), Option.bind_some, codec_Undict.f]
      have h3' := h3 (k + 1) (by omega)
      simp only [List.length_nil] at h3'
      rw [show ((0 : Nat) : Int) = 0 from rfl] at h3'
      rw [h3', Option.bind_some]
      by_cases h : a2 < 0
      · rw [if_pos h]; exact hj1
      · rw [if_neg h, show decide (a2 ≥ (own.length : Int)) = true from decide_eq_true (by omega)]; exact hj1
    · have g0 : 0 ≤ a2 := by omega
      have g1 : a2 < (own.length : Int) := by omega
      have hrg2 : ∀ i, i ∈ out ++ [a2] → 0 ≤ i ∧ i < (own.length : Int) := fun i hi => by
        rcases List.mem_append.1 hi with hi | hi
        · exact hrg i hi
        · simp at hi; subst hi; exact ⟨g0, g1⟩
      obtain ⟨K3, h3⟩ := undict_ok own (out ++ [a2]) hy (out ++ [a2]) [] [] rfl rfl hrg2
      refine ⟨K3 + 80, fun k hk => ?_⟩
      have h3' := h3 (k + 1) (by omega)
      simp only [List.length_nil, List.nil_append] at h3'
      rw [show ((0 : Nat) : Int) = 0 from rfl] at h3'
      have hat : rdOf ByteArray.empty ((out ++ [a2]).map (rdOf ByteArray.empty own)) (own.length : Int) = rdOf ByteArray.empty own a2 := by
        have e1 : (own.length : Int) = ((out.map (rdOf ByteArray.empty own)).length : Int) := by rw [List.length_map, hbl]
        rw [List.map_append, e1]
        exact rdOf_at rfl
      have hlen : (((out ++ [a2]).map (rdOf ByteArray.empty own)).length : Int) = ((out ++ [a2]).length : Int) := by rw [List.length_map]
      rw [intervalmonlaw15_CodecDict.j0, if_neg (by decide), if_pos (by omega), Option.bind_some, codec_Undict.f, h3', Option.bind_some]
      rw [if_neg (by omega), show decide (a2 ≥ (own.length : Int)) = false from decide_eq_false (by omega)]
      rw [intervalmonlaw15_CodecDict.j1, if_neg (by decide), if_pos rfl, if_pos hlen, if_pos (by omega), if_pos (by rw [hlen]; simp; omega), if_pos g0, if_pos g1, if_pos (by rw [hat]), lives_true k (by omega)]
      rfl
  obtain ⟨K4, h4⟩ := tail
  refine ⟨K1 + K2 + K4 + 100, ?_⟩
  obtain ⟨k, hk⟩ : ∃ k, K1 + K2 + K4 + 100 = k := ⟨_, rfl⟩
  rw [hk]
  have h2' := h2 k (by omega)
  have h1' : intervalmonref15_Dict.f k own = some (ws, out) := h1 k (by omega)
  have e2 : codec_Undict.f k ws out = some (own, 0) := by rw [codec_Undict.f]; exact h2'
  rw [intervalmonlaw15_CodecDict.f, hm, Option.bind_some, if_pos hm0, if_pos hm1, hown]
  rw [if_pos (by simp; omega), Option.bind_some, List.nil_append, hD, Option.bind_some, h1', Option.bind_some]
  have e4 : intervalmonlaw15_CodecDict.j0 k a2 own out (!true) = some true := by
    have := h4 (k - 2) (by omega)
    rwa [show k - 2 + 2 = k by omega] at this
  simp only []
  rw [e2, Option.bind_some, intervalmonref01_SameTexts.self ws (by omega) k (by omega), Option.bind_some, if_pos rfl, intervalmonref01_SameInts.self out (by omega) k (by omega), Option.bind_some, if_pos rfl, if_pos rfl, intervalmonref01_SameTexts.self own (by omega) k (by omega), Option.bind_some]
  exact e4
end Go.Proofs.YtblbieenfghbdaaDoor.D
