/- The plain laws of the comparing functions: a list is the same as itself. -/
import Derived.Test.YtblbieenfghbdaaDoorDxA
namespace Go.Proofs.YtblbieenfghbdaaDoor.D
open Go.RowKit Go.Proofs.YtblbieenfghbdaaDoorW.PrintWords
theorem wrap_at (x : Int) (h : -9223372036854775808 ≤ x) (h2 : x < 9223372036854775808) : wrap64 x = x := by unfold wrap64; omega
theorem intervalmonref01_SameBytes.self_l (l : List Int) (hl : l.length < 4611686018427387904) : ∀ (j k : Nat), j ≤ l.length → j < k → intervalmonref01_SameBytes.l0 k l l ((l.length : Int) - (j : Int)) = some true
  | 0, k + 1, _, _ => by
    unfold intervalmonref01_SameBytes.l0
    rw [if_neg (by omega)]
  | j + 1, k + 1, hj, hk => by
    unfold intervalmonref01_SameBytes.l0
    have hw : wrap64 ((l.length : Int) - ((j + 1 : Nat) : Int) + 1) = (l.length : Int) - (j : Int) := by rw [wrap_at _ (by omega) (by omega)]; omega
    rw [if_pos (by omega), if_pos (by omega), if_pos (by omega), if_pos rfl, hw]
    exact intervalmonref01_SameBytes.self_l l hl j k (by omega) (by omega)
theorem intervalmonref01_SameBytes.self (l : List Int) (hl : l.length < 4611686018427387904) (k : Nat) (hk : l.length < k) : intervalmonref01_SameBytes.f k l l = some true := by
  have h := intervalmonref01_SameBytes.self_l l hl l.length k (Nat.le_refl _) hk
  rw [Int.sub_self] at h
  rw [intervalmonref01_SameBytes.f, if_pos rfl, h]
theorem intervalmonref01_SameInts.self_l (l : List Int) (hl : l.length < 4611686018427387904) : ∀ (j k : Nat), j ≤ l.length → j < k → intervalmonref01_SameInts.l0 k l l ((l.length : Int) - (j : Int)) = some true
  | 0, k + 1, _, _ => by
    unfold intervalmonref01_SameInts.l0
    rw [if_neg (by omega)]
  | j + 1, k + 1, hj, hk => by
    unfold intervalmonref01_SameInts.l0
    have hw : wrap64 ((l.length : Int) - ((j + 1 : Nat) : Int) + 1) = (l.length : Int) - (j : Int) := by rw [wrap_at _ (by omega) (by omega)]; omega
    rw [if_pos (by omega), if_pos (by omega), if_pos (by omega), if_pos rfl, hw]
    exact intervalmonref01_SameInts.self_l l hl j k (by omega) (by omega)
theorem intervalmonref01_SameInts.self (l : List Int) (hl : l.length < 4611686018427387904) (k : Nat) (hk : l.length < k) : intervalmonref01_SameInts.f k l l = some true := by
  have h := intervalmonref01_SameInts.self_l l hl l.length k (Nat.le_refl _) hk
  rw [Int.sub_self] at h
  rw [intervalmonref01_SameInts.f, if_pos rfl, h]
theorem intervalmonref01_SameTexts.self_l (l : List ByteArray) (hl : l.length < 4611686018427387904) : ∀ (j k : Nat), j ≤ l.length → j < k → intervalmonref01_SameTexts.l0 k l l ((l.length : Int) - (j : Int)) = some true
  | 0, k + 1, _, _ => by
    unfold intervalmonref01_SameTexts.l0
    rw [if_neg (by omega)]
  | j + 1, k + 1, hj, hk => by
    unfold intervalmonref01_SameTexts.l0
    have hw : wrap64 ((l.length : Int) - ((j + 1 : Nat) : Int) + 1) = (l.length : Int) - (j : Int) := by rw [wrap_at _ (by omega) (by omega)]; omega
    rw [if_pos (by omega), if_pos (by omega), if_pos (by omega), if_pos rfl, hw]
    exact intervalmonref01_SameTexts.self_l l hl j k (by omega) (by omega)
theorem intervalmonref01_SameTexts.self (l : List ByteArray) (hl : l.length < 4611686018427387904) (k : Nat) (hk : l.length < k) : intervalmonref01_SameTexts.f k l l = some true := by
  have h := intervalmonref01_SameTexts.self_l l hl l.length k (Nat.le_refl _) hk
  rw [Int.sub_self] at h
  rw [intervalmonref01_SameTexts.f, if_pos rfl, h]
end Go.Proofs.YtblbieenfghbdaaDoor.D
