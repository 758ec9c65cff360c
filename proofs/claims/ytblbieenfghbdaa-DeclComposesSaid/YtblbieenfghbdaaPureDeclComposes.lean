/- The law DeclComposes, over numbers and lists alone: spreading by way of another tick gives the same bounds if it lies between the two, and otherwise bounds that contain the direct ones. No condition. -/
import Derived.Test.YtblbieenfghbdaaQxB0
import Derived.Test.YtblbieenfghbdaaHp
namespace Go.Proofs.Ytblbieenfghbdaa.Pure
open Go.RowKit Go.Proofs.Ytblbieenfghbdaa.Q Go.Proofs.YtblbieenfghbdaaW.PrintWords Go.Proofs.YtblbieenfghbdaaW.PrintLast
set_option linter.unusedVariables false
set_option linter.unusedSimpArgs false

theorem j0_eq (a b e f : Int) (h1 : a = e) (h2 : b = f) : intervalmonlaw10_DeclComposes.j0 2 a b e f true = some true := by
  simp only [intervalmonlaw10_DeclComposes.j0, lives_true]
  simp [h1, h2]
theorem j0_le (a b e f : Int) (h1 : e ≤ a) (h2 : b ≤ f) : intervalmonlaw10_DeclComposes.j0 2 a b e f false = some true := by
  simp only [intervalmonlaw10_DeclComposes.j0, lives_true]
  simp [h1, h2]
theorem mono_mul {x y z : Int} (h : x ≤ y) (hz : 0 ≤ z) : x * z ≤ y * z := Int.mul_le_mul_of_nonneg_right h hz

theorem DeclComposes : intervalmonlaw10_DeclComposes.Pure := by
  intro l s t u lo hi _ _ hl hs ht hu hlo hhi
  obtain ⟨p, q, lo', hi', dn, up, fi, la, bu, hd, _, _, _, _, hdn, hup, _, _, _⟩ := decl_some (allIn_of hl)
  obtain ⟨x, hx, x0, x1⟩ := around_some (m := 1048577) (in64_of hs) (by omega) (by omega)
  obtain ⟨y, hy, y0, y1⟩ := around_some (m := 1048577) (in64_of ht) (by omega) (by omega)
  obtain ⟨z, hz, z0, z1⟩ := around_some (m := 1048577) (in64_of hu) (by omega) (by omega)
  obtain ⟨a, ha, a0, a1⟩ := bound_some (m := 1073741824) (in64_of hlo) (by omega) (by omega)
  obtain ⟨b, hb, b0, b1⟩ := bound_some (m := 1073741824) (in64_of hhi) (by omega) (by omega)
  have sp := fun (s t a b : Int) => spread_some (nameOf p) (labsOf q) 1 0 0 lo' hi' fi la bu (dn := dn) (up := up) (s := s) (t := t) (a := a) (b := b) (by omega) (by omega)
  have m1 : ∀ {c d : Int}, (-3 ≤ c ∧ c ≤ 4) → (0 ≤ d ∧ d ≤ 1048576) → -4194304 ≤ c * d ∧ c * d ≤ 4194304 := by
    intro c d hc hd
    have h1 : c * d ≤ 4 * d := Int.mul_le_mul_of_nonneg_right hc.2 hd.1
    have h2 : -3 * d ≤ c * d := Int.mul_le_mul_of_nonneg_right hc.1 hd.1
    omega
  refine ⟨2, ?_⟩
  unfold intervalmonlaw10_DeclComposes.f
  simp only [hd, hx, hy, hz, ha, hb, Option.bind_some]
  rw [sp x z a b (by omega) (by omega) (by omega) (by omega), sp x y a b (by omega) (by omega) (by omega) (by omega)]
  simp only [Option.bind_some]
  rcases (by omega : y < x ∨ x ≤ y) with hxy | hxy
  · -- y < x
    have e1 := m1 (c := dn) (d := x - y) (by omega) (by omega)
    have e2 := m1 (c := up) (d := x - y) (by omega) (by omega)
    rw [if_neg (by omega : ¬ y ≥ x)]
    rw [sp y z _ _ (by omega) (by omega) (by simp only; omega) (by simp only; omega)]
    simp only [Option.bind_some]
    rw [if_neg (by omega : ¬ x ≤ y), if_pos (by omega : x ≥ y)]
    rcases (by omega : y < z ∨ z ≤ y) with hyz | hyz
    · -- y < x, y < z
      rw [decide_eq_false (by omega : ¬ y ≥ z)]
      rw [if_pos (by omega : z ≥ y)]
      rcases (by omega : z < x ∨ x ≤ z) with hxz | hxz
      · rw [if_neg (by omega : ¬ z ≥ x)]
        have k1 := mono_mul (show dn ≤ up by omega) (show 0 ≤ z - y by omega)
        have k2 : up * (x - y) = up * (x - z) + up * (z - y) := by rw [← Int.mul_add]; congr 1; omega
        have k3 : dn * (x - y) = dn * (x - z) + dn * (z - y) := by rw [← Int.mul_add]; congr 1; omega
        exact j0_le _ _ _ _ (by simp only; omega) (by simp only; omega)
      · rw [if_pos (by omega : z ≥ x)]
        have k1 := mono_mul (show dn ≤ up by omega) (show 0 ≤ x - y by omega)
        have k2 : dn * (z - y) = dn * (z - x) + dn * (x - y) := by rw [← Int.mul_add]; congr 1; omega
        have k3 : up * (z - y) = up * (z - x) + up * (x - y) := by rw [← Int.mul_add]; congr 1; omega
        exact j0_le _ _ _ _ (by simp only; omega) (by simp only; omega)
    · -- z ≤ y < x
      rw [decide_eq_true (by omega : y ≥ z), if_neg (by omega : ¬ z ≥ x)]
      have k2 : up * (x - z) = up * (x - y) + up * (y - z) := by rw [← Int.mul_add]; congr 1; omega
      have k3 : dn * (x - z) = dn * (x - y) + dn * (y - z) := by rw [← Int.mul_add]; congr 1; omega
      rcases (by omega : z < y ∨ y ≤ z) with h | h
      · rw [if_neg (by omega : ¬ z ≥ y)]
        exact j0_eq _ _ _ _ (by simp only; omega) (by simp only; omega)
      · obtain rfl : z = y := by omega
        rw [if_pos (by omega : z ≥ z)]
        exact j0_eq _ _ _ _ (by simp) (by simp)
  · -- x ≤ y
    have e1 := m1 (c := dn) (d := y - x) (by omega) (by omega)
    have e2 := m1 (c := up) (d := y - x) (by omega) (by omega)
    rw [if_pos (by omega : y ≥ x)]
    rw [sp y z _ _ (by omega) (by omega) (by simp only; omega) (by simp only; omega)]
    simp only [Option.bind_some]
    rw [if_pos (by omega : x ≤ y)]
    rcases (by omega : z < y ∨ y ≤ z) with hyz | hyz
    · rw [if_neg (by omega : ¬ y ≤ z), if_neg (by omega : ¬ z ≥ y)]
      rcases (by omega : x < y ∨ y ≤ x) with h | h
      · rw [if_neg (by omega : ¬ x ≥ y)]
        rcases (by omega : z < x ∨ x ≤ z) with hxz | hxz
        · rw [if_neg (by omega : ¬ z ≥ x)]
          have k1 := mono_mul (show dn ≤ up by omega) (show 0 ≤ y - x by omega)
          have k2 : up * (y - z) = up * (y - x) + up * (x - z) := by rw [← Int.mul_add]; congr 1; omega
          have k3 : dn * (y - z) = dn * (y - x) + dn * (x - z) := by rw [← Int.mul_add]; congr 1; omega
          exact j0_le _ _ _ _ (by simp only; omega) (by simp only; omega)
        · rw [if_pos (by omega : z ≥ x)]
          have k1 := mono_mul (show dn ≤ up by omega) (show 0 ≤ y - z by omega)
          have k2 : dn * (y - x) = dn * (y - z) + dn * (z - x) := by rw [← Int.mul_add]; congr 1; omega
          have k3 : up * (y - x) = up * (y - z) + up * (z - x) := by rw [← Int.mul_add]; congr 1; omega
          exact j0_le _ _ _ _ (by simp only; omega) (by simp only; omega)
      · obtain rfl : x = y := by omega
        rw [if_pos (by omega : x ≥ x), decide_eq_true (by omega : x ≥ z), if_neg (by omega : ¬ z ≥ x)]
        exact j0_eq _ _ _ _ (by simp) (by simp)
    · rw [if_pos (by omega : y ≤ z), if_pos (by omega : z ≥ x), if_pos (by omega : z ≥ y)]
      have k2 : dn * (z - x) = dn * (z - y) + dn * (y - x) := by rw [← Int.mul_add]; congr 1; omega
      have k3 : up * (z - x) = up * (z - y) + up * (y - x) := by rw [← Int.mul_add]; congr 1; omega
      exact j0_eq _ _ _ _ (by simp only; omega) (by simp only; omega)
end Go.Proofs.Ytblbieenfghbdaa.Pure
