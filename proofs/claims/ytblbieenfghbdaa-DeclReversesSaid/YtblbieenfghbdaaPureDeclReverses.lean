/- The law DeclReverses, over numbers and lists alone: a value is reached from another one if and only if that one is reached from it in the other direction. No condition. -/
import Derived.Test.YtblbieenfghbdaaHr
import Derived.Test.YtblbieenfghbdaaHp
namespace Go.Proofs.Ytblbieenfghbdaa.Pure
open Go.RowKit Go.Proofs.Ytblbieenfghbdaa.Q Go.Proofs.YtblbieenfghbdaaW.PrintWords Go.Proofs.YtblbieenfghbdaaW.PrintLast
set_option linter.unusedVariables false
set_option linter.unusedSimpArgs false

/-- The two ways of one spread: both ends swap. -/
theorem back (dn up x y p q : Int) : let F := (if y ≥ x then (p + dn * (y - x), p + up * (y - x)) else (p - up * (x - y), p - dn * (x - y)))
    let G := (if x ≥ y then (q + dn * (x - y), q + up * (x - y)) else (q - up * (y - x), q - dn * (y - x)))
    (F.1 ≤ q ↔ p ≤ G.2) ∧ (q ≤ F.2 ↔ G.1 ≤ p) := by
  intro F G
  rcases (by omega : x < y ∨ x = y ∨ y < x) with h | h | h
  · have hF : F = (p + dn * (y - x), p + up * (y - x)) := if_pos (by omega)
    have hG : G = (q - up * (y - x), q - dn * (y - x)) := if_neg (by omega)
    rw [hF, hG]
    constructor <;> simp only <;> omega
  · subst h
    have hF : F = (p + dn * (x - x), p + up * (x - x)) := if_pos (by omega)
    have hG : G = (q + dn * (x - x), q + up * (x - x)) := if_pos (by omega)
    rw [hF, hG]
    simp
  · have hF : F = (p - up * (x - y), p - dn * (x - y)) := if_neg (by omega)
    have hG : G = (q + dn * (x - y), q + up * (x - y)) := if_pos (by omega)
    rw [hF, hG]
    constructor <;> simp only <;> omega

theorem DeclReverses : intervalmonlaw10_DeclReverses.Pure := by
  intro l s t v w _ _ hl hs ht hv hw
  obtain ⟨pn, qn, lo', hi', dn, up, fi, la, bu, hd, _, _, _, _, hdn, hup, _, _, _⟩ := decl_some (allIn_of hl)
  obtain ⟨x, hx, x0, x1⟩ := around_some (m := 1048577) (in64_of hs) (by omega) (by omega)
  obtain ⟨y, hy, y0, y1⟩ := around_some (m := 1048577) (in64_of ht) (by omega) (by omega)
  obtain ⟨p, hp, p0, p1⟩ := bound_some (m := 1073741824) (in64_of hv) (by omega) (by omega)
  obtain ⟨q, hq, q0, q1⟩ := bound_some (m := 1073741824) (in64_of hw) (by omega) (by omega)
  obtain ⟨n, hn, n0, n1⟩ := around_some (m := 20) (in64_of hw) (by omega) (by omega)
  have sp := fun (s t a b : Int) => spread_some (nameOf pn) (labsOf qn) 1 0 0 lo' hi' fi la bu (dn := dn) (up := up) (s := s) (t := t) (a := a) (b := b) (by omega) (by omega)
  have m1 : ∀ {c d : Int}, (-3 ≤ c ∧ c ≤ 4) → (0 ≤ d ∧ d ≤ 1048576) → -4194304 ≤ c * d ∧ c * d ≤ 4194304 := by
    intro c d hc hd
    have h1 : c * d ≤ 4 * d := Int.mul_le_mul_of_nonneg_right hc.2 hd.1
    have h2 : -3 * d ≤ c * d := Int.mul_le_mul_of_nonneg_right hc.1 hd.1
    omega
  obtain ⟨F, hF⟩ : ∃ F, (if y ≥ x then (p + dn * (y - x), p + up * (y - x)) else (p - up * (x - y), p - dn * (x - y))) = F := ⟨_, rfl⟩
  have hb : -5368709120 ≤ F.1 ∧ F.1 ≤ 5368709120 := by
    rw [← hF]
    by_cases h : y ≥ x
    · rw [if_pos h]
      have := m1 (c := dn) (d := y - x) (by omega) (by omega)
      simp only
      omega
    · rw [if_neg h]
      have := m1 (c := up) (d := x - y) (by omega) (by omega)
      simp only
      omega
  unfold intervalmonlaw10_DeclReverses.f
  simp only [hd, hx, hy, hp, hq, hn, Option.bind_some]
  rw [sp x y p p (by omega) (by omega) (by omega) (by omega), sp y x q q (by omega) (by omega) (by omega) (by omega), hF]
  simp only [Option.bind_some]
  rw [wrap_id (x := F.1 + n) (by omega) (by omega), wrap_id (x := F.1 + n - 2) (by omega) (by omega)]
  rw [sp y x (F.1 + n - 2) (F.1 + n - 2) (by omega) (by omega) (by omega) (by omega)]
  simp only [Option.bind_some, lives_true]
  have b1 := back dn up x y p q
  have b2 := back dn up x y p (F.1 + n - 2)
  simp only [hF] at b1 b2
  generalize (if x ≥ y then (q + dn * (x - y), q + up * (x - y)) else (q - up * (y - x), q - dn * (y - x))) = G at b1 ⊢
  generalize (if x ≥ y then (F.1 + n - 2 + dn * (x - y), F.1 + n - 2 + up * (x - y)) else (F.1 + n - 2 - up * (y - x), F.1 + n - 2 - dn * (y - x))) = K at b2 ⊢
  generalize F.1 + n - 2 = m at b2 ⊢
  by_cases c1 : F.1 ≤ q <;> by_cases c2 : q ≤ F.2 <;> by_cases d1 : F.1 ≤ m <;> by_cases d2 : m ≤ F.2 <;> simp [b1.1.symm, b1.2.symm, b2.1.symm, b2.2.symm, c1, c2, d1, d2]
end Go.Proofs.Ytblbieenfghbdaa.Pure
