/- Plain facts of the printed functions: bounds of the generators' results, the example of the section holds. -/
import Derived.Test.YtblbieenfghbdaaHd
import Derived.Test.YtblbieenfghbdaaHv
import Derived.Test.YtblbieenfghbdaaHt
import Derived.Test.YtblbieenfghbdaaQxB0
namespace Go.Proofs.Ytblbieenfghbdaa.Q
open Go.RowKit Go.Proofs.YtblbieenfghbdaaW.PrintWords Go.Proofs.YtblbieenfghbdaaW.PrintLast Go.Proofs.YtblbieenfghbdaaW.PrintMore
set_option linter.unusedVariables false
set_option linter.unusedSimpArgs false

/-! Plain facts of the generators -/
def In64 (x : Int) : Prop := -9223372036854775808 ≤ x ∧ x ≤ 9223372036854775807
theorem in64_of {x : Int} (h : (Lit.int .i64 x).wf = true) : In64 x := by
  simp only [Lit.wf, IntKind.min, IntKind.max, IntKind.signed, IntKind.bits, Bool.and_eq_true, decide_eq_true_eq, if_true] at h
  unfold In64
  omega
theorem wrap_id {x : Int} (h0 : -9223372036854775808 ≤ x) (h1 : x ≤ 9223372036854775807) : wrap64 x = x := by unfold wrap64; omega

theorem around_some {a m : Int} (ha : In64 a) (h1 : 1 ≤ m) (h2 : m ≤ 9223372036854775807) : ∃ r, intervalmonref01_Around.f a m = some r ∧ 0 ≤ r ∧ r < m := by
  unfold In64 at ha
  unfold intervalmonref01_Around.f
  rw [if_neg (by omega : ¬ m = 0), if_neg (by omega : ¬ m = 0)]
  by_cases h : a < 0
  · rw [if_pos h, wrap_id (x := a + 1) (by omega) (by omega), wrap_id (by omega) (by omega)]
    refine ⟨_, rfl, ?_⟩
    rw [Int.tmod_eq_emod_of_nonneg (by omega)]
    exact ⟨Int.emod_nonneg _ (by omega), Int.emod_lt_of_pos _ (by omega)⟩
  · rw [if_neg h]
    refine ⟨_, rfl, ?_⟩
    rw [Int.tmod_eq_emod_of_nonneg (by omega)]
    exact ⟨Int.emod_nonneg _ (by omega), Int.emod_lt_of_pos _ (by omega)⟩
theorem bound_some {a m : Int} (ha : In64 a) (h1 : 0 ≤ m) (h2 : m ≤ 2305843009213693952) : ∃ r, intervalmonref01_Bound.f a m = some r ∧ -m ≤ r ∧ r ≤ m := by
  unfold intervalmonref01_Bound.f
  rw [wrap_id (x := 2 * m) (by omega) (by omega), wrap_id (by omega) (by omega)]
  obtain ⟨r, hr, h3, h4⟩ := around_some (m := 2 * m + 1) ha (by omega) (by omega)
  rw [hr, Option.bind_some, wrap_id (by omega) (by omega)]
  exact ⟨_, rfl, by omega, by omega⟩
def AllIn (l : List Int) : Prop := ∀ x ∈ l, In64 x
theorem allIn_of {l : List Int} (h : ∀ x ∈ l, (Lit.int .i64 x).wf = true) : AllIn l := fun x hx => in64_of (h x hx)
theorem allIn_rd {l : List Int} (h : AllIn l) (i : Int) : In64 (rd l i) := by
  unfold rd
  rw [List.getD_eq_getElem?_getD]
  by_cases hi : i.toNat < l.length
  · rw [List.getElem?_eq_getElem hi]
    exact h _ (List.getElem_mem hi)
  · rw [List.getElem?_eq_none (by omega)]
    unfold In64
    simp
theorem pick_some {l : List Int} (hl : AllIn l) (i : Int) {m : Int} (h1 : 1 ≤ m) (h2 : m ≤ 9223372036854775807) : ∃ r, intervalmonref01_Pick.f l i m = some r ∧ 0 ≤ r ∧ r < m := by
  unfold intervalmonref01_Pick.f
  by_cases h : i < 0
  · rw [if_pos h]
    exact ⟨0, rfl, by omega, by omega⟩
  · rw [if_neg h]
    by_cases h' : i ≥ (l.length : Int)
    · rw [if_pos h']
      exact ⟨0, rfl, by omega, by omega⟩
    · rw [if_neg h', if_pos (by omega), if_pos (by omega)]
      obtain ⟨r, hr, h3, h4⟩ := around_some (m := m) (allIn_rd hl i) h1 h2
      rw [hr]
      exact ⟨r, rfl, h3, h4⟩

/-- One of the four label sets. -/
def labsOf (n : Int) : List S51 :=
  if n = 1 then [(⟨(⟨#[104, 111, 115, 116]⟩ : ByteArray), (⟨#[97]⟩ : ByteArray)⟩ : S51)]
  else if n = 2 then [(⟨(⟨#[104, 111, 115, 116]⟩ : ByteArray), (⟨#[98]⟩ : ByteArray)⟩ : S51)]
  else if n = 3 then [(⟨(⟨#[104, 111, 115, 116]⟩ : ByteArray), (⟨#[98]⟩ : ByteArray)⟩ : S51), (⟨(⟨#[122, 111, 110, 101]⟩ : ByteArray), (⟨#[120]⟩ : ByteArray)⟩ : S51)] else []
def nameOf (n : Int) : ByteArray := if n = 0 then ⟨#[99, 112, 117]⟩ else ⟨#[109, 101, 109]⟩
theorem labels_some {n : Int} (h0 : 0 ≤ n) (h1 : n < 4) : intervalmonref10_Labels.f n = some (labsOf n) := by
  have ha : intervalmonref01_Around.f n 4 = some n := by
    unfold intervalmonref01_Around.f
    rw [if_neg (by omega), if_neg (by omega), Int.tmod_eq_emod_of_nonneg h0, Int.emod_eq_of_lt h0 h1]
  unfold intervalmonref10_Labels.f
  rw [ha, Option.bind_some]
  unfold labsOf
  rcases (by omega : n = 0 ∨ n = 1 ∨ n = 2 ∨ n = 3) with rfl | rfl | rfl | rfl <;> rfl

/-- What the generator of declarations gives. -/
theorem decl_some {l : List Int} (hl : AllIn l) : ∃ p q lo hi dn up fi la bu : Int, intervalmonref10_Decl.f l = some (nameOf p, labsOf q, 1, 0, 0, lo, hi, dn, up, fi, la, bu) ∧ (0 ≤ p ∧ p < 2) ∧ (0 ≤ q ∧ q < 4) ∧
    (-9 ≤ lo ∧ lo ≤ 0) ∧ (lo ≤ hi ∧ hi ≤ lo + 16) ∧ (-3 ≤ dn ∧ dn ≤ 1) ∧ (dn ≤ up ∧ up ≤ dn + 3) ∧ (0 ≤ fi ∧ fi ≤ 6) ∧ (fi ≤ la ∧ la ≤ fi + 13) ∧ (0 ≤ bu ∧ bu ≤ 39) := by
  obtain ⟨a, ha, a0, a1⟩ := pick_some hl 0 (m := 10) (by omega) (by omega)
  obtain ⟨b, hb, b0, b1⟩ := pick_some hl 1 (m := 5) (by omega) (by omega)
  obtain ⟨c, hc, c0, c1⟩ := pick_some hl 2 (m := 7) (by omega) (by omega)
  obtain ⟨p, hp, p0, p1⟩ := pick_some hl 3 (m := 2) (by omega) (by omega)
  obtain ⟨q, hq, q0, q1⟩ := pick_some hl 4 (m := 4) (by omega) (by omega)
  obtain ⟨d, hd, d0, d1⟩ := pick_some hl 5 (m := 17) (by omega) (by omega)
  obtain ⟨e, he, e0, e1⟩ := pick_some hl 6 (m := 4) (by omega) (by omega)
  obtain ⟨f, hf, f0, f1⟩ := pick_some hl 7 (m := 14) (by omega) (by omega)
  obtain ⟨g, hg, g0, g1⟩ := pick_some hl 8 (m := 40) (by omega) (by omega)
  refine ⟨p, q, a - 9, a - 9 + d, b - 3, b - 3 + e, c, c + f, g, ?_, by omega, by omega, by omega, by omega, by omega, by omega, by omega, by omega, by omega⟩
  have hn : rdOf ByteArray.empty ([(⟨#[99, 112, 117]⟩ : ByteArray), (⟨#[109, 101, 109]⟩ : ByteArray)] : List ByteArray) p = nameOf p := by
    rcases (by omega : p = 0 ∨ p = 1) with rfl | rfl <;> rfl
  unfold intervalmonref10_Decl.f
  simp only [ha, hb, hc, hp, hq, hd, he, hf, hg, Option.bind_some, labels_some q0 q1]
  rw [if_pos p0, if_pos (by simp; omega), hn, wrap_id (x := a - 9) (by omega) (by omega), wrap_id (x := b - 3) (by omega) (by omega), wrap_id (x := a - 9 + d) (by omega) (by omega), wrap_id (x := b - 3 + e) (by omega) (by omega), wrap_id (x := c + f) (by omega) (by omega)]

theorem valid_eg : decl_Valid.f (⟨#[97]⟩ : ByteArray) ([] : List S51) 0 0 0 0 9 (-1) 2 0 4 0 = some 0 := by decide +kernel
theorem valid_zero : decl_Valid.f (⟨#[]⟩ : ByteArray) ([] : List S51) 0 0 0 0 0 0 0 0 0 0 = some 8 := by decide +kernel
theorem lives_true : intervalmonlaw10_lives.f = some true := by
  unfold intervalmonlaw10_lives.f
  rw [valid_eg, valid_zero]
  decide +kernel

/-- The bounds of a spread, without a wrap. -/
theorem spread_some (nm : ByteArray) (labs : List S51) (u0 u1 u2 lo hi fi la bu : Int) {dn up s t a b : Int} (hd : -3 ≤ dn ∧ dn ≤ 1) (hu : -3 ≤ up ∧ up ≤ 4) (hs : 0 ≤ s ∧ s ≤ 1048576) (ht : 0 ≤ t ∧ t ≤ 1048576) (ha : -1099511627776 ≤ a ∧ a ≤ 1099511627776) (hb : -1099511627776 ≤ b ∧ b ≤ 1099511627776) :
    decl_Spread.f nm labs u0 u1 u2 lo hi dn up fi la bu s t a b = some (if t ≥ s then (a + dn * (t - s), b + up * (t - s)) else (a - up * (s - t), b - dn * (s - t))) := by
  have m1 : ∀ {x y : Int}, (-3 ≤ x ∧ x ≤ 4) → (0 ≤ y ∧ y ≤ 1048576) → -4194304 ≤ x * y ∧ x * y ≤ 4194304 := by
    intro x y hx hy
    have h1 : x * y ≤ 4 * y := Int.mul_le_mul_of_nonneg_right hx.2 hy.1
    have h2 : -3 * y ≤ x * y := Int.mul_le_mul_of_nonneg_right hx.1 hy.1
    omega
  unfold decl_Spread.f
  by_cases h : t ≥ s
  · have e1 := m1 (x := dn) (y := t - s) (by omega) (by omega)
    have e2 := m1 (x := up) (y := t - s) (by omega) (by omega)
    rw [if_pos h, if_pos h, wrap_id (x := t - s) (by omega) (by omega), wrap_id (x := dn * (t - s)) (by omega) (by omega), wrap_id (x := up * (t - s)) (by omega) (by omega), wrap_id (by omega) (by omega), wrap_id (by omega) (by omega)]
  · have e1 := m1 (x := dn) (y := s - t) (by omega) (by omega)
    have e2 := m1 (x := up) (y := s - t) (by omega) (by omega)
    rw [if_neg h, if_neg h, wrap_id (x := s - t) (by omega) (by omega), wrap_id (x := dn * (s - t)) (by omega) (by omega), wrap_id (x := up * (s - t)) (by omega) (by omega), wrap_id (by omega) (by omega), wrap_id (by omega) (by omega)]
end Go.Proofs.Ytblbieenfghbdaa.Q
