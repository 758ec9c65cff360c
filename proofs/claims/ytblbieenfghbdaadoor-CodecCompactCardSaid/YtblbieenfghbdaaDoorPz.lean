/- What regular lists cost: the plain law of law 15's CodecCompact. -/
import Derived.Test.YtblbieenfghbdaaDoorPm
namespace Go.Proofs.YtblbieenfghbdaaDoor.E
open Go.RowKit Go.Proofs.YtblbieenfghbdaaDoor.D Go.Proofs.YtblbieenfghbdaaDoorW.PrintWords Go.Proofs.YtblbieenfghbdaaDoorW.PrintLast Go.Proofs.YtblbieenfghbdaaDoorW.PrintMore
set_option linter.unusedVariables false
set_option linter.unusedSimpArgs false
/-- The claim a step further. -/
def stepC (s : Int) (x : S44) : S44 := ⟨wrap64 (x.f0 + s), wrap64 (x.f1 + s), x.f2, x.f3⟩
/-- As many claims at the distance s. -/
def reg (s : Int) : Nat → S44 → List S44
  | 0, _ => []
  | n + 1, x => x :: reg s n (stepC s x)
/-- As many numbers at the distance s. -/
def kreg (s : Int) : Nat → Int → List Int
  | 0, _ => []
  | n + 1, a => a :: kreg s n (wrap64 (a + s))
theorem reg_len (s : Int) : ∀ (n : Nat) (x : S44), (reg s n x).length = n
  | 0, _ => rfl
  | n + 1, x => by rw [reg, List.length_cons, reg_len s n]
theorem kreg_len (s : Int) : ∀ (n : Nat) (a : Int), (kreg s n a).length = n
  | 0, _ => rfl
  | n + 1, x => by rw [kreg, List.length_cons, kreg_len s n]
theorem reg_take (s : Int) (m : Nat) : ∀ (n : Nat) (x : S44), (reg s (n + m) x).take n = reg s n x
  | 0, _ => rfl
  | n + 1, x => by rw [show n + 1 + m = (n + m) + 1 by omega, reg, reg, List.take_succ_cons, reg_take s m n]
theorem kreg_take (s : Int) (m : Nat) : ∀ (n : Nat) (a : Int), (kreg s (n + m) a).take n = kreg s n a
  | 0, _ => rfl
  | n + 1, x => by rw [show n + 1 + m = (n + m) + 1 by omega, kreg, kreg, List.take_succ_cons, kreg_take s m n]
theorem code0 : (codeBits 0).length = 1 := by decide +kernel
theorem code_pos (n : Int) : 1 ≤ (codeBits n).length := by
  rw [codeBits, List.length_append, List.length_append]
  simp only [List.length_cons, List.length_nil]
  omega
theorem code_count (n : Nat) (h0 : 16 ≤ n) (h1 : n < 144) : 11 ≤ (codeBits (n : Int)).length ∧ (codeBits (n : Int)).length ≤ 20 := by
  have key : ∀ m : Fin 144, 16 ≤ m.val → 11 ≤ (codeBits (m.val : Int)).length ∧ (codeBits (m.val : Int)).length ≤ 20 := by decide +kernel
  exact key ⟨n, h1⟩ h0
theorem w0 {a b : Int} (h : wrap64 a = wrap64 b) : wrap64 (wrap64 a - wrap64 b) = 0 := by rw [h]; unfold wrap64; omega
/-- Behind the second claim each costs four bits. -/
theorem reg_bits (s : Int) : ∀ (n : Nat) (x : S44) (st : CSt), wrap64 (x.f0 - st.a) = wrap64 s → st.b = wrap64 s → st.ln = wrap64 (x.f1 - x.f0) → st.lo = x.f2 → st.wd = wrap64 (x.f3 - x.f2) → (claimBits st (reg s n x)).length = 4 * n
  | 0, x, st, h1, h2, h3, h4, h5 => rfl
  | n + 1, x, st, h1, h2, h3, h4, h5 => by
    have ih := reg_bits s n (stepC s x) (st.next x) (by simp only [stepC, CSt.next]; unfold wrap64; omega) (by simp only [CSt.next]; exact h1) (by simp only [stepC, CSt.next]; unfold wrap64; omega) rfl rfl
    have e1 : wrap64 (wrap64 (x.f0 - st.a) - st.b) = 0 := by rw [h1, h2]; unfold wrap64; omega
    have e2 : wrap64 (wrap64 (x.f1 - x.f0) - st.ln) = 0 := by rw [h3]; unfold wrap64; omega
    have e3 : wrap64 (x.f2 - st.lo) = 0 := by rw [h4]; unfold wrap64; omega
    have e4 : wrap64 (wrap64 (x.f3 - x.f2) - st.wd) = 0 := by rw [h5]; unfold wrap64; omega
    rw [reg, claimBits, List.length_append, ih, oneBits, e1, e2, e3, e4, List.length_append, List.length_append, List.length_append, code0]
    omega
theorem oneBits_ge (s : CSt) (c : S44) : 4 ≤ (oneBits s c).length := by
  rw [oneBits, List.length_append, List.length_append, List.length_append]
  have h1 := code_pos (wrap64 (wrap64 (c.f0 - s.a) - s.b))
  have h2 := code_pos (wrap64 (wrap64 (c.f1 - c.f0) - s.ln))
  have h3 := code_pos (wrap64 (c.f2 - s.lo))
  have h4 := code_pos (wrap64 (wrap64 (c.f3 - c.f2) - s.wd))
  omega
theorem reg_all (s : Int) (x : S44) : ∃ K, 8 ≤ K ∧ ∀ n, (claimBits CSt.zero (reg s (n + 2) x)).length = K + 4 * n := by
  refine ⟨(oneBits CSt.zero x).length + (oneBits (CSt.zero.next x) (stepC s x)).length, ?_, fun n => ?_⟩
  · have h1 := oneBits_ge CSt.zero x
    have h2 := oneBits_ge (CSt.zero.next x) (stepC s x)
    omega
  · have hb := reg_bits s n (stepC s (stepC s x)) ((CSt.zero.next x).next (stepC s x)) (by simp only [stepC, CSt.next]; unfold wrap64; omega) (by simp only [stepC, CSt.next]; unfold wrap64; omega) (by simp only [stepC, CSt.next]; unfold wrap64; omega) rfl rfl
    rw [reg, reg, claimBits, claimBits, List.length_append, List.length_append, hb]
    omega
theorem kreg_bits (s : Int) : ∀ (n : Nat) (x a b : Int), wrap64 (x - a) = wrap64 s → b = wrap64 s → (trendBits a b (kreg s n x)).length = n
  | 0, x, a, b, h1, h2 => rfl
  | n + 1, x, a, b, h1, h2 => by
    have ih := kreg_bits s n (wrap64 (x + s)) x (wrap64 (x - a)) (by unfold wrap64; omega) h1
    have e1 : wrap64 (wrap64 (x - a) - b) = 0 := by rw [h1, h2]; unfold wrap64; omega
    rw [kreg, trendBits, List.length_append, ih, e1, code0]
    omega
theorem kreg_all (s x : Int) : ∃ K, ∀ n, (trendBits 0 0 (kreg s (n + 2) x)).length = K + n := by
  obtain ⟨A, hA⟩ : ∃ A, (codeBits (wrap64 (wrap64 (x - 0) - 0))).length = A := ⟨_, rfl⟩
  obtain ⟨B, hB⟩ : ∃ B, (codeBits (wrap64 (wrap64 (wrap64 (x + s) - x) - wrap64 (x - 0)))).length = B := ⟨_, rfl⟩
  refine ⟨A + B, fun n => ?_⟩
  obtain ⟨y, hy⟩ : ∃ y, wrap64 (x + s) = y := ⟨_, rfl⟩
  rw [hy] at hB
  have hb := kreg_bits s n (wrap64 (y + s)) y (wrap64 (y - x)) (by unfold wrap64; omega) (by rw [← hy]; unfold wrap64; omega)
  have e : kreg s (n + 2) x = x :: y :: kreg s n (wrap64 (y + s)) := by rw [kreg, kreg, hy]
  have t : trendBits 0 0 (x :: y :: kreg s n (wrap64 (y + s))) = codeBits (wrap64 (wrap64 (x - 0) - 0)) ++ (codeBits (wrap64 (wrap64 (y - x) - wrap64 (x - 0))) ++ trendBits y (wrap64 (y - x)) (kreg s n (wrap64 (y + s)))) := rfl
  generalize codeBits (wrap64 (wrap64 (x - 0) - 0)) = P at hA t
  generalize codeBits (wrap64 (wrap64 (y - x) - wrap64 (x - 0))) = Q at hB t
  rw [e]
  rw [t]
  rw [List.length_append]
  rw [List.length_append]
  rw [hb]
  omega
theorem small_reg (s : Int) (hs : -4096 ≤ s ∧ s ≤ 4096) (n : Nat) : ∀ (x : S44), (-1000000000 + 4096 * (n : Int) ≤ x.f0 ∧ x.f0 ≤ 1000000000 - 4096 * (n : Int)) → (-1000000000 + 4096 * (n : Int) ≤ x.f1 ∧ x.f1 ≤ 1000000000 - 4096 * (n : Int)) →
    (-1099511627776 ≤ x.f2 ∧ x.f2 ≤ 1099511627776) → (-1099511627776 ≤ x.f3 ∧ x.f3 ≤ 1099511627776) → ∀ c, c ∈ reg s n x → encB c = true := by
  induction n with
  | zero =>
    intro x h0 h1 h2 h3 c hc
    rw [reg] at hc
    simp at hc
  | succ n ih =>
    intro x h0 h1 h2 h3 c hc
    rw [reg] at hc
    rcases List.mem_cons.1 hc with e | hc
    · rw [e, encB_iff]
      exact ⟨by omega, by omega, h2, h3⟩
    · refine ih (stepC s x) ?_ ?_ h2 h3 c hc
      · have e : wrap64 (x.f0 + s) = x.f0 + s := I64.eq (by unfold I64; omega)
        simp only [stepC, e]
        omega
      · have e : wrap64 (x.f1 + s) = x.f1 + s := I64.eq (by unfold I64; omega)
        simp only [stepC, e]
        omega
/-- The law's three comparisons. -/
theorem compact (s : Int) (x : S44) (n : Nat) (h0 : 16 ≤ n) (h1 : n < 80) :
    (claimsOf (reg s (n + 64) x)).length ≤ (claimsOf (reg s n x)).length + 34 ∧ 4 * (n + 62) / 8 ≤ (claimsOf (reg s (n + 64) x)).length := by
  obtain ⟨K, hK, hall⟩ := reg_all s x
  have a1 := hall (n - 2)
  have a2 := hall (n + 62)
  rw [show n - 2 + 2 = n by omega] at a1
  rw [show n + 62 + 2 = n + 64 by omega] at a2
  rw [claimsOf, claimsOf, packL_length, packL_length, List.length_append, List.length_append, a1, a2, reg_len, reg_len]
  have c1 := code_count n (by omega) (by omega)
  have c2 := code_count (n + 64) (by omega) (by omega)
  omega
theorem kcompact (s x : Int) (n : Nat) (h0 : 16 ≤ n) (h1 : n < 80) : (intsOf (kreg s (n + 64) x)).length ≤ (intsOf (kreg s n x)).length + 10 := by
  obtain ⟨K, hall⟩ := kreg_all s x
  have a1 := hall (n - 2)
  have a2 := hall (n + 62)
  rw [show n - 2 + 2 = n by omega] at a1
  rw [show n + 62 + 2 = n + 64 by omega] at a2
  rw [intsOf, intsOf, packL_length, packL_length, List.length_append, List.length_append, a1, a2, kreg_len, kreg_len]
  have c1 := code_count n (by omega) (by omega)
  have c2 := code_count (n + 64) (by omega) (by omega)
  omega
end Go.Proofs.YtblbieenfghbdaaDoor.E
