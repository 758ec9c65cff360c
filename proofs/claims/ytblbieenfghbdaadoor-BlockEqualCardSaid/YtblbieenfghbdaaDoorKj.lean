/- The calls of the reference's Around and Bound, in the same world; Claims gives at most nine claims, each encodable. -/
import Derived.Test.YtblbieenfghbdaaDoorKh
import Derived.Test.YtblbieenfghbdaaDoorExA1
import Derived.StillTactics
import Derived.StillTailTactics
namespace Go.Proofs.YtblbieenfghbdaaDoor.E
open Go.RowKit Go.Proofs.YtblbieenfghbdaaDoor.D Go.Proofs.YtblbieenfghbdaaDoorW.PrintWords Go.Proofs.YtblbieenfghbdaaDoorW.PrintLast Go.Proofs.YtblbieenfghbdaaDoorW.PrintMore
set_option linter.unusedVariables false
set_option linter.unusedSimpArgs false
/-- What Around gives. -/
def aroundV (a m : Int) : Int := if a < 0 then Int.tmod (wrap64 (-wrap64 (a + 1))) m else Int.tmod a m
theorem around_still (a m : Int) (w : World) (hm : 0 < m) :
    Calls Tryd.prog 38 #[.int .i64 a, .int .i64 m] w fun e w' => e = .returned (.int .i64 (aroundV a m)) ∧ w' = w := by
  have hm0 : (m == 0) = false := by simp; omega
  unfold aroundV
  by_cases c : a < 0
  · rw [if_pos c]
    have cb : decide (a < 0) = true := decide_eq_true c
    clear c
    go_enter Tryd.func38, Tryd.ntmps38
    go_wp2
    go_ret
    exact ⟨rfl, rfl⟩
  · rw [if_neg c]
    have cb : decide (a < 0) = false := decide_eq_false c
    clear c
    go_enter Tryd.func38, Tryd.ntmps38
    go_wp2
    go_ret
    exact ⟨rfl, rfl⟩
def boundV (a m : Int) : Int := wrap64 (aroundV a (wrap64 (wrap64 (2 * m) + 1)) - m)
theorem bound_still (a m : Int) (w : World) (hm : 0 < m) (h2 : m < 1000000000000000000) :
    Calls Tryd.prog 43 #[.int .i64 a, .int .i64 m] w fun e w' => e = .returned (.int .i64 (boundV a m)) ∧ w' = w := by
  have e1 : wrap64 (2 * m) = 2 * m := by unfold wrap64; omega
  have e2 : wrap64 (2 * m + 1) = 2 * m + 1 := by unfold wrap64; omega
  unfold boundV
  rw [e1, e2]
  go_enter Tryd.func43, Tryd.ntmps43
  go_wp2_with (fail)
  refine (around_still a (2 * m + 1) w (by omega)).mono ?_
  rintro e w1 ⟨rfl, rfl⟩
  go_wp2
  go_ret
  exact ⟨rfl, rfl⟩
theorem enc_step (x3 : List Int) (j : Nat) (hj : j < 4) (h4 : x3.length = 4) (k : Nat) (r : Bool) (hr : smallB (rd x3 (j : Int)) = true → intervalmonref15_Encodable.l0 k x3 ((j + 1 : Nat) : Int) = some r) (hf : smallB (rd x3 (j : Int)) = false → r = false) :
    intervalmonref15_Encodable.l0 (k + 1) x3 (j : Int) = some r := by
  have hw : wrap64 ((j : Int) + 1) = ((j + 1 : Nat) : Int) := by unfold wrap64; omega
  rw [intervalmonref15_Encodable.l0, if_pos (by omega), if_pos (by omega), if_pos (by omega)]
  cases hs : smallB (rd x3 (j : Int)) with
  | true =>
    have h := (smallB_iff _).1 hs
    rw [if_neg (by omega), if_neg (by omega), hw]
    exact hr hs
  | false =>
    rw [hf hs]
    have h : ¬ (-1099511627776 ≤ rd x3 (j : Int) ∧ rd x3 (j : Int) ≤ 1099511627776) := fun h => by rw [(smallB_iff _).2 h] at hs; cases hs
    by_cases c : rd x3 (j : Int) < -1099511627776
    · rw [if_pos c]
    · rw [if_neg c, if_pos (by omega)]
theorem ref_encodable (a b c d : Int) : intervalmonref15_Encodable.f 10 a b c d = some (encB ⟨a, b, c, d⟩) := by
  rw [intervalmonref15_Encodable.f]
  have e : encB ⟨a, b, c, d⟩ = (smallB a && (smallB b && (smallB c && smallB d))) := by simp only [encB, Bool.and_assoc]
  rw [e]
  refine enc_step [a, b, c, d] 0 (by decide) rfl 9 _ (fun h0 => ?_) (fun h0 => ?_)
  · refine enc_step [a, b, c, d] 1 (by decide) rfl 8 _ (fun h1 => ?_) (fun h1 => ?_)
    · refine enc_step [a, b, c, d] 2 (by decide) rfl 7 _ (fun h2 => ?_) (fun h2 => ?_)
      · refine enc_step [a, b, c, d] 3 (by decide) rfl 6 _ (fun h3 => ?_) (fun h3 => ?_)
        · rw [intervalmonref15_Encodable.l0, if_neg (by decide)]
          have e0 : smallB a = true := h0
          have e1 : smallB b = true := h1
          have e2 : smallB c = true := h2
          have e3 : smallB d = true := h3
          rw [e0, e1, e2, e3]; rfl
        · have e3 : smallB d = false := h3
          rw [e3, Bool.and_false, Bool.and_false, Bool.and_false]
      · have e2 : smallB c = false := h2
        rw [e2, Bool.false_and, Bool.and_false, Bool.and_false]
    · have e1 : smallB b = false := h1
      rw [e1, Bool.false_and, Bool.and_false]
  · have e0 : smallB a = false := h0
    rw [e0, Bool.false_and]
end Go.Proofs.YtblbieenfghbdaaDoor.E
