/- The calls of the reference's Around and Bound, in the same world; Claims gives at most nine claims, each encodable. -/
import Derived.Test.YtblbieenfghbdaaDoorKh
import Derived.Test.YtblbieenfghbdaaDoorExA1
import Derived.StillTactics
import Derived.StillTailTactics
namespace Go.Proofs.YtblbieenfghbdaaDoor.E
open Go.RowKit Go.Proofs.YtblbieenfghbdaaDoor.D Go.Proofs.YtblbieenfghbdaaDoorW.PrintWords Go.Proofs.YtblbieenfghbdaaDoorW.PrintLast Go.Proofs.YtblbieenfghbdaaDoorW.PrintMore
set_option linter.unusedVariables false
set_option linter.unusedSimpArgs false
/-- What Around gives. -/
def aroundV (a m : Int) : Int := if a < 0 then Int.tmod (wrap64 (-wrap64 (a + 1))) m else Int.tmod a m
theorem around_still (a m : Int) (w : World) (hm : 0 < m) :
    Calls Tryd.prog 38 #[.int .i64 a, .int .i64 m] w fun e w' => e = .returned (.int .i64 (aroundV a m)) ∧ w' = w := by
  have hm0 : (m == 0) = false := by simp; omega
  unfold aroundV
  by_cases c : a < 0
  · rw [if_pos c]
    have cb : decide (a < 0) = true := decide_eq_true c
    clear c
    go_enter Tryd.func38, Tryd.ntmps38
    go_wp2
    go_ret
    exact ⟨rfl, rfl⟩
  · rw [if_neg c]
    have cb : decide (a < 0) = false := decide_eq_false c
    clear c
    go_enter Tryd.func38, Tryd.ntmps38
    go_wp2
    go_ret
    exact ⟨rfl, rfl⟩
def boundV (a m : Int) : Int := wrap64 (aroundV a (wrap64 (wrap64 (2 * m) + 1)) - m)
theorem bound_still (a m : Int) (w : World) (hm : 0 < m) (h2 : m < 1000000000000000000) :
    Calls Tryd.prog 43 #[.int .i64 a, .int .i64 m] w fun e w' => e = .returned (.int .i64 (boundV a m)) ∧ w' = w := by
  have e1 : wrap64 (2 * m) = 2 * m := by unfold wrap64; omega
  have e2 : wrap64 (2 * m + 1) = 2 * m + 1 := by unfold wrap64; omega
  unfold boundV
  rw [e1, e2]
  go_enter Tryd.func43, Tryd.ntmps43
  go_wp2_with (fail)
  refine (around_still a (2 * m + 1) w (by omega)).mono ?_
  rintro e w1 ⟨rfl, rfl⟩
  go_wp2
  go_ret
  exact ⟨rfl, rfl⟩
end Go.Proofs.YtblbieenfghbdaaDoor.E
