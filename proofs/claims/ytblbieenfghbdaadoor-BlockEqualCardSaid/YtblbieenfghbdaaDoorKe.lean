/- The calls of slices.Min, slices.Max and codec.encodable, and what they say. -/
import Derived.Test.YtblbieenfghbdaaDoorEx0
import Derived.Test.YtblbieenfghbdaaDoorHa
namespace Go.Proofs.YtblbieenfghbdaaDoor.E
open Go.RowKit Go.Proofs.YtblbieenfghbdaaDoor.D Go.Proofs.YtblbieenfghbdaaDoorW.PrintWords Go.Proofs.YtblbieenfghbdaaDoorW.PrintLast Go.Proofs.YtblbieenfghbdaaDoorW.PrintMore
attribute [local go_sem] max2_int min2_int max_two min_two max_three min_three max_four min_four
set_option linter.unusedVariables false
set_option linter.unusedSimpArgs false
set_option maxHeartbeats 2000000 in
set_option maxRecDepth 100000 in
theorem slices_Min.calls (A0 : Option Addr) (c0 : Nat) (a : Int) (l : List Int) (w : World) (hr : Kd.C (Kd.int .i64) w A0 (a :: l).length (a :: l)) :
    Calls Tryd.prog 118 #[.slice A0 (a :: l).length c0] w fun e w' => e = .returned (.int .i64 (l.foldl mn a)) ∧ w' = w := by
  have hlen : (a :: l).length ≤ 9223372036854775807 := hr.2.1
  obtain ⟨ad, rfl, hx0⟩ := Kd.at_int hr (0 : Int) (by decide) (by rw [List.length_cons]; omega)
  have e0 : rd (a :: l) 0 = a := rfl
  rw [e0] at hx0
  have hx1 : w.cell? ad = some (.int .i64 a) := by have := hx0; simpa [Addr.add] using this
  clear hx0 e0
  have hr' := Aside0.mk hr
  have hl1 : Aside0 ((a :: l).length = l.length + 1) := ⟨rfl⟩
  clear hr
  have hn0 : 0 < (a :: l).length := by rw [List.length_cons]; omega
  generalize hn : (a :: l).length = n at hlen hn0 hr' ⊢
  have hn' := Aside0.mk hn
  clear hn
  have c1 : decide ((n : Int) < 1) = false := decide_eq_false (by omega)
  have c2 : (0 : Int) < (n : Int) := by omega
  have c4 : decide (n < 1) = false := decide_eq_false (by omega)
  go_enter Tryd.func118, Tryd.ntmps118
  go_wp2
  go_loopg [3, 4] (n - 1) (fun kq v3 v4 w' => ∃ i : Nat, v4 = .int .i64 (i : Int) ∧ w' = w ∧ Aside0 (1 ≤ i ∧ i + kq = n) ∧ Aside0 (v3 = .int .i64 ((l.take (i - 1)).foldl mn a)))
  case atStart => exact ⟨1, rfl, rfl, ⟨by omega⟩, ⟨rfl⟩⟩
  case round =>
    obtain ⟨i, rfl, rfl, hi, hv⟩ := hrel
    obtain rfl := hv.out
    cases gk with
    | zero =>
      have e1 : l.take (i - 1) = l := List.take_of_length_le (by have := hi.out; have := hn'.out; have := hl1.out; omega)
      have cb : decide ((i : Int) < (n : Int)) = false := decide_eq_false (by have := hi.out; omega)
      have cb2 : decide (i < n) = false := decide_eq_false (by have := hi.out; omega)
      replace e1 := Aside0.mk e1
      go_wp2
      go_ret
      exact ⟨by rw [e1.out]; rfl, rfl⟩
    | succ m =>
      have hin : i < n := by have := hi.out; omega
      have cb : decide ((i : Int) < (n : Int)) = true := decide_eq_true (by omega)
      have cb2 : decide (i < n) = true := decide_eq_true hin
      have p0 : (0 : Int) ≤ (i : Int) := by omega
      have p1 : (i : Int) < (n : Int) := by omega
      obtain ⟨ad2, e2, hx⟩ := Kd.at_int hr'.out (i : Int) p0 p1
      injection e2 with e2
      subst e2
      rw [Int.toNat_natCast] at hx
      have hil : i - 1 < l.length := by have := hi.out; have := hn'.out; have := hl1.out; omega
      have hrd : rd (a :: l) (i : Int) = l[i - 1] := by
        obtain ⟨j, rfl⟩ : ∃ j, i = j + 1 := ⟨i - 1, by have := hi.out; omega⟩
        simp only [Nat.add_sub_cancel] at hil ⊢
        rw [rd, Int.toNat_natCast, List.getD_cons_succ, List.getD_eq_getElem?_getD, List.getElem?_eq_getElem hil]; rfl
      have hnext : (l.take (i + 1 - 1)).foldl mn a = mn ((l.take (i - 1)).foldl mn a) l[i - 1] := by
        rw [show i + 1 - 1 = (i - 1) + 1 by have := hi.out; omega, List.take_succ_eq_append_getElem hil, List.foldl_append]
        rfl
      rw [hrd] at hx
      generalize l[i - 1] = x at hx hnext
      replace hnext := Aside0.mk hnext
      generalize (l.take (i - 1)).foldl mn a = acc at hnext ⊢
      have hi1 : wrap64 ((i : Int) + 1) = (i : Int) + 1 := by unfold wrap64; omega
      clear hrd hv
      go_wp2
      all_goals
        go_roundg m
        case measure => omega
        case rel => exact ⟨i + 1, by first | rfl | simp [*], rfl, ⟨by have := hi.out; omega⟩, ⟨by rw [hnext.out]; congr 1; simp only [mn]; split <;> omega⟩⟩
set_option maxHeartbeats 2000000 in
set_option maxRecDepth 100000 in
theorem slices_Max.calls (A0 : Option Addr) (c0 : Nat) (a : Int) (l : List Int) (w : World) (hr : Kd.C (Kd.int .i64) w A0 (a :: l).length (a :: l)) :
    Calls Tryd.prog 119 #[.slice A0 (a :: l).length c0] w fun e w' => e = .returned (.int .i64 (l.foldl mx a)) ∧ w' = w := by
  have hlen : (a :: l).length ≤ 9223372036854775807 := hr.2.1
  obtain ⟨ad, rfl, hx0⟩ := Kd.at_int hr (0 : Int) (by decide) (by rw [List.length_cons]; omega)
  have e0 : rd (a :: l) 0 = a := rfl
  rw [e0] at hx0
  have hx1 : w.cell? ad = some (.int .i64 a) := by have := hx0; simpa [Addr.add] using this
  clear hx0 e0
  have hr' := Aside0.mk hr
  have hl1 : Aside0 ((a :: l).length = l.length + 1) := ⟨rfl⟩
  clear hr
  have hn0 : 0 < (a :: l).length := by rw [List.length_cons]; omega
  generalize hn : (a :: l).length = n at hlen hn0 hr' ⊢
  have hn' := Aside0.mk hn
  clear hn
  have c1 : decide ((n : Int) < 1) = false := decide_eq_false (by omega)
  have c2 : (0 : Int) < (n : Int) := by omega
  have c4 : decide (n < 1) = false := decide_eq_false (by omega)
  go_enter Tryd.func119, Tryd.ntmps119
  go_wp2
  go_loopg [3, 4] (n - 1) (fun kq v3 v4 w' => ∃ i : Nat, v4 = .int .i64 (i : Int) ∧ w' = w ∧ Aside0 (1 ≤ i ∧ i + kq = n) ∧ Aside0 (v3 = .int .i64 ((l.take (i - 1)).foldl mx a)))
  case atStart => exact ⟨1, rfl, rfl, ⟨by omega⟩, ⟨rfl⟩⟩
  case round =>
    obtain ⟨i, rfl, rfl, hi, hv⟩ := hrel
    obtain rfl := hv.out
    cases gk with
    | zero =>
      have e1 : l.take (i - 1) = l := List.take_of_length_le (by have := hi.out; have := hn'.out; have := hl1.out; omega)
      have cb : decide ((i : Int) < (n : Int)) = false := decide_eq_false (by have := hi.out; omega)
      have cb2 : decide (i < n) = false := decide_eq_false (by have := hi.out; omega)
      replace e1 := Aside0.mk e1
      go_wp2
      go_ret
      exact ⟨by rw [e1.out]; rfl, rfl⟩
    | succ m =>
      have hin : i < n := by have := hi.out; omega
      have cb : decide ((i : Int) < (n : Int)) = true := decide_eq_true (by omega)
      have cb2 : decide (i < n) = true := decide_eq_true hin
      have p0 : (0 : Int) ≤ (i : Int) := by omega
      have p1 : (i : Int) < (n : Int) := by omega
      obtain ⟨ad2, e2, hx⟩ := Kd.at_int hr'.out (i : Int) p0 p1
      injection e2 with e2
      subst e2
      rw [Int.toNat_natCast] at hx
      have hil : i - 1 < l.length := by have := hi.out; have := hn'.out; have := hl1.out; omega
      have hrd : rd (a :: l) (i : Int) = l[i - 1] := by
        obtain ⟨j, rfl⟩ : ∃ j, i = j + 1 := ⟨i - 1, by have := hi.out; omega⟩
        simp only [Nat.add_sub_cancel] at hil ⊢
        rw [rd, Int.toNat_natCast, List.getD_cons_succ, List.getD_eq_getElem?_getD, List.getElem?_eq_getElem hil]; rfl
      have hnext : (l.take (i + 1 - 1)).foldl mx a = mx ((l.take (i - 1)).foldl mx a) l[i - 1] := by
        rw [show i + 1 - 1 = (i - 1) + 1 by have := hi.out; omega, List.take_succ_eq_append_getElem hil, List.foldl_append]
        rfl
      rw [hrd] at hx
      generalize l[i - 1] = x at hx hnext
      replace hnext := Aside0.mk hnext
      generalize (l.take (i - 1)).foldl mx a = acc at hnext ⊢
      have hi1 : wrap64 ((i : Int) + 1) = (i : Int) + 1 := by unfold wrap64; omega
      clear hrd hv
      go_wp2
      all_goals
        go_roundg m
        case measure => omega
        case rel => exact ⟨i + 1, by first | rfl | simp [*], rfl, ⟨by have := hi.out; omega⟩, ⟨by rw [hnext.out]; congr 1; simp only [mx]; split <;> omega⟩⟩
end Go.Proofs.YtblbieenfghbdaaDoor.E
