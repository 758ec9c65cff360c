/- The call of labels.Valid on an empty list returns true; of other lists nothing is said here. -/
import Derived.Test.YtblbieenfghbdaaQxA
import Derived.Test.YtblbieenfghbdaaShelf
import Derived.Lib.Hide
import Derived.WalkSpells
import Derived.Lib.SliceRun
namespace Go.Proofs.Ytblbieenfghbdaa.Q
open Go.RowKit Go.Proofs.YtblbieenfghbdaaW.PrintWords Go.Proofs.YtblbieenfghbdaaW.PrintLast Go.Proofs.YtblbieenfghbdaaW.PrintMore
set_option linter.unusedVariables false
set_option linter.unusedSimpArgs false

theorem insertion_nil (A : Option Addr) (c : Nat) (f : Value) (w : World) :
    Calls Try.prog 84 #[.slice A 0 c, .int .i64 0, .int .i64 0, f] w fun e w' => e = .returned (.tuple #[]) ∧ w = w' := by
  go_enter Try.func84, Try.ntmps84
  go_wp2
  go_loop [8] (fun i => i = .int .i64 1) (fun _ => 0)
  case atStart => rfl
  case round =>
    obtain rfl := hrel
    go_wp2
    go_end0
    exact ⟨rfl, rfl⟩
set_option maxHeartbeats 400000 in
set_option maxRecDepth 100000 in
theorem pdqsort_nil (A : Option Addr) (c : Nat) (l : Int) (f : Value) (w : World) :
    Calls Try.prog 78 #[.slice A 0 c, .int .i64 0, .int .i64 0, .int .i64 l, f] w fun e w' => e = .returned (.tuple #[]) ∧ w = w' := by
  go_enter Try.func78, Try.ntmps78
  go_wp2
  refine wp_loop_once ?_
  go_wp2_with (go_at_call 84; refine (insertion_nil _ _ _ _).mono ?_; rintro e w' ⟨rfl, rfl⟩)
  exact bodyPost_ret (results_none rfl _ _ _) rfl ⟨rfl, rfl⟩
theorem sortfunc_nil (A : Option Addr) (c : Nat) (f : Value) (w : World) :
    Calls Try.prog 69 #[.slice A 0 c, f] w fun e w' => e = .returned (.tuple #[]) ∧ w = w' := by
  go_enter Try.func69, Try.ntmps69
  go_wp2_with (first | (go_at_call 79; refine (Go.Proofs.Try.bits_Len 0 _ (by omega) (by omega)).mono ?_; rintro e w' ⟨rfl, rfl⟩) | (go_at_call 78; refine (pdqsort_nil _ _ _ _ _).mono ?_; rintro e w' ⟨rfl, rfl⟩))
  go_end0
  exact ⟨rfl, rfl⟩
theorem clone_nil (A : Option Addr) (c : Nat) (w : World) :
    Calls Try.prog 68 #[.slice A 0 c] w fun e w' => ∃ A' c', e = .returned (.slice A' 0 c') ∧ Below w.heap.size w w' := by
  have h0 := fun W => Lib.run_eql_slice_nil (P := Try.prog) W 23 51 A 0 c 0 0 Try.underlying23
  cases A with
  | none =>
    go_enter Try.func68, Try.ntmps68
    go_wp2
    go_ret
    exact ⟨none, 0, rfl, Below.refl _ _⟩
  | some a =>
    go_enter Try.func68, Try.ntmps68
    go_wp2
    go_ret
    exact ⟨_, _, rfl, by first | exact (Below.refl _ _).alloc (Nat.le_refl _) _ | exact ((Below.refl _ _).alloc (Nat.le_refl _) _).drew⟩
theorem new_nil (A : Option Addr) (c : Nat) (w : World) :
    Calls Try.prog 54 #[.slice A 0 c] w fun e w' => ∃ A' c', e = .returned (.tuple #[.slice A' 0 c', .int .i64 0]) ∧ Below w.heap.size w w' := by
  go_enter Try.func54, Try.ntmps54
  go_wp2
  go_loop [12] (fun i => i = .int .i64 0) (fun _ => 0)
  case atStart => rfl
  case round =>
    obtain rfl := hrel
    go_wp2_with (first | (go_at_call 68; refine (clone_nil _ _ _).mono ?_; rintro e w' ⟨A', c', rfl, hb⟩) | (go_at_call 69; refine (sortfunc_nil _ _ _ _).mono ?_; rintro e w' ⟨rfl, rfl⟩))
    go_ret2
    exact ⟨_, _, rfl, hb⟩
def labels_Valid.f (l0 : List (S51)) : Option (Bool) := if l0 = [] then some true else none
theorem labels_Valid.calls (A0 : Option Addr) (c0 : Nat) (l0 : List (S51)) (r : Bool) (w : World) (hr0 : Kd.C k51 w A0 l0.length l0) (hc0 : l0.length ≤ c0) (h : labels_Valid.f l0 = some r) :
    Calls Try.prog 35 #[.slice A0 l0.length c0] w fun e w' => e = .returned (.bool r) ∧ Below w.heap.size w w' := by
  unfold labels_Valid.f at h
  by_cases h0 : l0 = []
  · subst h0
    rw [if_pos rfl] at h
    obtain rfl := Option.some.inj h
    clear hr0 hc0 h
    go_enter Try.func35, Try.ntmps35
    go_wp2_with (go_at_call 54; refine (new_nil _ _ _).mono ?_; rintro e w' ⟨A', c', rfl, hb⟩)
    go_loop [16] (fun i => i = .int .i64 0) (fun _ => 0)
    case atStart => rfl
    case round =>
      obtain rfl := hrel
      go_wp2
      go_ret
      exact ⟨rfl, hb⟩
  · rw [if_neg h0] at h
    cases h
end Go.Proofs.Ytblbieenfghbdaa.Q
