/- The call of labels.Text on an empty list returns the two braces; of other lists nothing is said here. -/
import Derived.Test.YtblbieenfghbdaaQxA
import Derived.Test.YtblbieenfghbdaaShelf
import Derived.Lib.Hide
namespace Go.Proofs.Ytblbieenfghbdaa.Q
open Go.RowKit Go.Proofs.YtblbieenfghbdaaW.PrintWords Go.Proofs.YtblbieenfghbdaaW.PrintLast Go.Proofs.YtblbieenfghbdaaW.PrintMore
set_option linter.unusedVariables false
set_option linter.unusedSimpArgs false

def labels_Text.f (l0 : List (S51)) : Option (ByteArray) := if l0 = [] then some ⟨#[123, 125]⟩ else none
set_option maxHeartbeats 400000 in
theorem labels_Text.calls (A0 : Option Addr) (c0 : Nat) (l0 : List (S51)) (r : ByteArray) (w : World) (hr0 : Kd.C k51 w A0 l0.length l0) (hc0 : l0.length ≤ c0) (h : labels_Text.f l0 = some r) :
    Calls Try.prog 59 #[.slice A0 l0.length c0] w fun e w' => e = .returned (.string r) ∧ Below w.heap.size w w' := by
  unfold labels_Text.f at h
  by_cases h0 : l0 = []
  · subst h0
    rw [if_pos rfl] at h
    obtain rfl := Option.some.inj h
    clear hr0 hc0 h
    have hf := Lib.fresh_isBuilder 111 5 w
    have HF := Lib.hid (Go.Proofs.Try.Builder_String_empty w.heap.size w.heap.size _ hf (by simp))
    clear hf
    go_enter Try.func59, Try.ntmps59
    go_wp2
    go_loop [8] (fun i => i = .int .i64 0) (fun _ => 0)
    case atStart => rfl
    case round =>
      obtain rfl := hrel
      go_wp2_with (go_at_call 75; refine HF.out.mono ?_; rintro e w' ⟨rfl, hb⟩)
      go_ret
      exact ⟨rfl, ((Below.refl _ _).alloc (Nat.le_refl _) _).trans hb⟩
  · rw [if_neg h0] at h
    cases h
end Go.Proofs.Ytblbieenfghbdaa.Q
