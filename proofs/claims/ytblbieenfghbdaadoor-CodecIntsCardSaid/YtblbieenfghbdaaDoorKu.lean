/- The calls of bits.Writer's push, Unary and Done, told by the list of the stream's bits. -/
import Derived.Test.YtblbieenfghbdaaDoorKw
namespace Go.Proofs.YtblbieenfghbdaaDoor.D
open Go.RowKit Go.Proofs.YtblbieenfghbdaaDoorW.PrintWords Go.Proofs.YtblbieenfghbdaaDoorW.PrintLast Go.Proofs.YtblbieenfghbdaaDoorW.PrintMore
set_option linter.unusedVariables false
set_option linter.unusedSimpArgs false
/-- One more bit behind a stream's bytes and their number of bits. -/
def packStep (s : List Int × Int) (b : Bool) : List Int × Int := (pushBits s.1 s.2 (if b then 1 else 0), s.2 + 1)
/-- The bytes of a list of bits. -/
def packL (β : List Bool) : List Int := (β.foldl packStep ([], 0)).1
theorem packL_snd (β : List Bool) (bs : List Int) (n : Int) : (β.foldl packStep (bs, n)).2 = n + β.length := by
  induction β generalizing bs n with
  | nil => simp
  | cons b β ih => simp only [List.foldl_cons, packStep, ih, List.length_cons]; omega
theorem packL_snoc (β : List Bool) (b : Bool) : packL (β ++ [b]) = pushBits (packL β) β.length (if b then 1 else 0) := by
  unfold packL
  rw [List.foldl_append, List.foldl_cons, List.foldl_nil]
  have h := packL_snd β [] 0
  simp only [packStep, h, Int.zero_add]
theorem pushBits_length (bs : List Int) (n bit : Int) : (pushBits bs n bit).length = if Int.tmod n 8 = 0 then bs.length + 1 else bs.length := by
  simp only [pushBits]
  split <;> simp
theorem snoc_induction {p : List Bool → Prop} (h0 : p []) (hs : ∀ β b, p β → p (β ++ [b])) (β : List Bool) : p β := by
  rw [← List.reverse_reverse β]
  induction β.reverse with
  | nil => exact h0
  | cons b γ ih => rw [List.reverse_cons]; exact hs _ _ ih
theorem packL_length (β : List Bool) : (packL β).length = (β.length + 7) / 8 := by
  induction β using snoc_induction with
  | h0 => rfl
  | hs β b ih =>
    rw [packL_snoc, pushBits_length, ih, List.length_append, List.length_singleton]
    have h : Int.tmod (β.length : Int) 8 = ((β.length % 8 : Nat) : Int) := by rw [Int.tmod_eq_emod_of_nonneg (by omega)]; omega
    rw [h]
    split <;> omega
/-- A writer whose stream holds some bits. -/
def WrB (w0 W : World) (g : Nat) (β : List Bool) : Prop := ∃ v, Wr w0 W g (packL β) β.length v
theorem WrB.bel {w0 W : World} {g : Nat} {β : List Bool} (h : WrB w0 W g β) : Below w0.heap.size w0 W := by obtain ⟨v, hv⟩ := h; exact hv.bel
theorem WrB.below {w0 W W1 : World} {g : Nat} {β : List Bool} (h : WrB w0 W g β) (hb : Below W.heap.size W W1) : WrB w0 W1 g β := by
  obtain ⟨v, hv⟩ := h
  exact ⟨v, (hb.block g (blk_lt hv.blk)).trans hv.blk, hv.hg, Kd.R_kept hv.own (Kept.of_below hb (fun _ => False)) (fun _ _ e => e), below_then hv.bel hv.bel.size hb⟩
theorem bits_Writer_pushB.calls (g : Nat) (β : List Bool) (b : Bool) (bit : Int) (w0 w : World) (hI : WrB w0 w g β) (hb : bits .and .u64 bit 1 = if b then 1 else 0) (hl : β.length < 1099511627776) :
    Calls Tryd.prog 129 #[.pointer (some ⟨g, 0, none⟩), .int .u64 bit] w fun e w' => e = .returned (.tuple #[]) ∧ WrB w0 w' g (β ++ [b]) ∧ KeepT w w' g := by
  obtain ⟨v, hv⟩ := hI
  have hlen := packL_length β
  refine (bits_Writer_push.calls g (packL β) β.length bit v w0 w hv (by omega) (fun h e => ?_) (by omega)).mono ?_
  · rw [e] at hlen
    rw [Int.tmod_eq_emod_of_nonneg (by omega)] at h
    have : ([] : List Int).length = 0 := rfl
    omega
  · rintro e w' ⟨rfl, v', hw, hk⟩
    refine ⟨rfl, ⟨v', ?_⟩, hk⟩
    rw [packL_snoc]
    have e1 : wrap64 ((β.length : Int) + 1) = ((β ++ [b]).length : Int) := by
      rw [wrap_in _ (by omega) (by omega)]; simp
    rw [e1] at hw
    have e2 : pushBits (packL β) β.length bit = pushBits (packL β) β.length (if b then 1 else 0) := by
      have e3 : ∀ x at_, pushByte x at_ bit = pushByte x at_ (if b then 1 else 0) := fun x at_ => by
        rw [pushByte, pushByte, hb]
        cases b <;> rfl
      simp only [pushBits, e3]
    rw [← e2]
    exact hw
/-! ### bits_Writer_Unary: function 100 -/
set_option maxHeartbeats 8000000 in
set_option maxRecDepth 100000 in
theorem bits_Writer_Unary.calls (g : Nat) (β : List Bool) (n : Int) (w0 w : World) (hI : WrB w0 w g β) (h0 : 0 ≤ n) (h1 : n ≤ 64) (hl : β.length < 549755813888) :
    Calls Tryd.prog 100 #[.pointer (some ⟨g, 0, none⟩), .int .i64 n] w fun e w' => e = .returned (.tuple #[]) ∧ WrB w0 w' g (β ++ List.replicate n.toNat true ++ [false]) ∧ KeepT w w' g := by
  have hcl : bits_clamp.f n 65536 = some n := by
    simp only [bits_clamp.f, mx, mn, Option.some.injEq]
    (repeat' split) <;> omega
  have hI' := Aside0.mk hI
  clear hI
  go_enter Tryd.func100, Tryd.ntmps100
  go_wp2_with (first | (go_at_call 128; refine (bits_clamp.calls n 65536 n w hcl).mono ?_; rintro e w1 ⟨rfl, hB1⟩))
  replace hI' := Aside0.mk (hI'.out.below hB1)
  have hk0 := Aside0.mk (KeepT.below hB1 g)
  clear hB1
  go_loopg [6] n.toNat (fun kq v6 w' => ∃ (i : Nat), v6 = .int .i64 (i : Int) ∧ Aside0 (WrB w0 w' g (β ++ List.replicate i true)) ∧ Aside0 (KeepT w w' g) ∧ Aside0 ((i : Int) + (kq : Int) = n))
  case atStart => exact ⟨0, rfl, ⟨by simpa using hI'.out⟩, hk0, ⟨by omega⟩⟩
  case round =>
    clear hI' hk0
    obtain ⟨i, rfl, hw, hk, hi⟩ := hrel
    cases gk with
    | zero =>
      have cb : decide ((i : Int) < n) = false := decide_eq_false (by have := hi.out; omega)
      go_wp2_with (first | (go_at_call 129; refine (bits_Writer_pushB.calls g (β ++ List.replicate i true) false 0 w0 _ hw.out (by decide) (by have := hi.out; rw [List.length_append, List.length_replicate]; omega)).mono ?_; rintro e w2 ⟨rfl, hw2, hk2⟩))
      go_end0
      have e1 : n.toNat = i := by have := hi.out; omega
      rw [e1]
      exact ⟨rfl, hw2, hk.out.trans hk2⟩
    | succ m =>
      have cb : decide ((i : Int) < n) = true := decide_eq_true (by have := hi.out; omega)
      have hi1 : wrap64 ((i : Int) + 1) = (i : Int) + 1 := wrap_in _ (by omega) (by have := hi.out; omega)
      go_wp2_with (first | (go_at_call 129; refine (bits_Writer_pushB.calls g (β ++ List.replicate i true) true 1 w0 _ hw.out (by decide) (by have := hi.out; rw [List.length_append, List.length_replicate]; omega)).mono ?_; rintro e w2 ⟨rfl, hw2, hk2⟩))
      go_roundg m
      case measure => omega
      case rel =>
        refine ⟨i + 1, by simp [hi1], ⟨?_⟩, ⟨hk.out.trans hk2⟩, ⟨by have := hi.out; omega⟩⟩
        rw [List.replicate_succ', ← List.append_assoc]
        exact hw2
/-! ### bits_Writer_Done: function 65 -/
set_option maxHeartbeats 8000000 in
set_option maxRecDepth 100000 in
theorem bits_Writer_Done.calls (g : Nat) (β : List Bool) (w0 w : World) (hI : WrB w0 w g β) (hl : β.length < 549755813888) :
    Calls Tryd.prog 65 #[.pointer (some ⟨g, 0, none⟩)] w fun e w' => ∃ v : Value, e = .returned v ∧ Kd.R (Kd.int .u8) 5 w' w.heap.size (fun _ => True) v (packL β) ∧ Below w.heap.size w w' := by
  obtain ⟨v, hv⟩ := hI
  obtain ⟨A, c, rfl⟩ := Kd.R_slice hv.own
  have k0 : w.cell? ⟨g, 0, none⟩ = some (.slice A (packL β).length c) := (blk_cell hv.blk 0).trans rfl
  have hlen := packL_length β
  have hl2 : (packL β).length ≤ 140737488355328 := by omega
  clear hlen
  go_enter Tryd.func65, Tryd.ntmps65
  go_wp2_with (first | (go_at_call 89; refine (slices_Clone.calls A c (packL β) w (Kd.R_reads' hv.own).2.2 hl2).mono ?_; rintro e w1 ⟨v1, rfl, hR, hB⟩))
  go_ret
  exact ⟨_, rfl, hR, hB⟩
end Go.Proofs.YtblbieenfghbdaaDoor.D
