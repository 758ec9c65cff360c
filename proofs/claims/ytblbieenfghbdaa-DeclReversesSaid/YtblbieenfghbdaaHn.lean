/- The call of labels.Name returns nameB of the string, for every string; no condition. -/
import Derived.Test.YtblbieenfghbdaaQxA
import Derived.Lib.Hide
namespace Go.Proofs.Ytblbieenfghbdaa.Q
open Go.RowKit Go.Proofs.YtblbieenfghbdaaW.PrintWords Go.Proofs.YtblbieenfghbdaaW.PrintLast Go.Proofs.YtblbieenfghbdaaW.PrintMore
set_option linter.unusedVariables false
set_option linter.unusedSimpArgs false

/-! labels.Name at every string -/
def lowB (c : Int) : Bool := decide (97 ≤ c) && decide (c ≤ 122)
def digB (c : Int) : Bool := (decide (48 ≤ c) && decide (c ≤ 57)) || c == 95
/-- What labels.Name says of byte c at place i. -/
def nmB (i : Nat) (c : Int) : Bool := lowB c || (i != 0 && digB c)
def nameB (s : ByteArray) : Bool := decide (1 ≤ s.size) && decide (s.size ≤ 16) && (List.range s.size).all fun i => nmB i (bt s (i : Int))
def labels_Name.f (a0 : ByteArray) : Option (Bool) := some (nameB a0)

theorem width_pos (s : ByteArray) (pos : Nat) (h : pos < s.size) : 1 ≤ (Utf8.decode s pos).2 := by
  by_cases ha : (s[pos]'h).toNat < 128
  · rw [decode_ascii s pos h ha]
    exact Nat.le_refl _
  · exact (decode_high s pos h (by omega)).2

/-- The rune at pos: below 128 it is the byte; else the byte is no ASCII. -/
theorem rune_at (s : ByteArray) (pos : Nat) (h : pos < s.size) :
    ∃ (r : Int) (wd : Nat), ((Utf8.decode s pos).1 : Int) = r ∧ (Utf8.decode s pos).2 = wd ∧ 1 ≤ wd ∧ 0 ≤ r ∧ r ≤ 2147483647 ∧ ((r < 128 ∧ bt s (pos : Int) = r ∧ wd = 1) ∨ (128 ≤ r ∧ 128 ≤ bt s (pos : Int))) := by
  refine ⟨_, _, rfl, rfl, width_pos s pos h, by omega, by have := decode_le s pos; omega, ?_⟩
  have hb : bt s (pos : Int) = ((s[pos]'h).toNat : Int) := by simp [bt, h]
  by_cases ha : (s[pos]'h).toNat < 128
  · left
    rw [decode_ascii s pos h ha, hb]
    exact ⟨by show (((s[pos]'h).toNat : Nat) : Int) < 128; omega, rfl, rfl⟩
  · right
    rw [hb]
    exact ⟨by have := (decode_high s pos h (by omega)).1; omega, by omega⟩

theorem nameB_true {s : ByteArray} (h1 : 1 ≤ s.size) (h2 : s.size ≤ 16) (h : ∀ j, j < s.size → nmB j (bt s (j : Int)) = true) : nameB s = true := by
  simp only [nameB, Bool.and_eq_true, decide_eq_true_eq, List.all_eq_true, List.mem_range]
  exact ⟨⟨h1, h2⟩, h⟩
theorem nameB_false {s : ByteArray} (h : s.size < 1 ∨ 16 < s.size ∨ ∃ j, j < s.size ∧ nmB j (bt s (j : Int)) = false) : nameB s = false := by
  rw [Bool.eq_false_iff]
  intro h'
  simp only [nameB, Bool.and_eq_true, decide_eq_true_eq, List.all_eq_true, List.mem_range] at h'
  rcases h with h | h | ⟨j, hj, h⟩
  · omega
  · omega
  · rw [h'.2 j hj] at h
    cases h
theorem below_iter (w : World) (s : ByteArray) (pos : Nat) : Below w.heap.size w (w.iter s pos) := (Below.refl _ _).alloc (Nat.le_refl _) _

set_option maxHeartbeats 1000000 in
theorem name_in (s : ByteArray) (w : World) (h1 : 1 ≤ s.size) (h2 : s.size ≤ 16) :
    Calls Try.prog 34 #[.string s] w fun e w' => e = .returned (.bool (nameB s)) ∧ Below w.heap.size w w' := by
  have b1 : s.toList.isEmpty = false := by
    rw [ByteArray.toList_eq, List.isEmpty_eq_false_iff]
    intro h0
    have : s.data.toList.length = 0 := by rw [h0]; rfl
    have h3 : s.size = s.data.toList.length := (Array.length_toList).symm
    omega
  have b2 : decide (16 < (s.size : Int)) = false := by simp; omega
  have b3 : decide (16 < s.size) = false := by simp; omega
  go_enter Try.func34, Try.ntmps34
  go_wp2
  go_loopw [3, 4, 5, 6] (fun _ _ _ _ w' => ∃ pos : Nat, w' = w.iter s pos ∧ pos ≤ s.size ∧ ∀ j, j < pos → nmB j (bt s (j : Int)) = true) (fun _ _ _ _ w' => s.size - w'.iterPos w.heap.size)
  case atStart => exact ⟨0, rfl, by omega, fun j hj => by omega⟩
  case round =>
    obtain ⟨pos, rfl, hle, hall⟩ := hrel
    have HA := Lib.hid hall
    clear hall
    by_cases hp : pos < s.size
    · obtain ⟨r, wd, hr, hwd, hw1, hr0, hr1, hrb⟩ := rune_at s pos hp
      have hnx : ∀ ty, (Instr.next (.pointer (some ⟨w.heap.size, 0, none⟩)) true ty).run Try.prog (w.iter s pos) = .ok (.tuple #[.bool true, .int .i64 pos, .int .i32 r]) (w.iter s (pos + wd)) := fun ty => by rw [← hr, ← hwd]; exact run_next_any w s pos ty hp
      have HR := Lib.hid hrb
      clear hrb hr hwd
      have hparts : (97 ≤ r ∧ r ≤ 122) ∨ (48 ≤ r ∧ r ≤ 57) ∨ (r = 95) ∨ (r < 48) ∨ (57 < r ∧ r < 97 ∧ r ≠ 95) ∨ (122 < r) := by omega
      rcases hparts with hc | hc | hc | hc | hc | hc
      · have e1 : decide (97 ≤ r) = true := by first | (simp; done) | (simp; omega)
        have e2 : decide (r ≤ 122) = true := by first | (simp; done) | (simp; omega)
        have e3 : decide (48 ≤ r) = true := by first | (simp; done) | (simp; omega)
        have e4 : decide (r ≤ 57) = false := by first | (simp; done) | (simp; omega)
        have e5 : (r == 95) = false := by first | (simp; done) | (simp; omega)
        have hb : nmB pos (bt s (pos : Int)) = true ∧ wd = 1 := by
          rcases HR.out with ⟨_, hb, hw⟩ | ⟨h128, _⟩
          · rw [hb]; exact ⟨by simp only [nmB, lowB, digB, e1, e2, e3, e4, e5] <;> first | rfl | (simp; done) | (simp; omega), hw⟩
          · omega
        have HN := Lib.hid hb
        clear hb hc
        go_wp2
        go_roundw
        case rel =>
          refine ⟨pos + wd, rfl, by have := HN.out.2; omega, fun j hj => ?_⟩
          have hw := HN.out.2
          rcases Nat.lt_or_ge j pos with h | h
          · exact HA.out j h
          · obtain rfl : j = pos := by omega
            exact HN.out.1
        case measure =>
          simp
          omega
      · by_cases hz : pos = 0
        · have e1 : decide (97 ≤ r) = false := by first | (simp; done) | (simp; omega)
          have e2 : decide (r ≤ 122) = true := by first | (simp; done) | (simp; omega)
          have e3 : decide (48 ≤ r) = true := by first | (simp; done) | (simp; omega)
          have e4 : decide (r ≤ 57) = true := by first | (simp; done) | (simp; omega)
          have e5 : (r == 95) = false := by first | (simp; done) | (simp; omega)
          have e6 : ((pos : Int) == 0) = true := by first | (simp; done) | (simp; omega)
          have hb : nmB pos (bt s (pos : Int)) = false := by
            rcases HR.out with ⟨_, hb, hw⟩ | ⟨h128, hb⟩
            · rw [hb]; simp only [nmB, lowB, digB, e1, e2, e3, e4, e5] <;> first | rfl | (simp; done) | (simp; omega)
            · have g1 : decide (97 ≤ bt s (pos : Int)) = true := by first | (simp; done) | (simp; omega)
              have g2 : decide (bt s (pos : Int) ≤ 122) = false := by first | (simp; done) | (simp; omega)
              have g3 : decide (48 ≤ bt s (pos : Int)) = true := by first | (simp; done) | (simp; omega)
              have g4 : decide (bt s (pos : Int) ≤ 57) = false := by first | (simp; done) | (simp; omega)
              have g5 : (bt s (pos : Int) == 95) = false := by first | (simp; done) | (simp; omega)
              simp [nmB, lowB, digB, g1, g2, g3, g4, g5]
          have HN := Lib.hid hb
          clear hb hz hc
          go_wp2
          go_ret
          rw [nameB_false (.inr (.inr ⟨pos, hp, HN.out⟩))]
          exact ⟨rfl, below_iter _ _ _⟩
        · have e1 : decide (97 ≤ r) = false := by first | (simp; done) | (simp; omega)
          have e2 : decide (r ≤ 122) = true := by first | (simp; done) | (simp; omega)
          have e3 : decide (48 ≤ r) = true := by first | (simp; done) | (simp; omega)
          have e4 : decide (r ≤ 57) = true := by first | (simp; done) | (simp; omega)
          have e5 : (r == 95) = false := by first | (simp; done) | (simp; omega)
          have e6 : ((pos : Int) == 0) = false := by first | (simp; done) | (simp; omega)
          have hb : nmB pos (bt s (pos : Int)) = true ∧ wd = 1 := by
            rcases HR.out with ⟨_, hb, hw⟩ | ⟨h128, _⟩
            · rw [hb]; exact ⟨by simp only [nmB, lowB, digB, e1, e2, e3, e4, e5] <;> first | rfl | (simp; done) | (simp; omega), hw⟩
            · omega
          have HN := Lib.hid hb
          clear hb hz hc
          go_wp2
          go_roundw
          case rel =>
            refine ⟨pos + wd, rfl, by have := HN.out.2; omega, fun j hj => ?_⟩
            have hw := HN.out.2
            rcases Nat.lt_or_ge j pos with h | h
            · exact HA.out j h
            · obtain rfl : j = pos := by omega
              exact HN.out.1
          case measure =>
            simp
            omega
      · by_cases hz : pos = 0
        · have e1 : decide (97 ≤ r) = false := by first | (simp; done) | (simp; omega)
          have e2 : decide (r ≤ 122) = true := by first | (simp; done) | (simp; omega)
          have e3 : decide (48 ≤ r) = true := by first | (simp; done) | (simp; omega)
          have e4 : decide (r ≤ 57) = false := by first | (simp; done) | (simp; omega)
          have e5 : (r == 95) = true := by first | (simp; done) | (simp; omega)
          have e6 : ((pos : Int) == 0) = true := by first | (simp; done) | (simp; omega)
          have hb : nmB pos (bt s (pos : Int)) = false := by
            rcases HR.out with ⟨_, hb, hw⟩ | ⟨h128, hb⟩
            · rw [hb]; simp only [nmB, lowB, digB, e1, e2, e3, e4, e5] <;> first | rfl | (simp; done) | (simp; omega)
            · have g1 : decide (97 ≤ bt s (pos : Int)) = true := by first | (simp; done) | (simp; omega)
              have g2 : decide (bt s (pos : Int) ≤ 122) = false := by first | (simp; done) | (simp; omega)
              have g3 : decide (48 ≤ bt s (pos : Int)) = true := by first | (simp; done) | (simp; omega)
              have g4 : decide (bt s (pos : Int) ≤ 57) = false := by first | (simp; done) | (simp; omega)
              have g5 : (bt s (pos : Int) == 95) = false := by first | (simp; done) | (simp; omega)
              simp [nmB, lowB, digB, g1, g2, g3, g4, g5]
          have HN := Lib.hid hb
          clear hb hz hc
          go_wp2
          go_ret
          rw [nameB_false (.inr (.inr ⟨pos, hp, HN.out⟩))]
          exact ⟨rfl, below_iter _ _ _⟩
        · have e1 : decide (97 ≤ r) = false := by first | (simp; done) | (simp; omega)
          have e2 : decide (r ≤ 122) = true := by first | (simp; done) | (simp; omega)
          have e3 : decide (48 ≤ r) = true := by first | (simp; done) | (simp; omega)
          have e4 : decide (r ≤ 57) = false := by first | (simp; done) | (simp; omega)
          have e5 : (r == 95) = true := by first | (simp; done) | (simp; omega)
          have e6 : ((pos : Int) == 0) = false := by first | (simp; done) | (simp; omega)
          have hb : nmB pos (bt s (pos : Int)) = true ∧ wd = 1 := by
            rcases HR.out with ⟨_, hb, hw⟩ | ⟨h128, _⟩
            · rw [hb]; exact ⟨by simp only [nmB, lowB, digB, e1, e2, e3, e4, e5] <;> first | rfl | (simp; done) | (simp; omega), hw⟩
            · omega
          have HN := Lib.hid hb
          clear hb hz hc
          go_wp2
          go_roundw
          case rel =>
            refine ⟨pos + wd, rfl, by have := HN.out.2; omega, fun j hj => ?_⟩
            have hw := HN.out.2
            rcases Nat.lt_or_ge j pos with h | h
            · exact HA.out j h
            · obtain rfl : j = pos := by omega
              exact HN.out.1
          case measure =>
            simp
            omega
      · by_cases hz : pos = 0
        · have e1 : decide (97 ≤ r) = false := by first | (simp; done) | (simp; omega)
          have e2 : decide (r ≤ 122) = true := by first | (simp; done) | (simp; omega)
          have e3 : decide (48 ≤ r) = false := by first | (simp; done) | (simp; omega)
          have e4 : decide (r ≤ 57) = true := by first | (simp; done) | (simp; omega)
          have e5 : (r == 95) = false := by first | (simp; done) | (simp; omega)
          have e6 : ((pos : Int) == 0) = true := by first | (simp; done) | (simp; omega)
          have hb : nmB pos (bt s (pos : Int)) = false := by
            rcases HR.out with ⟨_, hb, hw⟩ | ⟨h128, hb⟩
            · rw [hb]; simp only [nmB, lowB, digB, e1, e2, e3, e4, e5] <;> first | rfl | (simp; done) | (simp; omega)
            · have g1 : decide (97 ≤ bt s (pos : Int)) = true := by first | (simp; done) | (simp; omega)
              have g2 : decide (bt s (pos : Int) ≤ 122) = false := by first | (simp; done) | (simp; omega)
              have g3 : decide (48 ≤ bt s (pos : Int)) = true := by first | (simp; done) | (simp; omega)
              have g4 : decide (bt s (pos : Int) ≤ 57) = false := by first | (simp; done) | (simp; omega)
              have g5 : (bt s (pos : Int) == 95) = false := by first | (simp; done) | (simp; omega)
              simp [nmB, lowB, digB, g1, g2, g3, g4, g5]
          have HN := Lib.hid hb
          clear hb hz hc
          go_wp2
          go_ret
          rw [nameB_false (.inr (.inr ⟨pos, hp, HN.out⟩))]
          exact ⟨rfl, below_iter _ _ _⟩
        · have e1 : decide (97 ≤ r) = false := by first | (simp; done) | (simp; omega)
          have e2 : decide (r ≤ 122) = true := by first | (simp; done) | (simp; omega)
          have e3 : decide (48 ≤ r) = false := by first | (simp; done) | (simp; omega)
          have e4 : decide (r ≤ 57) = true := by first | (simp; done) | (simp; omega)
          have e5 : (r == 95) = false := by first | (simp; done) | (simp; omega)
          have e6 : ((pos : Int) == 0) = false := by first | (simp; done) | (simp; omega)
          have hb : nmB pos (bt s (pos : Int)) = false := by
            rcases HR.out with ⟨_, hb, hw⟩ | ⟨h128, hb⟩
            · rw [hb]; simp only [nmB, lowB, digB, e1, e2, e3, e4, e5] <;> first | rfl | (simp; done) | (simp; omega)
            · have g1 : decide (97 ≤ bt s (pos : Int)) = true := by first | (simp; done) | (simp; omega)
              have g2 : decide (bt s (pos : Int) ≤ 122) = false := by first | (simp; done) | (simp; omega)
              have g3 : decide (48 ≤ bt s (pos : Int)) = true := by first | (simp; done) | (simp; omega)
              have g4 : decide (bt s (pos : Int) ≤ 57) = false := by first | (simp; done) | (simp; omega)
              have g5 : (bt s (pos : Int) == 95) = false := by first | (simp; done) | (simp; omega)
              simp [nmB, lowB, digB, g1, g2, g3, g4, g5]
          have HN := Lib.hid hb
          clear hb hz hc
          go_wp2
          go_ret
          rw [nameB_false (.inr (.inr ⟨pos, hp, HN.out⟩))]
          exact ⟨rfl, below_iter _ _ _⟩
      · by_cases hz : pos = 0
        · have e1 : decide (97 ≤ r) = false := by first | (simp; done) | (simp; omega)
          have e2 : decide (r ≤ 122) = true := by first | (simp; done) | (simp; omega)
          have e3 : decide (48 ≤ r) = true := by first | (simp; done) | (simp; omega)
          have e4 : decide (r ≤ 57) = false := by first | (simp; done) | (simp; omega)
          have e5 : (r == 95) = false := by first | (simp; done) | (simp; omega)
          have e6 : ((pos : Int) == 0) = true := by first | (simp; done) | (simp; omega)
          have hb : nmB pos (bt s (pos : Int)) = false := by
            rcases HR.out with ⟨_, hb, hw⟩ | ⟨h128, hb⟩
            · rw [hb]; simp only [nmB, lowB, digB, e1, e2, e3, e4, e5] <;> first | rfl | (simp; done) | (simp; omega)
            · have g1 : decide (97 ≤ bt s (pos : Int)) = true := by first | (simp; done) | (simp; omega)
              have g2 : decide (bt s (pos : Int) ≤ 122) = false := by first | (simp; done) | (simp; omega)
              have g3 : decide (48 ≤ bt s (pos : Int)) = true := by first | (simp; done) | (simp; omega)
              have g4 : decide (bt s (pos : Int) ≤ 57) = false := by first | (simp; done) | (simp; omega)
              have g5 : (bt s (pos : Int) == 95) = false := by first | (simp; done) | (simp; omega)
              simp [nmB, lowB, digB, g1, g2, g3, g4, g5]
          have HN := Lib.hid hb
          clear hb hz hc
          go_wp2
          go_ret
          rw [nameB_false (.inr (.inr ⟨pos, hp, HN.out⟩))]
          exact ⟨rfl, below_iter _ _ _⟩
        · have e1 : decide (97 ≤ r) = false := by first | (simp; done) | (simp; omega)
          have e2 : decide (r ≤ 122) = true := by first | (simp; done) | (simp; omega)
          have e3 : decide (48 ≤ r) = true := by first | (simp; done) | (simp; omega)
          have e4 : decide (r ≤ 57) = false := by first | (simp; done) | (simp; omega)
          have e5 : (r == 95) = false := by first | (simp; done) | (simp; omega)
          have e6 : ((pos : Int) == 0) = false := by first | (simp; done) | (simp; omega)
          have hb : nmB pos (bt s (pos : Int)) = false := by
            rcases HR.out with ⟨_, hb, hw⟩ | ⟨h128, hb⟩
            · rw [hb]; simp only [nmB, lowB, digB, e1, e2, e3, e4, e5] <;> first | rfl | (simp; done) | (simp; omega)
            · have g1 : decide (97 ≤ bt s (pos : Int)) = true := by first | (simp; done) | (simp; omega)
              have g2 : decide (bt s (pos : Int) ≤ 122) = false := by first | (simp; done) | (simp; omega)
              have g3 : decide (48 ≤ bt s (pos : Int)) = true := by first | (simp; done) | (simp; omega)
              have g4 : decide (bt s (pos : Int) ≤ 57) = false := by first | (simp; done) | (simp; omega)
              have g5 : (bt s (pos : Int) == 95) = false := by first | (simp; done) | (simp; omega)
              simp [nmB, lowB, digB, g1, g2, g3, g4, g5]
          have HN := Lib.hid hb
          clear hb hz hc
          go_wp2
          go_ret
          rw [nameB_false (.inr (.inr ⟨pos, hp, HN.out⟩))]
          exact ⟨rfl, below_iter _ _ _⟩
      · by_cases hz : pos = 0
        · have e1 : decide (97 ≤ r) = true := by first | (simp; done) | (simp; omega)
          have e2 : decide (r ≤ 122) = false := by first | (simp; done) | (simp; omega)
          have e3 : decide (48 ≤ r) = true := by first | (simp; done) | (simp; omega)
          have e4 : decide (r ≤ 57) = false := by first | (simp; done) | (simp; omega)
          have e5 : (r == 95) = false := by first | (simp; done) | (simp; omega)
          have e6 : ((pos : Int) == 0) = true := by first | (simp; done) | (simp; omega)
          have hb : nmB pos (bt s (pos : Int)) = false := by
            rcases HR.out with ⟨_, hb, hw⟩ | ⟨h128, hb⟩
            · rw [hb]; simp only [nmB, lowB, digB, e1, e2, e3, e4, e5] <;> first | rfl | (simp; done) | (simp; omega)
            · have g1 : decide (97 ≤ bt s (pos : Int)) = true := by first | (simp; done) | (simp; omega)
              have g2 : decide (bt s (pos : Int) ≤ 122) = false := by first | (simp; done) | (simp; omega)
              have g3 : decide (48 ≤ bt s (pos : Int)) = true := by first | (simp; done) | (simp; omega)
              have g4 : decide (bt s (pos : Int) ≤ 57) = false := by first | (simp; done) | (simp; omega)
              have g5 : (bt s (pos : Int) == 95) = false := by first | (simp; done) | (simp; omega)
              simp [nmB, lowB, digB, g1, g2, g3, g4, g5]
          have HN := Lib.hid hb
          clear hb hz hc
          go_wp2
          go_ret
          rw [nameB_false (.inr (.inr ⟨pos, hp, HN.out⟩))]
          exact ⟨rfl, below_iter _ _ _⟩
        · have e1 : decide (97 ≤ r) = true := by first | (simp; done) | (simp; omega)
          have e2 : decide (r ≤ 122) = false := by first | (simp; done) | (simp; omega)
          have e3 : decide (48 ≤ r) = true := by first | (simp; done) | (simp; omega)
          have e4 : decide (r ≤ 57) = false := by first | (simp; done) | (simp; omega)
          have e5 : (r == 95) = false := by first | (simp; done) | (simp; omega)
          have e6 : ((pos : Int) == 0) = false := by first | (simp; done) | (simp; omega)
          have hb : nmB pos (bt s (pos : Int)) = false := by
            rcases HR.out with ⟨_, hb, hw⟩ | ⟨h128, hb⟩
            · rw [hb]; simp only [nmB, lowB, digB, e1, e2, e3, e4, e5] <;> first | rfl | (simp; done) | (simp; omega)
            · have g1 : decide (97 ≤ bt s (pos : Int)) = true := by first | (simp; done) | (simp; omega)
              have g2 : decide (bt s (pos : Int) ≤ 122) = false := by first | (simp; done) | (simp; omega)
              have g3 : decide (48 ≤ bt s (pos : Int)) = true := by first | (simp; done) | (simp; omega)
              have g4 : decide (bt s (pos : Int) ≤ 57) = false := by first | (simp; done) | (simp; omega)
              have g5 : (bt s (pos : Int) == 95) = false := by first | (simp; done) | (simp; omega)
              simp [nmB, lowB, digB, g1, g2, g3, g4, g5]
          have HN := Lib.hid hb
          clear hb hz hc
          go_wp2
          go_ret
          rw [nameB_false (.inr (.inr ⟨pos, hp, HN.out⟩))]
          exact ⟨rfl, below_iter _ _ _⟩
    · have hnx : ∀ ty, (Instr.next (.pointer (some ⟨w.heap.size, 0, none⟩)) true ty).run Try.prog (w.iter s pos) = _ := fun ty => run_next_end w s pos ty hp
      go_wp2
      go_ret
      obtain rfl : pos = s.size := by omega
      rw [nameB_true h1 h2 HA.out]
      exact ⟨rfl, below_iter _ _ _⟩

theorem labels_Name.calls (a0 : ByteArray) (r : Bool) (w : World) (h : labels_Name.f a0 = some r) :
    Calls Try.prog 34 #[.string a0] w fun e w' => e = .returned (.bool r) ∧ Below w.heap.size w w' := by
  obtain rfl := Option.some.inj h
  by_cases h1 : 1 ≤ a0.size
  · by_cases h2 : a0.size ≤ 16
    · exact name_in a0 w h1 h2
    · rw [nameB_false (.inr (.inl (by omega)))]
      have b1 : a0.toList.isEmpty = false := by
        rw [ByteArray.toList_eq, List.isEmpty_eq_false_iff]
        intro h0
        have : a0.data.toList.length = 0 := by rw [h0]; rfl
        have h3 : a0.size = a0.data.toList.length := (Array.length_toList).symm
        omega
      have b2 : decide (16 < (a0.size : Int)) = true := by simp; omega
      have b3 : decide (16 < a0.size) = true := by simp; omega
      clear h
      go_enter Try.func34, Try.ntmps34
      go_wp2
      go_ret
      exact ⟨rfl, Below.refl _ _⟩
  · rw [nameB_false (.inl (by omega))]
    have b1 : a0.toList.isEmpty = true := by
      rw [ByteArray.toList_eq, List.isEmpty_iff]
      apply List.eq_nil_of_length_eq_zero
      have h3 : a0.size = a0.data.toList.length := (Array.length_toList).symm
      omega
    clear h
    go_enter Try.func34, Try.ntmps34
    go_wp2
    go_ret
    exact ⟨rfl, Below.refl _ _⟩
end Go.Proofs.Ytblbieenfghbdaa.Q
