/- The call of decl.Valid returns what decl_Valid.f gives, whenever the functions for labels.Name and labels.Valid give results. -/
import Derived.Test.YtblbieenfghbdaaQxA
import Derived.Test.YtblbieenfghbdaaHn
import Derived.Test.YtblbieenfghbdaaHl
import Derived.Lib.Hide
namespace Go.Proofs.Ytblbieenfghbdaa.Q
open Go.RowKit Go.Proofs.YtblbieenfghbdaaW.PrintWords Go.Proofs.YtblbieenfghbdaaW.PrintLast Go.Proofs.YtblbieenfghbdaaW.PrintMore
set_option linter.unusedVariables false
set_option linter.unusedSimpArgs false

/-! decl.Valid: out of what labels.Name and labels.Valid tell -/
def s4 (a b c d : Int) : Bool := decide (a ≤ b) && (decide (b ≤ c) && decide (c ≤ d))
def s3 (a b c : Int) : Bool := decide (a ≤ b) && decide (b ≤ c)
theorem within4 (a b c d : Int) : decl_within.f 9 [a, b, c, d] = some (s4 a b c d) := by
  have h3 : wrap64 ((([a, b, c, d] : List Int).length : Int) - 1) = 3 := by unfold wrap64; simp
  have h2 : wrap64 ((3 : Int) - 1) = 2 := by unfold wrap64; omega
  have h1 : wrap64 ((2 : Int) - 1) = 1 := by unfold wrap64; omega
  have h0 : wrap64 ((1 : Int) - 1) = 0 := by unfold wrap64; omega
  simp only [decl_within.f, slices_IsSorted_int_int.f, h3]
  simp only [slices_IsSorted_int_int.l0, h2, h1, h0, rd, cmp_Less_int.f, cmp_isNaN_int.f, s4]
  by_cases x : d < c <;> by_cases y : c < b <;> by_cases z : b < a <;> simp [x, y, z] <;> omega
theorem within3 (a b c : Int) : decl_within.f 9 [a, b, c] = some (s3 a b c) := by
  have h3 : wrap64 ((([a, b, c] : List Int).length : Int) - 1) = 2 := by unfold wrap64; simp
  have h1 : wrap64 ((2 : Int) - 1) = 1 := by unfold wrap64; omega
  have h0 : wrap64 ((1 : Int) - 1) = 0 := by unfold wrap64; omega
  simp only [decl_within.f, slices_IsSorted_int_int.f, h3]
  simp only [slices_IsSorted_int_int.l0, h1, h0, rd, cmp_Less_int.f, cmp_isNaN_int.f, s3]
  by_cases y : c < b <;> by_cases z : b < a <;> simp [y, z] <;> omega
theorem reads_lit (w : World) (g : Nat) (xs : List Int) (h : w.heap[g]? = some (.cells (nums .i64 xs).toArray 3 (0, 0))) (hl : xs.length ≤ 8) : Kd.C (Kd.int .i64) w (some ⟨g, 0, none⟩) xs.length xs :=
  Kd.C_of_reads (d := (0 : Int)) (h1 := fun _ => rfl) ⟨rfl, by omega, fun _ => ⟨_, rfl, fun j hj => by
    rw [add_plain, blk_cell h j]
    simp [nums, List.getElem?_eq_getElem hj]⟩⟩
theorem within4_at (g : Nat) (a b c d : Int) (r : Bool) (w : World) (h : s4 a b c d = r) (hb : w.heap[g]? = some (.cells #[.int .i64 a, .int .i64 b, .int .i64 c, .int .i64 d] 3 (0, 0))) :
    Calls Try.prog 36 #[.slice (some ⟨g, 0, none⟩) 4 4] w fun e w' => e = .returned (.bool r) ∧ Drawn0 w w' :=
  decl_within.calls 9 (some ⟨g, 0, none⟩) 4 [a, b, c, d] r w (reads_lit w g [a, b, c, d] hb (by simp)) (by simp) (by rw [within4, h])
theorem within3_at (g : Nat) (a b c : Int) (r : Bool) (w : World) (h : s3 a b c = r) (hb : w.heap[g]? = some (.cells #[.int .i64 a, .int .i64 b, .int .i64 c] 3 (0, 0))) :
    Calls Try.prog 36 #[.slice (some ⟨g, 0, none⟩) 3 3] w fun e w' => e = .returned (.bool r) ∧ Drawn0 w w' :=
  decl_within.calls 9 (some ⟨g, 0, none⟩) 3 [a, b, c] r w (reads_lit w g [a, b, c] hb (by simp)) (by simp) (by rw [within3, h])

def validNum (u0 u1 u2 lo hi dn up fi la bu : Int) : Int :=
  if (s4 (-1073741824) lo hi 1073741824 && (s4 (-1048576) dn up 1048576 && s3 0 bu 1073741824)) = true then
    (if s4 0 fi la 1048576 = true then (if wrap64 (la - fi) ≥ 4096 then 4 else if (s3 (-3) u0 3 && (s3 (-3) u1 3 && s3 (-3) u2 3)) = true then 0 else 4) else 4)
  else 5
def decl_Valid.f (a0_0 : ByteArray) (l0_1 : List (S51)) (a0_2 : Int) (a0_3 : Int) (a0_4 : Int) (a0_5 : Int) (a0_6 : Int) (a0_7 : Int) (a0_8 : Int) (a0_9 : Int) (a0_10 : Int) (a0_11 : Int) : Option (Int) :=
  (labels_Name.f a0_0).bind fun n => if n = false then some 8 else (labels_Valid.f l0_1).bind fun v => if v = false then some 8 else some (validNum a0_2 a0_3 a0_4 a0_5 a0_6 a0_7 a0_8 a0_9 a0_10 a0_11)


/-- The declaration's block, in a later world. -/
structure VX (w W : World) (g : Nat) (nm : ByteArray) (A : Option Addr) (l c : Nat) (x2 x3 x4 x5 x6 x7 x8 x9 x10 x11 : Int) : Prop where
  blk : W.heap[g]? = some (.cells #[.string nm, .slice A l c, .int .i64 x2, .int .i64 x3, .int .i64 x4, .int .i64 x5, .int .i64 x6, .int .i64 x7, .int .i64 x8, .int .i64 x9, .int .i64 x10, .int .i64 x11] 27 (0, 0))
  below : Below w.heap.size w W
theorem VX.next0 {w W W1 : World} {g : Nat} {nm : ByteArray} {A : Option Addr} {l c : Nat} {x2 x3 x4 x5 x6 x7 x8 x9 x10 x11 : Int} (h : VX w W g nm A l c x2 x3 x4 x5 x6 x7 x8 x9 x10 x11) (hb : Below W.heap.size W W1) : VX w W1 g nm A l c x2 x3 x4 x5 x6 x7 x8 x9 x10 x11 :=
  ⟨blk_below h.blk hb, below_then h.below h.below.size hb⟩
theorem VX.next {w W W1 : World} {g : Nat} {nm : ByteArray} {A : Option Addr} {l c : Nat} {x2 x3 x4 x5 x6 x7 x8 x9 x10 x11 : Int} (h : VX w W g nm A l c x2 x3 x4 x5 x6 x7 x8 x9 x10 x11) {o : Obj} (hb : Drawn0 (W.alloc o) W1) : VX w W1 g nm A l c x2 x3 x4 x5 x6 x7 x8 x9 x10 x11 :=
  h.next0 (below_then (below_alloc (Below.refl _ W) o) (by simp) hb.below)
theorem VX.cells {w W : World} {g : Nat} {nm : ByteArray} {A : Option Addr} {l c : Nat} {x2 x3 x4 x5 x6 x7 x8 x9 x10 x11 : Int} (h : VX w W g nm A l c x2 x3 x4 x5 x6 x7 x8 x9 x10 x11) :
    W.cell? ⟨g, 0, none⟩ = some (.string nm) ∧ W.cell? ⟨g, 1, none⟩ = some (.slice A l c) ∧ W.cell? ⟨g, 2, none⟩ = some (.int .i64 x2) ∧ W.cell? ⟨g, 3, none⟩ = some (.int .i64 x3) ∧ W.cell? ⟨g, 4, none⟩ = some (.int .i64 x4) ∧ W.cell? ⟨g, 5, none⟩ = some (.int .i64 x5) ∧ W.cell? ⟨g, 6, none⟩ = some (.int .i64 x6) ∧ W.cell? ⟨g, 7, none⟩ = some (.int .i64 x7) ∧ W.cell? ⟨g, 8, none⟩ = some (.int .i64 x8) ∧ W.cell? ⟨g, 9, none⟩ = some (.int .i64 x9) ∧ W.cell? ⟨g, 10, none⟩ = some (.int .i64 x10) ∧ W.cell? ⟨g, 11, none⟩ = some (.int .i64 x11) :=
  ⟨(blk_cell h.blk 0).trans rfl, (blk_cell h.blk 1).trans rfl, (blk_cell h.blk 2).trans rfl, (blk_cell h.blk 3).trans rfl, (blk_cell h.blk 4).trans rfl, (blk_cell h.blk 5).trans rfl, (blk_cell h.blk 6).trans rfl, (blk_cell h.blk 7).trans rfl, (blk_cell h.blk 8).trans rfl, (blk_cell h.blk 9).trans rfl, (blk_cell h.blk 10).trans rfl, (blk_cell h.blk 11).trans rfl⟩
def LpV (r0 r1 r2 : Bool) (i : Value) : Prop := i = .int .i64 0 ∨ (i = .int .i64 1 ∧ r0 = true) ∨ (i = .int .i64 2 ∧ r0 = true ∧ r1 = true) ∨ (i = .int .i64 3 ∧ r0 = true ∧ r1 = true ∧ r2 = true)
theorem blk_new_at {w : World} {o : Obj} {g : Nat} (h : g = w.heap.size) : (w.alloc o).heap[g]? = some o := by
  subst h
  exact heap_alloc_new w o

set_option maxHeartbeats 1000000 in
theorem valid_n (a0_0 : ByteArray) (A0_1 : Option Addr) (c0_1 : Nat) (l0_1 : List (S51)) (a0_2 : Int) (a0_3 : Int) (a0_4 : Int) (a0_5 : Int) (a0_6 : Int) (a0_7 : Int) (a0_8 : Int) (a0_9 : Int) (a0_10 : Int) (a0_11 : Int) (w : World) (hr0_1 : Kd.C k51 w A0_1 l0_1.length l0_1) (hc0_1 : l0_1.length ≤ c0_1)
    (HN : Aside0 (labels_Name.f a0_0 = some false)) :
    Calls Try.prog 13 #[.agg #[.string a0_0, .slice A0_1 l0_1.length c0_1, .int .i64 a0_2, .int .i64 a0_3, .int .i64 a0_4, .int .i64 a0_5, .int .i64 a0_6, .int .i64 a0_7, .int .i64 a0_8, .int .i64 a0_9, .int .i64 a0_10, .int .i64 a0_11]] w fun e w' => e = .returned (.int .i64 8) ∧ Below w.heap.size w w' := by
  have HR := Aside0.mk hr0_1
  have HC := Aside0.mk hc0_1
  clear hr0_1 hc0_1
  have V0 := Aside0.mk (VX.mk (w := w) (W := w.alloc (.cells #[.string a0_0, .slice A0_1 l0_1.length c0_1, .int .i64 a0_2, .int .i64 a0_3, .int .i64 a0_4, .int .i64 a0_5, .int .i64 a0_6, .int .i64 a0_7, .int .i64 a0_8, .int .i64 a0_9, .int .i64 a0_10, .int .i64 a0_11] 27)) (g := w.heap.size) (heap_alloc_new w _) ((Below.refl w.heap.size w).alloc (Nat.le_refl _) _))
  go_enter Try.func13, Try.ntmps13
  go_wp2_with (first | (go_at_call 34; (with_reducible refine (labels_Name.calls _ false _ HN.out).mono ?_); rintro e w1 ⟨rfl, hb1⟩; have V := Aside0.mk (V0.out.next0 hb1); clear hb1; obtain ⟨k0, k1, k2, k3, k4, k5, k6, k7, k8, k9, k10, k11⟩ := V.out.cells))
  go_ret
  exact ⟨rfl, V.out.below⟩

set_option maxHeartbeats 1000000 in
theorem valid_v (a0_0 : ByteArray) (A0_1 : Option Addr) (c0_1 : Nat) (l0_1 : List (S51)) (a0_2 : Int) (a0_3 : Int) (a0_4 : Int) (a0_5 : Int) (a0_6 : Int) (a0_7 : Int) (a0_8 : Int) (a0_9 : Int) (a0_10 : Int) (a0_11 : Int) (w : World) (hr0_1 : Kd.C k51 w A0_1 l0_1.length l0_1) (hc0_1 : l0_1.length ≤ c0_1)
    (HN : Aside0 (labels_Name.f a0_0 = some true)) (HV : Aside0 (labels_Valid.f l0_1 = some false)) :
    Calls Try.prog 13 #[.agg #[.string a0_0, .slice A0_1 l0_1.length c0_1, .int .i64 a0_2, .int .i64 a0_3, .int .i64 a0_4, .int .i64 a0_5, .int .i64 a0_6, .int .i64 a0_7, .int .i64 a0_8, .int .i64 a0_9, .int .i64 a0_10, .int .i64 a0_11]] w fun e w' => e = .returned (.int .i64 8) ∧ Below w.heap.size w w' := by
  have HR := Aside0.mk hr0_1
  have HC := Aside0.mk hc0_1
  clear hr0_1 hc0_1
  have V0 := Aside0.mk (VX.mk (w := w) (W := w.alloc (.cells #[.string a0_0, .slice A0_1 l0_1.length c0_1, .int .i64 a0_2, .int .i64 a0_3, .int .i64 a0_4, .int .i64 a0_5, .int .i64 a0_6, .int .i64 a0_7, .int .i64 a0_8, .int .i64 a0_9, .int .i64 a0_10, .int .i64 a0_11] 27)) (g := w.heap.size) (heap_alloc_new w _) ((Below.refl w.heap.size w).alloc (Nat.le_refl _) _))
  go_enter Try.func13, Try.ntmps13
  go_wp2_with (first | (go_at_call 34; (with_reducible refine (labels_Name.calls _ true _ HN.out).mono ?_); rintro e w1 ⟨rfl, hb1⟩; have V := Aside0.mk (V0.out.next0 hb1); clear hb1; obtain ⟨k0, k1, k2, k3, k4, k5, k6, k7, k8, k9, k10, k11⟩ := V.out.cells) | (go_at_call 35; (with_reducible refine (labels_Valid.calls _ _ _ false _ (Kd.C_below HR.out V.out.below) HC.out HV.out).mono ?_); rintro e w2 ⟨rfl, hb2⟩; have V2 := Aside0.mk (V.out.next0 hb2); clear V hb2 k0 k1 k2 k3 k4 k5 k6 k7 k8 k9 k10 k11; have V := V2; clear V2; obtain ⟨k0, k1, k2, k3, k4, k5, k6, k7, k8, k9, k10, k11⟩ := V.out.cells))
  go_ret
  exact ⟨rfl, V.out.below⟩

set_option maxHeartbeats 1000000 in
theorem valid_a (a0_0 : ByteArray) (A0_1 : Option Addr) (c0_1 : Nat) (l0_1 : List (S51)) (a0_2 : Int) (a0_3 : Int) (a0_4 : Int) (a0_5 : Int) (a0_6 : Int) (a0_7 : Int) (a0_8 : Int) (a0_9 : Int) (a0_10 : Int) (a0_11 : Int) (w : World) (hr0_1 : Kd.C k51 w A0_1 l0_1.length l0_1) (hc0_1 : l0_1.length ≤ c0_1)
    (HN : Aside0 (labels_Name.f a0_0 = some true)) (HV : Aside0 (labels_Valid.f l0_1 = some true)) (HA : Aside0 (s4 (-1073741824) a0_5 a0_6 1073741824 = false)) :
    Calls Try.prog 13 #[.agg #[.string a0_0, .slice A0_1 l0_1.length c0_1, .int .i64 a0_2, .int .i64 a0_3, .int .i64 a0_4, .int .i64 a0_5, .int .i64 a0_6, .int .i64 a0_7, .int .i64 a0_8, .int .i64 a0_9, .int .i64 a0_10, .int .i64 a0_11]] w fun e w' => e = .returned (.int .i64 5) ∧ Below w.heap.size w w' := by
  have HR := Aside0.mk hr0_1
  have HC := Aside0.mk hc0_1
  clear hr0_1 hc0_1
  have V0 := Aside0.mk (VX.mk (w := w) (W := w.alloc (.cells #[.string a0_0, .slice A0_1 l0_1.length c0_1, .int .i64 a0_2, .int .i64 a0_3, .int .i64 a0_4, .int .i64 a0_5, .int .i64 a0_6, .int .i64 a0_7, .int .i64 a0_8, .int .i64 a0_9, .int .i64 a0_10, .int .i64 a0_11] 27)) (g := w.heap.size) (heap_alloc_new w _) ((Below.refl w.heap.size w).alloc (Nat.le_refl _) _))
  go_enter Try.func13, Try.ntmps13
  go_wp2_with (first | (go_at_call 34; (with_reducible refine (labels_Name.calls _ true _ HN.out).mono ?_); rintro e w1 ⟨rfl, hb1⟩; have V := Aside0.mk (V0.out.next0 hb1); clear hb1; obtain ⟨k0, k1, k2, k3, k4, k5, k6, k7, k8, k9, k10, k11⟩ := V.out.cells) | (go_at_call 35; (with_reducible refine (labels_Valid.calls _ _ _ true _ (Kd.C_below HR.out V.out.below) HC.out HV.out).mono ?_); rintro e w2 ⟨rfl, hb2⟩; have V2 := Aside0.mk (V.out.next0 hb2); clear V hb2 k0 k1 k2 k3 k4 k5 k6 k7 k8 k9 k10 k11; have V := V2; clear V2; obtain ⟨k0, k1, k2, k3, k4, k5, k6, k7, k8, k9, k10, k11⟩ := V.out.cells))
  ((with_reducible refine (within4_at _ (-1073741824) a0_5 a0_6 1073741824 false _ HA.out (blk_new_at rfl)).mono ?_); rintro e w3 ⟨rfl, hd3⟩; have V2 := Aside0.mk (V.out.next hd3); clear V hd3 k0 k1 k2 k3 k4 k5 k6 k7 k8 k9 k10 k11; have V := V2; clear V2; obtain ⟨k0, k1, k2, k3, k4, k5, k6, k7, k8, k9, k10, k11⟩ := V.out.cells)
  go_wp2_with (fail)
  go_ret
  exact ⟨rfl, V.out.below⟩

set_option maxHeartbeats 1000000 in
theorem valid_b (a0_0 : ByteArray) (A0_1 : Option Addr) (c0_1 : Nat) (l0_1 : List (S51)) (a0_2 : Int) (a0_3 : Int) (a0_4 : Int) (a0_5 : Int) (a0_6 : Int) (a0_7 : Int) (a0_8 : Int) (a0_9 : Int) (a0_10 : Int) (a0_11 : Int) (w : World) (hr0_1 : Kd.C k51 w A0_1 l0_1.length l0_1) (hc0_1 : l0_1.length ≤ c0_1)
    (HN : Aside0 (labels_Name.f a0_0 = some true)) (HV : Aside0 (labels_Valid.f l0_1 = some true)) (HA : Aside0 (s4 (-1073741824) a0_5 a0_6 1073741824 = true)) (HBB : Aside0 (s4 (-1048576) a0_7 a0_8 1048576 = false)) :
    Calls Try.prog 13 #[.agg #[.string a0_0, .slice A0_1 l0_1.length c0_1, .int .i64 a0_2, .int .i64 a0_3, .int .i64 a0_4, .int .i64 a0_5, .int .i64 a0_6, .int .i64 a0_7, .int .i64 a0_8, .int .i64 a0_9, .int .i64 a0_10, .int .i64 a0_11]] w fun e w' => e = .returned (.int .i64 5) ∧ Below w.heap.size w w' := by
  have HR := Aside0.mk hr0_1
  have HC := Aside0.mk hc0_1
  clear hr0_1 hc0_1
  have V0 := Aside0.mk (VX.mk (w := w) (W := w.alloc (.cells #[.string a0_0, .slice A0_1 l0_1.length c0_1, .int .i64 a0_2, .int .i64 a0_3, .int .i64 a0_4, .int .i64 a0_5, .int .i64 a0_6, .int .i64 a0_7, .int .i64 a0_8, .int .i64 a0_9, .int .i64 a0_10, .int .i64 a0_11] 27)) (g := w.heap.size) (heap_alloc_new w _) ((Below.refl w.heap.size w).alloc (Nat.le_refl _) _))
  go_enter Try.func13, Try.ntmps13
  go_wp2_with (first | (go_at_call 34; (with_reducible refine (labels_Name.calls _ true _ HN.out).mono ?_); rintro e w1 ⟨rfl, hb1⟩; have V := Aside0.mk (V0.out.next0 hb1); clear hb1; obtain ⟨k0, k1, k2, k3, k4, k5, k6, k7, k8, k9, k10, k11⟩ := V.out.cells) | (go_at_call 35; (with_reducible refine (labels_Valid.calls _ _ _ true _ (Kd.C_below HR.out V.out.below) HC.out HV.out).mono ?_); rintro e w2 ⟨rfl, hb2⟩; have V2 := Aside0.mk (V.out.next0 hb2); clear V hb2 k0 k1 k2 k3 k4 k5 k6 k7 k8 k9 k10 k11; have V := V2; clear V2; obtain ⟨k0, k1, k2, k3, k4, k5, k6, k7, k8, k9, k10, k11⟩ := V.out.cells))
  ((with_reducible refine (within4_at _ (-1073741824) a0_5 a0_6 1073741824 true _ HA.out (blk_new_at rfl)).mono ?_); rintro e w3 ⟨rfl, hd3⟩; have V2 := Aside0.mk (V.out.next hd3); clear V hd3 k0 k1 k2 k3 k4 k5 k6 k7 k8 k9 k10 k11; have V := V2; clear V2; obtain ⟨k0, k1, k2, k3, k4, k5, k6, k7, k8, k9, k10, k11⟩ := V.out.cells)
  go_wp2_with (fail)
  ((with_reducible refine (within4_at _ (-1048576) a0_7 a0_8 1048576 false _ HBB.out (blk_new_at rfl)).mono ?_); rintro e w3 ⟨rfl, hd3⟩; have V2 := Aside0.mk (V.out.next hd3); clear V hd3 k0 k1 k2 k3 k4 k5 k6 k7 k8 k9 k10 k11; have V := V2; clear V2; obtain ⟨k0, k1, k2, k3, k4, k5, k6, k7, k8, k9, k10, k11⟩ := V.out.cells)
  go_wp2_with (fail)
  go_ret
  exact ⟨rfl, V.out.below⟩

set_option maxHeartbeats 1000000 in
theorem valid_c (a0_0 : ByteArray) (A0_1 : Option Addr) (c0_1 : Nat) (l0_1 : List (S51)) (a0_2 : Int) (a0_3 : Int) (a0_4 : Int) (a0_5 : Int) (a0_6 : Int) (a0_7 : Int) (a0_8 : Int) (a0_9 : Int) (a0_10 : Int) (a0_11 : Int) (w : World) (hr0_1 : Kd.C k51 w A0_1 l0_1.length l0_1) (hc0_1 : l0_1.length ≤ c0_1)
    (HN : Aside0 (labels_Name.f a0_0 = some true)) (HV : Aside0 (labels_Valid.f l0_1 = some true)) (HA : Aside0 (s4 (-1073741824) a0_5 a0_6 1073741824 = true)) (HBB : Aside0 (s4 (-1048576) a0_7 a0_8 1048576 = true)) (HCC : Aside0 (s3 0 a0_11 1073741824 = false)) :
    Calls Try.prog 13 #[.agg #[.string a0_0, .slice A0_1 l0_1.length c0_1, .int .i64 a0_2, .int .i64 a0_3, .int .i64 a0_4, .int .i64 a0_5, .int .i64 a0_6, .int .i64 a0_7, .int .i64 a0_8, .int .i64 a0_9, .int .i64 a0_10, .int .i64 a0_11]] w fun e w' => e = .returned (.int .i64 5) ∧ Below w.heap.size w w' := by
  have HR := Aside0.mk hr0_1
  have HC := Aside0.mk hc0_1
  clear hr0_1 hc0_1
  have V0 := Aside0.mk (VX.mk (w := w) (W := w.alloc (.cells #[.string a0_0, .slice A0_1 l0_1.length c0_1, .int .i64 a0_2, .int .i64 a0_3, .int .i64 a0_4, .int .i64 a0_5, .int .i64 a0_6, .int .i64 a0_7, .int .i64 a0_8, .int .i64 a0_9, .int .i64 a0_10, .int .i64 a0_11] 27)) (g := w.heap.size) (heap_alloc_new w _) ((Below.refl w.heap.size w).alloc (Nat.le_refl _) _))
  go_enter Try.func13, Try.ntmps13
  go_wp2_with (first | (go_at_call 34; (with_reducible refine (labels_Name.calls _ true _ HN.out).mono ?_); rintro e w1 ⟨rfl, hb1⟩; have V := Aside0.mk (V0.out.next0 hb1); clear hb1; obtain ⟨k0, k1, k2, k3, k4, k5, k6, k7, k8, k9, k10, k11⟩ := V.out.cells) | (go_at_call 35; (with_reducible refine (labels_Valid.calls _ _ _ true _ (Kd.C_below HR.out V.out.below) HC.out HV.out).mono ?_); rintro e w2 ⟨rfl, hb2⟩; have V2 := Aside0.mk (V.out.next0 hb2); clear V hb2 k0 k1 k2 k3 k4 k5 k6 k7 k8 k9 k10 k11; have V := V2; clear V2; obtain ⟨k0, k1, k2, k3, k4, k5, k6, k7, k8, k9, k10, k11⟩ := V.out.cells))
  ((with_reducible refine (within4_at _ (-1073741824) a0_5 a0_6 1073741824 true _ HA.out (blk_new_at rfl)).mono ?_); rintro e w3 ⟨rfl, hd3⟩; have V2 := Aside0.mk (V.out.next hd3); clear V hd3 k0 k1 k2 k3 k4 k5 k6 k7 k8 k9 k10 k11; have V := V2; clear V2; obtain ⟨k0, k1, k2, k3, k4, k5, k6, k7, k8, k9, k10, k11⟩ := V.out.cells)
  go_wp2_with (fail)
  ((with_reducible refine (within4_at _ (-1048576) a0_7 a0_8 1048576 true _ HBB.out (blk_new_at rfl)).mono ?_); rintro e w3 ⟨rfl, hd3⟩; have V2 := Aside0.mk (V.out.next hd3); clear V hd3 k0 k1 k2 k3 k4 k5 k6 k7 k8 k9 k10 k11; have V := V2; clear V2; obtain ⟨k0, k1, k2, k3, k4, k5, k6, k7, k8, k9, k10, k11⟩ := V.out.cells)
  go_wp2_with (fail)
  ((with_reducible refine (within3_at _ 0 a0_11 1073741824 false _ HCC.out (blk_new_at rfl)).mono ?_); rintro e w3 ⟨rfl, hd3⟩; have V2 := Aside0.mk (V.out.next hd3); clear V hd3 k0 k1 k2 k3 k4 k5 k6 k7 k8 k9 k10 k11; have V := V2; clear V2; obtain ⟨k0, k1, k2, k3, k4, k5, k6, k7, k8, k9, k10, k11⟩ := V.out.cells)
  go_wp2_with (fail)
  go_ret
  exact ⟨rfl, V.out.below⟩

set_option maxHeartbeats 1000000 in
theorem valid_d (a0_0 : ByteArray) (A0_1 : Option Addr) (c0_1 : Nat) (l0_1 : List (S51)) (a0_2 : Int) (a0_3 : Int) (a0_4 : Int) (a0_5 : Int) (a0_6 : Int) (a0_7 : Int) (a0_8 : Int) (a0_9 : Int) (a0_10 : Int) (a0_11 : Int) (w : World) (hr0_1 : Kd.C k51 w A0_1 l0_1.length l0_1) (hc0_1 : l0_1.length ≤ c0_1)
    (HN : Aside0 (labels_Name.f a0_0 = some true)) (HV : Aside0 (labels_Valid.f l0_1 = some true)) (HA : Aside0 (s4 (-1073741824) a0_5 a0_6 1073741824 = true)) (HBB : Aside0 (s4 (-1048576) a0_7 a0_8 1048576 = true)) (HCC : Aside0 (s3 0 a0_11 1073741824 = true)) (HD : Aside0 (s4 0 a0_9 a0_10 1048576 = false)) :
    Calls Try.prog 13 #[.agg #[.string a0_0, .slice A0_1 l0_1.length c0_1, .int .i64 a0_2, .int .i64 a0_3, .int .i64 a0_4, .int .i64 a0_5, .int .i64 a0_6, .int .i64 a0_7, .int .i64 a0_8, .int .i64 a0_9, .int .i64 a0_10, .int .i64 a0_11]] w fun e w' => e = .returned (.int .i64 4) ∧ Below w.heap.size w w' := by
  have HR := Aside0.mk hr0_1
  have HC := Aside0.mk hc0_1
  clear hr0_1 hc0_1
  have V0 := Aside0.mk (VX.mk (w := w) (W := w.alloc (.cells #[.string a0_0, .slice A0_1 l0_1.length c0_1, .int .i64 a0_2, .int .i64 a0_3, .int .i64 a0_4, .int .i64 a0_5, .int .i64 a0_6, .int .i64 a0_7, .int .i64 a0_8, .int .i64 a0_9, .int .i64 a0_10, .int .i64 a0_11] 27)) (g := w.heap.size) (heap_alloc_new w _) ((Below.refl w.heap.size w).alloc (Nat.le_refl _) _))
  go_enter Try.func13, Try.ntmps13
  go_wp2_with (first | (go_at_call 34; (with_reducible refine (labels_Name.calls _ true _ HN.out).mono ?_); rintro e w1 ⟨rfl, hb1⟩; have V := Aside0.mk (V0.out.next0 hb1); clear hb1; obtain ⟨k0, k1, k2, k3, k4, k5, k6, k7, k8, k9, k10, k11⟩ := V.out.cells) | (go_at_call 35; (with_reducible refine (labels_Valid.calls _ _ _ true _ (Kd.C_below HR.out V.out.below) HC.out HV.out).mono ?_); rintro e w2 ⟨rfl, hb2⟩; have V2 := Aside0.mk (V.out.next0 hb2); clear V hb2 k0 k1 k2 k3 k4 k5 k6 k7 k8 k9 k10 k11; have V := V2; clear V2; obtain ⟨k0, k1, k2, k3, k4, k5, k6, k7, k8, k9, k10, k11⟩ := V.out.cells))
  ((with_reducible refine (within4_at _ (-1073741824) a0_5 a0_6 1073741824 true _ HA.out (blk_new_at rfl)).mono ?_); rintro e w3 ⟨rfl, hd3⟩; have V2 := Aside0.mk (V.out.next hd3); clear V hd3 k0 k1 k2 k3 k4 k5 k6 k7 k8 k9 k10 k11; have V := V2; clear V2; obtain ⟨k0, k1, k2, k3, k4, k5, k6, k7, k8, k9, k10, k11⟩ := V.out.cells)
  go_wp2_with (fail)
  ((with_reducible refine (within4_at _ (-1048576) a0_7 a0_8 1048576 true _ HBB.out (blk_new_at rfl)).mono ?_); rintro e w3 ⟨rfl, hd3⟩; have V2 := Aside0.mk (V.out.next hd3); clear V hd3 k0 k1 k2 k3 k4 k5 k6 k7 k8 k9 k10 k11; have V := V2; clear V2; obtain ⟨k0, k1, k2, k3, k4, k5, k6, k7, k8, k9, k10, k11⟩ := V.out.cells)
  go_wp2_with (fail)
  ((with_reducible refine (within3_at _ 0 a0_11 1073741824 true _ HCC.out (blk_new_at rfl)).mono ?_); rintro e w3 ⟨rfl, hd3⟩; have V2 := Aside0.mk (V.out.next hd3); clear V hd3 k0 k1 k2 k3 k4 k5 k6 k7 k8 k9 k10 k11; have V := V2; clear V2; obtain ⟨k0, k1, k2, k3, k4, k5, k6, k7, k8, k9, k10, k11⟩ := V.out.cells)
  go_wp2_with (fail)
  ((with_reducible refine (within4_at _ 0 a0_9 a0_10 1048576 false _ HD.out (blk_new_at rfl)).mono ?_); rintro e w3 ⟨rfl, hd3⟩; have V2 := Aside0.mk (V.out.next hd3); clear V hd3 k0 k1 k2 k3 k4 k5 k6 k7 k8 k9 k10 k11; have V := V2; clear V2; obtain ⟨k0, k1, k2, k3, k4, k5, k6, k7, k8, k9, k10, k11⟩ := V.out.cells)
  go_wp2_with (fail)
  go_ret
  exact ⟨rfl, V.out.below⟩

set_option maxHeartbeats 1000000 in
theorem valid_e (a0_0 : ByteArray) (A0_1 : Option Addr) (c0_1 : Nat) (l0_1 : List (S51)) (a0_2 : Int) (a0_3 : Int) (a0_4 : Int) (a0_5 : Int) (a0_6 : Int) (a0_7 : Int) (a0_8 : Int) (a0_9 : Int) (a0_10 : Int) (a0_11 : Int) (w : World) (hr0_1 : Kd.C k51 w A0_1 l0_1.length l0_1) (hc0_1 : l0_1.length ≤ c0_1)
    (HN : Aside0 (labels_Name.f a0_0 = some true)) (HV : Aside0 (labels_Valid.f l0_1 = some true)) (HA : Aside0 (s4 (-1073741824) a0_5 a0_6 1073741824 = true)) (HBB : Aside0 (s4 (-1048576) a0_7 a0_8 1048576 = true)) (HCC : Aside0 (s3 0 a0_11 1073741824 = true)) (HD : Aside0 (s4 0 a0_9 a0_10 1048576 = true)) (hE : decide (4096 ≤ wrap64 (a0_10 - a0_9)) = true) :
    Calls Try.prog 13 #[.agg #[.string a0_0, .slice A0_1 l0_1.length c0_1, .int .i64 a0_2, .int .i64 a0_3, .int .i64 a0_4, .int .i64 a0_5, .int .i64 a0_6, .int .i64 a0_7, .int .i64 a0_8, .int .i64 a0_9, .int .i64 a0_10, .int .i64 a0_11]] w fun e w' => e = .returned (.int .i64 4) ∧ Below w.heap.size w w' := by
  have HR := Aside0.mk hr0_1
  have HC := Aside0.mk hc0_1
  clear hr0_1 hc0_1
  have V0 := Aside0.mk (VX.mk (w := w) (W := w.alloc (.cells #[.string a0_0, .slice A0_1 l0_1.length c0_1, .int .i64 a0_2, .int .i64 a0_3, .int .i64 a0_4, .int .i64 a0_5, .int .i64 a0_6, .int .i64 a0_7, .int .i64 a0_8, .int .i64 a0_9, .int .i64 a0_10, .int .i64 a0_11] 27)) (g := w.heap.size) (heap_alloc_new w _) ((Below.refl w.heap.size w).alloc (Nat.le_refl _) _))
  go_enter Try.func13, Try.ntmps13
  go_wp2_with (first | (go_at_call 34; (with_reducible refine (labels_Name.calls _ true _ HN.out).mono ?_); rintro e w1 ⟨rfl, hb1⟩; have V := Aside0.mk (V0.out.next0 hb1); clear hb1; obtain ⟨k0, k1, k2, k3, k4, k5, k6, k7, k8, k9, k10, k11⟩ := V.out.cells) | (go_at_call 35; (with_reducible refine (labels_Valid.calls _ _ _ true _ (Kd.C_below HR.out V.out.below) HC.out HV.out).mono ?_); rintro e w2 ⟨rfl, hb2⟩; have V2 := Aside0.mk (V.out.next0 hb2); clear V hb2 k0 k1 k2 k3 k4 k5 k6 k7 k8 k9 k10 k11; have V := V2; clear V2; obtain ⟨k0, k1, k2, k3, k4, k5, k6, k7, k8, k9, k10, k11⟩ := V.out.cells))
  ((with_reducible refine (within4_at _ (-1073741824) a0_5 a0_6 1073741824 true _ HA.out (blk_new_at rfl)).mono ?_); rintro e w3 ⟨rfl, hd3⟩; have V2 := Aside0.mk (V.out.next hd3); clear V hd3 k0 k1 k2 k3 k4 k5 k6 k7 k8 k9 k10 k11; have V := V2; clear V2; obtain ⟨k0, k1, k2, k3, k4, k5, k6, k7, k8, k9, k10, k11⟩ := V.out.cells)
  go_wp2_with (fail)
  ((with_reducible refine (within4_at _ (-1048576) a0_7 a0_8 1048576 true _ HBB.out (blk_new_at rfl)).mono ?_); rintro e w3 ⟨rfl, hd3⟩; have V2 := Aside0.mk (V.out.next hd3); clear V hd3 k0 k1 k2 k3 k4 k5 k6 k7 k8 k9 k10 k11; have V := V2; clear V2; obtain ⟨k0, k1, k2, k3, k4, k5, k6, k7, k8, k9, k10, k11⟩ := V.out.cells)
  go_wp2_with (fail)
  ((with_reducible refine (within3_at _ 0 a0_11 1073741824 true _ HCC.out (blk_new_at rfl)).mono ?_); rintro e w3 ⟨rfl, hd3⟩; have V2 := Aside0.mk (V.out.next hd3); clear V hd3 k0 k1 k2 k3 k4 k5 k6 k7 k8 k9 k10 k11; have V := V2; clear V2; obtain ⟨k0, k1, k2, k3, k4, k5, k6, k7, k8, k9, k10, k11⟩ := V.out.cells)
  go_wp2_with (fail)
  ((with_reducible refine (within4_at _ 0 a0_9 a0_10 1048576 true _ HD.out (blk_new_at rfl)).mono ?_); rintro e w3 ⟨rfl, hd3⟩; have V2 := Aside0.mk (V.out.next hd3); clear V hd3 k0 k1 k2 k3 k4 k5 k6 k7 k8 k9 k10 k11; have V := V2; clear V2; obtain ⟨k0, k1, k2, k3, k4, k5, k6, k7, k8, k9, k10, k11⟩ := V.out.cells)
  go_wp2_with (fail)
  go_ret
  exact ⟨rfl, V.out.below⟩

set_option maxHeartbeats 4000000 in
theorem valid_u (a0_0 : ByteArray) (A0_1 : Option Addr) (c0_1 : Nat) (l0_1 : List (S51)) (a0_2 : Int) (a0_3 : Int) (a0_4 : Int) (a0_5 : Int) (a0_6 : Int) (a0_7 : Int) (a0_8 : Int) (a0_9 : Int) (a0_10 : Int) (a0_11 : Int) (w : World) (hr0_1 : Kd.C k51 w A0_1 l0_1.length l0_1) (hc0_1 : l0_1.length ≤ c0_1)
    (HN : Aside0 (labels_Name.f a0_0 = some true)) (HV : Aside0 (labels_Valid.f l0_1 = some true)) (HA : Aside0 (s4 (-1073741824) a0_5 a0_6 1073741824 = true)) (HBB : Aside0 (s4 (-1048576) a0_7 a0_8 1048576 = true)) (HCC : Aside0 (s3 0 a0_11 1073741824 = true)) (HD : Aside0 (s4 0 a0_9 a0_10 1048576 = true)) (hE : decide (4096 ≤ wrap64 (a0_10 - a0_9)) = false) (r0 r1 r2 : Bool) (HU0 : Aside0 (s3 (-3) a0_2 3 = r0)) (HU1 : Aside0 (s3 (-3) a0_3 3 = r1)) (HU2 : Aside0 (s3 (-3) a0_4 3 = r2)) :
    Calls Try.prog 13 #[.agg #[.string a0_0, .slice A0_1 l0_1.length c0_1, .int .i64 a0_2, .int .i64 a0_3, .int .i64 a0_4, .int .i64 a0_5, .int .i64 a0_6, .int .i64 a0_7, .int .i64 a0_8, .int .i64 a0_9, .int .i64 a0_10, .int .i64 a0_11]] w fun e w' => e = .returned (.int .i64 (if (r0 && (r1 && r2)) = true then 0 else 4)) ∧ Below w.heap.size w w' := by
  have HR := Aside0.mk hr0_1
  have HC := Aside0.mk hc0_1
  clear hr0_1 hc0_1
  have V0 := Aside0.mk (VX.mk (w := w) (W := w.alloc (.cells #[.string a0_0, .slice A0_1 l0_1.length c0_1, .int .i64 a0_2, .int .i64 a0_3, .int .i64 a0_4, .int .i64 a0_5, .int .i64 a0_6, .int .i64 a0_7, .int .i64 a0_8, .int .i64 a0_9, .int .i64 a0_10, .int .i64 a0_11] 27)) (g := w.heap.size) (heap_alloc_new w _) ((Below.refl w.heap.size w).alloc (Nat.le_refl _) _))
  have i0 : ∀ W, (Instr.index 25 (.agg #[.int .i64 a0_2, .int .i64 a0_3, .int .i64 a0_4]) (.int .i64 0)).run Try.prog W = .ok (.int .i64 a0_2) W := fun _ => by kernel_rfl
  have i1 : ∀ W, (Instr.index 25 (.agg #[.int .i64 a0_2, .int .i64 a0_3, .int .i64 a0_4]) (.int .i64 1)).run Try.prog W = .ok (.int .i64 a0_3) W := fun _ => by kernel_rfl
  have i2 : ∀ W, (Instr.index 25 (.agg #[.int .i64 a0_2, .int .i64 a0_3, .int .i64 a0_4]) (.int .i64 2)).run Try.prog W = .ok (.int .i64 a0_4) W := fun _ => by kernel_rfl
  go_enter Try.func13, Try.ntmps13
  go_wp2_with (first | (go_at_call 34; (with_reducible refine (labels_Name.calls _ true _ HN.out).mono ?_); rintro e w1 ⟨rfl, hb1⟩; have V := Aside0.mk (V0.out.next0 hb1); clear hb1; obtain ⟨k0, k1, k2, k3, k4, k5, k6, k7, k8, k9, k10, k11⟩ := V.out.cells) | (go_at_call 35; (with_reducible refine (labels_Valid.calls _ _ _ true _ (Kd.C_below HR.out V.out.below) HC.out HV.out).mono ?_); rintro e w2 ⟨rfl, hb2⟩; have V2 := Aside0.mk (V.out.next0 hb2); clear V hb2 k0 k1 k2 k3 k4 k5 k6 k7 k8 k9 k10 k11; have V := V2; clear V2; obtain ⟨k0, k1, k2, k3, k4, k5, k6, k7, k8, k9, k10, k11⟩ := V.out.cells))
  ((with_reducible refine (within4_at _ (-1073741824) a0_5 a0_6 1073741824 true _ HA.out (blk_new_at rfl)).mono ?_); rintro e w3 ⟨rfl, hd3⟩; have V2 := Aside0.mk (V.out.next hd3); clear V hd3 k0 k1 k2 k3 k4 k5 k6 k7 k8 k9 k10 k11; have V := V2; clear V2; obtain ⟨k0, k1, k2, k3, k4, k5, k6, k7, k8, k9, k10, k11⟩ := V.out.cells)
  go_wp2_with (fail)
  ((with_reducible refine (within4_at _ (-1048576) a0_7 a0_8 1048576 true _ HBB.out (blk_new_at rfl)).mono ?_); rintro e w3 ⟨rfl, hd3⟩; have V2 := Aside0.mk (V.out.next hd3); clear V hd3 k0 k1 k2 k3 k4 k5 k6 k7 k8 k9 k10 k11; have V := V2; clear V2; obtain ⟨k0, k1, k2, k3, k4, k5, k6, k7, k8, k9, k10, k11⟩ := V.out.cells)
  go_wp2_with (fail)
  ((with_reducible refine (within3_at _ 0 a0_11 1073741824 true _ HCC.out (blk_new_at rfl)).mono ?_); rintro e w3 ⟨rfl, hd3⟩; have V2 := Aside0.mk (V.out.next hd3); clear V hd3 k0 k1 k2 k3 k4 k5 k6 k7 k8 k9 k10 k11; have V := V2; clear V2; obtain ⟨k0, k1, k2, k3, k4, k5, k6, k7, k8, k9, k10, k11⟩ := V.out.cells)
  go_wp2_with (fail)
  ((with_reducible refine (within4_at _ 0 a0_9 a0_10 1048576 true _ HD.out (blk_new_at rfl)).mono ?_); rintro e w3 ⟨rfl, hd3⟩; have V2 := Aside0.mk (V.out.next hd3); clear V hd3 k0 k1 k2 k3 k4 k5 k6 k7 k8 k9 k10 k11; have V := V2; clear V2; obtain ⟨k0, k1, k2, k3, k4, k5, k6, k7, k8, k9, k10, k11⟩ := V.out.cells)
  go_wp2_with (fail)
  go_loopw [4, 58] (fun n i W => LpV r0 r1 r2 i ∧ VX w W w.heap.size a0_0 A0_1 l0_1.length c0_1 a0_2 a0_3 a0_4 a0_5 a0_6 a0_7 a0_8 a0_9 a0_10 a0_11) (fun _ i _ => 3 - (intOf i).toNat)
  case atStart => exact ⟨.inl rfl, V.out⟩
  case round =>
    obtain ⟨hlp, hv⟩ := hrel
    clear k0 k1 k2 k3 k4 k5 k6 k7 k8 k9 k10 k11 V
    have V := Aside0.mk hv
    clear hv
    rcases hlp with rfl | ⟨rfl, h0⟩ | ⟨rfl, h0, h1⟩ | ⟨rfl, h0, h1, h2⟩
    · cases r0 with
      | false =>
        go_wp2_with (fail)
        (with_reducible refine (within3_at _ (-3) a0_2 3 false _ HU0.out (blk_new_at rfl)).mono ?_); rintro e w3 ⟨rfl, hd3⟩; have V2 := Aside0.mk (V.out.next hd3); clear V hd3; have V := V2; clear V2
        go_wp2_with (fail)
        go_ret
        exact ⟨by simp, V.out.below⟩
      | true =>
        go_wp2_with (fail)
        (with_reducible refine (within3_at _ (-3) a0_2 3 true _ HU0.out (blk_new_at rfl)).mono ?_); rintro e w3 ⟨rfl, hd3⟩; have V2 := Aside0.mk (V.out.next hd3); clear V hd3; have V := V2; clear V2
        go_wp2_with (fail)
        go_roundw
        case rel => exact ⟨.inr (.inl ⟨rfl, rfl⟩), V.out⟩
        case measure => simp [intOf]
    · cases r1 with
      | false =>
        subst h0
        go_wp2_with (fail)
        (with_reducible refine (within3_at _ (-3) a0_3 3 false _ HU1.out (blk_new_at rfl)).mono ?_); rintro e w3 ⟨rfl, hd3⟩; have V2 := Aside0.mk (V.out.next hd3); clear V hd3; have V := V2; clear V2
        go_wp2_with (fail)
        go_ret
        exact ⟨by simp, V.out.below⟩
      | true =>
        subst h0
        go_wp2_with (fail)
        (with_reducible refine (within3_at _ (-3) a0_3 3 true _ HU1.out (blk_new_at rfl)).mono ?_); rintro e w3 ⟨rfl, hd3⟩; have V2 := Aside0.mk (V.out.next hd3); clear V hd3; have V := V2; clear V2
        go_wp2_with (fail)
        go_roundw
        case rel => exact ⟨.inr (.inr (.inl ⟨rfl, rfl, rfl⟩)), V.out⟩
        case measure => simp [intOf]
    · cases r2 with
      | false =>
        subst h0
        subst h1
        go_wp2_with (fail)
        (with_reducible refine (within3_at _ (-3) a0_4 3 false _ HU2.out (blk_new_at rfl)).mono ?_); rintro e w3 ⟨rfl, hd3⟩; have V2 := Aside0.mk (V.out.next hd3); clear V hd3; have V := V2; clear V2
        go_wp2_with (fail)
        go_ret
        exact ⟨by simp, V.out.below⟩
      | true =>
        subst h0
        subst h1
        go_wp2_with (fail)
        (with_reducible refine (within3_at _ (-3) a0_4 3 true _ HU2.out (blk_new_at rfl)).mono ?_); rintro e w3 ⟨rfl, hd3⟩; have V2 := Aside0.mk (V.out.next hd3); clear V hd3; have V := V2; clear V2
        go_wp2_with (fail)
        go_roundw
        case rel => exact ⟨.inr (.inr (.inr ⟨rfl, rfl, rfl, rfl⟩)), V.out⟩
        case measure => simp [intOf]
    · subst h0
      subst h1
      subst h2
      go_wp2
      go_ret
      exact ⟨by simp, V.out.below⟩


theorem decl_Valid.calls (a0_0 : ByteArray) (A0_1 : Option Addr) (c0_1 : Nat) (l0_1 : List (S51)) (a0_2 : Int) (a0_3 : Int) (a0_4 : Int) (a0_5 : Int) (a0_6 : Int) (a0_7 : Int) (a0_8 : Int) (a0_9 : Int) (a0_10 : Int) (a0_11 : Int) (r : Int) (w : World) (hr0_1 : Kd.C k51 w A0_1 l0_1.length l0_1) (hc0_1 : l0_1.length ≤ c0_1) (h : decl_Valid.f a0_0 l0_1 a0_2 a0_3 a0_4 a0_5 a0_6 a0_7 a0_8 a0_9 a0_10 a0_11 = some r) :
    Calls Try.prog 13 #[.agg #[.string a0_0, .slice A0_1 l0_1.length c0_1, .int .i64 a0_2, .int .i64 a0_3, .int .i64 a0_4, .int .i64 a0_5, .int .i64 a0_6, .int .i64 a0_7, .int .i64 a0_8, .int .i64 a0_9, .int .i64 a0_10, .int .i64 a0_11]] w fun e w' => e = .returned (.int .i64 r) ∧ Below w.heap.size w w' := by
  obtain ⟨n, hn, h⟩ := Option.bind_eq_some_iff.mp h
  cases n with
  | false =>
    obtain rfl : 8 = r := by simpa using h
    exact valid_n _ _ _ _ _ _ _ _ _ _ _ _ _ _ w hr0_1 hc0_1 ⟨hn⟩
  | true =>
    rw [if_neg (by decide)] at h
    obtain ⟨v, hv, h⟩ := Option.bind_eq_some_iff.mp h
    cases v with
    | false =>
      obtain rfl : 8 = r := by simpa using h
      exact valid_v _ _ _ _ _ _ _ _ _ _ _ _ _ _ w hr0_1 hc0_1 ⟨hn⟩ ⟨hv⟩
    | true =>
      rw [if_neg (by decide)] at h
      obtain rfl := Option.some.inj h
      unfold validNum
      cases hA : s4 (-1073741824) a0_5 a0_6 1073741824 with
      | false => rw [if_neg (by simp)]; exact valid_a _ _ _ _ _ _ _ _ _ _ _ _ _ _ w hr0_1 hc0_1 ⟨hn⟩ ⟨hv⟩ ⟨hA⟩
      | true =>
        cases hB : s4 (-1048576) a0_7 a0_8 1048576 with
        | false => rw [if_neg (by simp)]; exact valid_b _ _ _ _ _ _ _ _ _ _ _ _ _ _ w hr0_1 hc0_1 ⟨hn⟩ ⟨hv⟩ ⟨hA⟩ ⟨hB⟩
        | true =>
          cases hC : s3 0 a0_11 1073741824 with
          | false => rw [if_neg (by simp)]; exact valid_c _ _ _ _ _ _ _ _ _ _ _ _ _ _ w hr0_1 hc0_1 ⟨hn⟩ ⟨hv⟩ ⟨hA⟩ ⟨hB⟩ ⟨hC⟩
          | true =>
            rw [if_pos (by simp)]
            cases hD : s4 0 a0_9 a0_10 1048576 with
            | false => rw [if_neg (by simp)]; exact valid_d _ _ _ _ _ _ _ _ _ _ _ _ _ _ w hr0_1 hc0_1 ⟨hn⟩ ⟨hv⟩ ⟨hA⟩ ⟨hB⟩ ⟨hC⟩ ⟨hD⟩
            | true =>
              rw [if_pos (by simp)]
              by_cases hE : wrap64 (a0_10 - a0_9) ≥ 4096
              · rw [if_pos hE]; exact valid_e _ _ _ _ _ _ _ _ _ _ _ _ _ _ w hr0_1 hc0_1 ⟨hn⟩ ⟨hv⟩ ⟨hA⟩ ⟨hB⟩ ⟨hC⟩ ⟨hD⟩ (decide_eq_true hE)
              · rw [if_neg hE]; exact valid_u _ _ _ _ _ _ _ _ _ _ _ _ _ _ w hr0_1 hc0_1 ⟨hn⟩ ⟨hv⟩ ⟨hA⟩ ⟨hB⟩ ⟨hC⟩ ⟨hD⟩ (decide_eq_false hE) _ _ _ ⟨rfl⟩ ⟨rfl⟩ ⟨rfl⟩

end Go.Proofs.Ytblbieenfghbdaa.Q
