/- The call of intervalmonref10.Decl comes to what intervalmonref10_Decl.f gives, the labels in new memory, whenever that function gives a result. -/
import Derived.Test.YtblbieenfghbdaaQxA
namespace Go.Proofs.Ytblbieenfghbdaa.Q
open Go.RowKit Go.Proofs.YtblbieenfghbdaaW.PrintWords Go.Proofs.YtblbieenfghbdaaW.PrintLast Go.Proofs.YtblbieenfghbdaaW.PrintMore
set_option linter.unusedVariables false
set_option linter.unusedSimpArgs false
/-! ### intervalmonref10_Decl: function 10 -/
def intervalmonref10_Decl.f (l0 : List Int) : Option (ByteArray × (List (S51)) × Int × Int × Int × Int × Int × Int × Int × Int × Int × Int) := (some (([(⟨#[99, 112, 117]⟩ : ByteArray), (⟨#[109, 101, 109]⟩ : ByteArray)] : List ByteArray) : List ByteArray)).bind fun y114 => ((intervalmonref01_Pick.f l0 0 10).bind fun t117 => ((intervalmonref01_Pick.f l0 1 5).bind fun t118 => ((intervalmonref01_Pick.f l0 2 7).bind fun t119 => ((intervalmonref01_Pick.f l0 3 2).bind fun t120 => (if 0 ≤ t120 then (if t120 < (y114.length : Int) then ((intervalmonref01_Pick.f l0 4 4).bind fun t122 => ((intervalmonref10_Labels.f t122).bind fun t123 => ((intervalmonref01_Pick.f l0 5 17).bind fun t127 => ((intervalmonref01_Pick.f l0 6 4).bind fun t128 => ((intervalmonref01_Pick.f l0 7 14).bind fun t129 => ((intervalmonref01_Pick.f l0 8 40).bind fun t130 => (some (rdOf ByteArray.empty y114 t120, t123, 1, 0, 0, wrap64 (t117 - 9), wrap64 ((wrap64 (t117 - 9)) + t127), wrap64 (t118 - 3), wrap64 ((wrap64 (t118 - 3)) + t128), t119, wrap64 (t119 + t129), t130)))))))) else (none)) else (none))))))
def intervalmonref10_Decl.T5 : Bool × List (List Nat × List Nat) := (true, [([], []), ([], []), ([1], [1]), ([0, 2], [0, 2]), ([3], [3]), ([], []), ([5, 2], [5]), ([6, 6], [6]), ([], []), ([4, 7, 8], [4, 7, 8]), ([], []), ([10, 9, 7, 0, 1, 2, 3, 4, 5, 6, 7, 8, 9, 10], [9, 10])])
def intervalmonref10_Decl.B5 : List Nat := [0, 0, 2, 7, 15, 0, 38, 102, 0, 511, 0, 2047]
theorem intervalmonref10_Decl.tab5 : rtab .any (opsOf Try.f10 5) = intervalmonref10_Decl.T5 := by kernel_rfl
theorem intervalmonref10_Decl.bits5 : waitsOk intervalmonref10_Decl.T5.2 intervalmonref10_Decl.B5 = true := by kernel_rfl
/-- The result's block and the variable's, the labels' row apart from both. -/
structure DW (w W : World) (gr gd : Nat) (lv : Value) (labs : List S51) (cs : Array Value) : Prop where
  res : W.heap[gr]? = some (.cells #[.string (⟨#[]⟩ : ByteArray), .slice none 0 0, .int .i64 0, .int .i64 0, .int .i64 0, .int .i64 0, .int .i64 0, .int .i64 0, .int .i64 0, .int .i64 0, .int .i64 0, .int .i64 0] 27 (0, 0))
  blk : W.heap[gd]? = some (.cells cs 27 (0, 0))
  ne : gr ≠ gd
  hr : w.heap.size ≤ gr
  hd : w.heap.size ≤ gd
  lab : Kd.R k51 51 W w.heap.size (fun k => k ≠ gr ∧ k ≠ gd) lv labs
  below : Below w.heap.size w W

theorem DW.store {w W : World} {gr gd : Nat} {lv : Value} {labs : List S51} {cs cs' : Array Value} (h : DW w W gr gd lv labs cs) (j : Nat) (u : Value) (e : cs.setIfInBounds j u = cs') : DW w (W.setCell ⟨gd, j, none⟩ u) gr gd lv labs cs' :=
  ⟨blk_far h.res (p := ⟨gd, j, none⟩) h.ne u, blk_put h.blk j u e, h.ne, h.hr, h.hd, Kd.R_far h.lab (p := ⟨gd, j, none⟩) (fun k hk => hk.2) u, below_set h.below h.hd⟩
theorem DW.drewN {w W : World} {gr gd : Nat} {lv : Value} {labs : List S51} {cs : Array Value} (h : DW w W gr gd lv labs cs) (n : Nat) : DW w (W.drewN n) gr gd lv labs cs :=
  ⟨h.res, h.blk, h.ne, h.hr, h.hd, Kd.R_drewN h.lab n, pw_below_drewN h.below n⟩
set_option maxHeartbeats 8000000 in
set_option maxRecDepth 100000 in
theorem intervalmonref10_Decl.calls (A0 : Option Addr) (c0 : Nat) (l0 : List Int) (r1 : ByteArray) (r2 : List (S51)) (r3 : Int) (r4 : Int) (r5 : Int) (r6 : Int) (r7 : Int) (r8 : Int) (r9 : Int) (r10 : Int) (r11 : Int) (r12 : Int) (w : World) (hr0 : Kd.C (Kd.int .i64) w A0 l0.length l0) (hc0 : l0.length ≤ c0) (h : intervalmonref10_Decl.f l0 = some (r1, r2, r3, r4, r5, r6, r7, r8, r9, r10, r11, r12)) :
    Calls Try.prog 10 #[.slice A0 l0.length c0] w fun e w' => ∃ v1_ : Value, e = .returned (.agg #[.string r1, v1_, .int .i64 r3, .int .i64 r4, .int .i64 r5, .int .i64 r6, .int .i64 r7, .int .i64 r8, .int .i64 r9, .int .i64 r10, .int .i64 r11, .int .i64 r12]) ∧ Kd.R k51 51 w' w.heap.size (fun _ => True) v1_ r2 ∧ Below w.heap.size w w' := by
  have hu27 := Try.underlying27
  have hu25 := Try.underlying25
  have HR0 := Aside0.mk hr0
  have HC0 := Aside0.mk hc0
  clear hr0 hc0
  have HB := Aside0.mk (Below.refl w.heap.size w)
  have H : ((some (([(⟨#[99, 112, 117]⟩ : ByteArray), (⟨#[109, 101, 109]⟩ : ByteArray)] : List ByteArray) : List ByteArray)).bind fun y114 => ((intervalmonref01_Pick.f l0 0 10).bind fun t117 => ((intervalmonref01_Pick.f l0 1 5).bind fun t118 => ((intervalmonref01_Pick.f l0 2 7).bind fun t119 => ((intervalmonref01_Pick.f l0 3 2).bind fun t120 => (if 0 ≤ t120 then (if t120 < (y114.length : Int) then ((intervalmonref01_Pick.f l0 4 4).bind fun t122 => ((intervalmonref10_Labels.f t122).bind fun t123 => ((intervalmonref01_Pick.f l0 5 17).bind fun t127 => ((intervalmonref01_Pick.f l0 6 4).bind fun t128 => ((intervalmonref01_Pick.f l0 7 14).bind fun t129 => ((intervalmonref01_Pick.f l0 8 40).bind fun t130 => (some (rdOf ByteArray.empty y114 t120, t123, 1, 0, 0, wrap64 (t117 - 9), wrap64 ((wrap64 (t117 - 9)) + t127), wrap64 (t118 - 3), wrap64 ((wrap64 (t118 - 3)) + t128), t119, wrap64 (t119 + t129), t130)))))))) else (none)) else (none))))))) = some (r1, r2, r3, r4, r5, r6, r7, r8, r9, r10, r11, r12) := h
  clear h
  obtain ⟨y114, hy114⟩ : ∃ y_ : List ByteArray, y_ = (([(⟨#[99, 112, 117]⟩ : ByteArray), (⟨#[109, 101, 109]⟩ : ByteArray)] : List ByteArray)) := ⟨_, rfl⟩
  replace H : ((intervalmonref01_Pick.f l0 0 10).bind fun t117 => ((intervalmonref01_Pick.f l0 1 5).bind fun t118 => ((intervalmonref01_Pick.f l0 2 7).bind fun t119 => ((intervalmonref01_Pick.f l0 3 2).bind fun t120 => (if 0 ≤ t120 then (if t120 < (y114.length : Int) then ((intervalmonref01_Pick.f l0 4 4).bind fun t122 => ((intervalmonref10_Labels.f t122).bind fun t123 => ((intervalmonref01_Pick.f l0 5 17).bind fun t127 => ((intervalmonref01_Pick.f l0 6 4).bind fun t128 => ((intervalmonref01_Pick.f l0 7 14).bind fun t129 => ((intervalmonref01_Pick.f l0 8 40).bind fun t130 => (some (rdOf ByteArray.empty y114 t120, t123, 1, 0, 0, wrap64 (t117 - 9), wrap64 ((wrap64 (t117 - 9)) + t127), wrap64 (t118 - 3), wrap64 ((wrap64 (t118 - 3)) + t128), t119, wrap64 (t119 + t129), t130)))))))) else (none)) else (none)))))) = some (r1, r2, r3, r4, r5, r6, r7, r8, r9, r10, r11, r12) := by first | (rw [hy114]; with_reducible exact H) | (have H2_ := (Option.bind_some _ _).symm.trans H; rw [hy114]; with_reducible exact H2_) | (have H2_ := (Option.bind_some _ _).symm.trans H; with_reducible exact H2_) | with_reducible exact H | (rw [hy114]; exact H) | exact H
  have Ny114 := Aside0.mk hy114
  clear hy114
  replace H := Option.bind_eq_some_iff.mp H
  obtain ⟨t117, A20, H⟩ := H
  replace H : ((intervalmonref01_Pick.f l0 1 5).bind fun t118 => ((intervalmonref01_Pick.f l0 2 7).bind fun t119 => ((intervalmonref01_Pick.f l0 3 2).bind fun t120 => (if 0 ≤ t120 then (if t120 < (y114.length : Int) then ((intervalmonref01_Pick.f l0 4 4).bind fun t122 => ((intervalmonref10_Labels.f t122).bind fun t123 => ((intervalmonref01_Pick.f l0 5 17).bind fun t127 => ((intervalmonref01_Pick.f l0 6 4).bind fun t128 => ((intervalmonref01_Pick.f l0 7 14).bind fun t129 => ((intervalmonref01_Pick.f l0 8 40).bind fun t130 => (some (rdOf ByteArray.empty y114 t120, t123, 1, 0, 0, wrap64 (t117 - 9), wrap64 ((wrap64 (t117 - 9)) + t127), wrap64 (t118 - 3), wrap64 ((wrap64 (t118 - 3)) + t128), t119, wrap64 (t119 + t129), t130)))))))) else (none)) else (none))))) = some (r1, r2, r3, r4, r5, r6, r7, r8, r9, r10, r11, r12) := H
  have A2 := Aside0.mk A20
  clear A20
  replace H := Option.bind_eq_some_iff.mp H
  obtain ⟨t118, A30, H⟩ := H
  replace H : ((intervalmonref01_Pick.f l0 2 7).bind fun t119 => ((intervalmonref01_Pick.f l0 3 2).bind fun t120 => (if 0 ≤ t120 then (if t120 < (y114.length : Int) then ((intervalmonref01_Pick.f l0 4 4).bind fun t122 => ((intervalmonref10_Labels.f t122).bind fun t123 => ((intervalmonref01_Pick.f l0 5 17).bind fun t127 => ((intervalmonref01_Pick.f l0 6 4).bind fun t128 => ((intervalmonref01_Pick.f l0 7 14).bind fun t129 => ((intervalmonref01_Pick.f l0 8 40).bind fun t130 => (some (rdOf ByteArray.empty y114 t120, t123, 1, 0, 0, wrap64 (t117 - 9), wrap64 ((wrap64 (t117 - 9)) + t127), wrap64 (t118 - 3), wrap64 ((wrap64 (t118 - 3)) + t128), t119, wrap64 (t119 + t129), t130)))))))) else (none)) else (none)))) = some (r1, r2, r3, r4, r5, r6, r7, r8, r9, r10, r11, r12) := H
  have A3 := Aside0.mk A30
  clear A30
  replace H := Option.bind_eq_some_iff.mp H
  obtain ⟨t119, A40, H⟩ := H
  replace H : ((intervalmonref01_Pick.f l0 3 2).bind fun t120 => (if 0 ≤ t120 then (if t120 < (y114.length : Int) then ((intervalmonref01_Pick.f l0 4 4).bind fun t122 => ((intervalmonref10_Labels.f t122).bind fun t123 => ((intervalmonref01_Pick.f l0 5 17).bind fun t127 => ((intervalmonref01_Pick.f l0 6 4).bind fun t128 => ((intervalmonref01_Pick.f l0 7 14).bind fun t129 => ((intervalmonref01_Pick.f l0 8 40).bind fun t130 => (some (rdOf ByteArray.empty y114 t120, t123, 1, 0, 0, wrap64 (t117 - 9), wrap64 ((wrap64 (t117 - 9)) + t127), wrap64 (t118 - 3), wrap64 ((wrap64 (t118 - 3)) + t128), t119, wrap64 (t119 + t129), t130)))))))) else (none)) else (none))) = some (r1, r2, r3, r4, r5, r6, r7, r8, r9, r10, r11, r12) := H
  have A4 := Aside0.mk A40
  clear A40
  replace H := Option.bind_eq_some_iff.mp H
  obtain ⟨t120, A50, H⟩ := H
  replace H : (if 0 ≤ t120 then (if t120 < (y114.length : Int) then ((intervalmonref01_Pick.f l0 4 4).bind fun t122 => ((intervalmonref10_Labels.f t122).bind fun t123 => ((intervalmonref01_Pick.f l0 5 17).bind fun t127 => ((intervalmonref01_Pick.f l0 6 4).bind fun t128 => ((intervalmonref01_Pick.f l0 7 14).bind fun t129 => ((intervalmonref01_Pick.f l0 8 40).bind fun t130 => (some (rdOf ByteArray.empty y114 t120, t123, 1, 0, 0, wrap64 (t117 - 9), wrap64 ((wrap64 (t117 - 9)) + t127), wrap64 (t118 - 3), wrap64 ((wrap64 (t118 - 3)) + t128), t119, wrap64 (t119 + t129), t130)))))))) else (none)) else (none)) = some (r1, r2, r3, r4, r5, r6, r7, r8, r9, r10, r11, r12) := H
  have A5 := Aside0.mk A50
  clear A50
  by_cases c6 : 0 ≤ t120
  · rw [if_pos c6] at H
    have c6b0 : decide (0 ≤ t120) = true := decide_eq_true c6
    clear c6
    by_cases c7 : t120 < (y114.length : Int)
    · rw [if_pos c7] at H
      have c7b0 : decide (t120 < (y114.length : Int)) = true := decide_eq_true c7
      clear c7
      replace H := Option.bind_eq_some_iff.mp H
      obtain ⟨t122, A80, H⟩ := H
      replace H : ((intervalmonref10_Labels.f t122).bind fun t123 => ((intervalmonref01_Pick.f l0 5 17).bind fun t127 => ((intervalmonref01_Pick.f l0 6 4).bind fun t128 => ((intervalmonref01_Pick.f l0 7 14).bind fun t129 => ((intervalmonref01_Pick.f l0 8 40).bind fun t130 => (some (rdOf ByteArray.empty y114 t120, t123, 1, 0, 0, wrap64 (t117 - 9), wrap64 ((wrap64 (t117 - 9)) + t127), wrap64 (t118 - 3), wrap64 ((wrap64 (t118 - 3)) + t128), t119, wrap64 (t119 + t129), t130))))))) = some (r1, r2, r3, r4, r5, r6, r7, r8, r9, r10, r11, r12) := H
      have A8 := Aside0.mk A80
      clear A80
      replace H := Option.bind_eq_some_iff.mp H
      obtain ⟨t123, A90, H⟩ := H
      replace H : ((intervalmonref01_Pick.f l0 5 17).bind fun t127 => ((intervalmonref01_Pick.f l0 6 4).bind fun t128 => ((intervalmonref01_Pick.f l0 7 14).bind fun t129 => ((intervalmonref01_Pick.f l0 8 40).bind fun t130 => (some (rdOf ByteArray.empty y114 t120, t123, 1, 0, 0, wrap64 (t117 - 9), wrap64 ((wrap64 (t117 - 9)) + t127), wrap64 (t118 - 3), wrap64 ((wrap64 (t118 - 3)) + t128), t119, wrap64 (t119 + t129), t130)))))) = some (r1, r2, r3, r4, r5, r6, r7, r8, r9, r10, r11, r12) := H
      have A9 := Aside0.mk A90
      clear A90
      replace H := Option.bind_eq_some_iff.mp H
      obtain ⟨t127, A100, H⟩ := H
      replace H : ((intervalmonref01_Pick.f l0 6 4).bind fun t128 => ((intervalmonref01_Pick.f l0 7 14).bind fun t129 => ((intervalmonref01_Pick.f l0 8 40).bind fun t130 => (some (rdOf ByteArray.empty y114 t120, t123, 1, 0, 0, wrap64 (t117 - 9), wrap64 ((wrap64 (t117 - 9)) + t127), wrap64 (t118 - 3), wrap64 ((wrap64 (t118 - 3)) + t128), t119, wrap64 (t119 + t129), t130))))) = some (r1, r2, r3, r4, r5, r6, r7, r8, r9, r10, r11, r12) := H
      have A10 := Aside0.mk A100
      clear A100
      replace H := Option.bind_eq_some_iff.mp H
      obtain ⟨t128, A110, H⟩ := H
      replace H : ((intervalmonref01_Pick.f l0 7 14).bind fun t129 => ((intervalmonref01_Pick.f l0 8 40).bind fun t130 => (some (rdOf ByteArray.empty y114 t120, t123, 1, 0, 0, wrap64 (t117 - 9), wrap64 ((wrap64 (t117 - 9)) + t127), wrap64 (t118 - 3), wrap64 ((wrap64 (t118 - 3)) + t128), t119, wrap64 (t119 + t129), t130)))) = some (r1, r2, r3, r4, r5, r6, r7, r8, r9, r10, r11, r12) := H
      have A11 := Aside0.mk A110
      clear A110
      replace H := Option.bind_eq_some_iff.mp H
      obtain ⟨t129, A120, H⟩ := H
      replace H : ((intervalmonref01_Pick.f l0 8 40).bind fun t130 => (some (rdOf ByteArray.empty y114 t120, t123, 1, 0, 0, wrap64 (t117 - 9), wrap64 ((wrap64 (t117 - 9)) + t127), wrap64 (t118 - 3), wrap64 ((wrap64 (t118 - 3)) + t128), t119, wrap64 (t119 + t129), t130))) = some (r1, r2, r3, r4, r5, r6, r7, r8, r9, r10, r11, r12) := H
      have A12 := Aside0.mk A120
      clear A120
      replace H := Option.bind_eq_some_iff.mp H
      obtain ⟨t130, A130, H⟩ := H
      replace H : (some (rdOf ByteArray.empty y114 t120, t123, 1, 0, 0, wrap64 (t117 - 9), wrap64 ((wrap64 (t117 - 9)) + t127), wrap64 (t118 - 3), wrap64 ((wrap64 (t118 - 3)) + t128), t119, wrap64 (t119 + t129), t130)) = some (r1, r2, r3, r4, r5, r6, r7, r8, r9, r10, r11, r12) := H
      have A13 := Aside0.mk A130
      clear A130
      simp only [Option.some.injEq, Prod.mk.injEq] at H
      obtain ⟨rfl, rfl, rfl, rfl, rfl, rfl, rfl, rfl, rfl, rfl, rfl, rfl⟩ := H
      go_enter Try.func10, Try.ntmps10
      try go_wp2_with (first | ((with_reducible refine gate_dst (N := 2) rfl ?_); refine box_event ?hg (N := 2) ?hd (cs := #[.string (⟨#[]⟩ : ByteArray), .slice none 0 0, .int .i64 0, .int .i64 0, .int .i64 0, .int .i64 0, .int .i64 0, .int .i64 0, .int .i64 0, .int .i64 0, .int .i64 0, .int .i64 0]) (t := 27) ?hr ?_; (case hd => rfl); (case hg => rfl); (case hr => first | (go_simp; done) | (go_simp; rfl)); intro gb113 hg w14 hbox hb; have n0_ := Aside0.mk (below_step (by repeat (first | (with_reducible first | exact HB.out | apply below_alloc | apply pw_below_drewN | apply below_drew1) | exact HB.out)) hb); have n1_ := Aside0.mk (hbox); have n2_ := Aside0.mk ((by rw [hg]; exact (below_size (by repeat (first | (with_reducible first | exact HB.out | apply below_alloc | apply pw_below_drewN | apply below_drew1) | exact HB.out))) : w.heap.size ≤ gb113)); have n3_ := Aside0.mk ((by rw [hg]; exact (below_size (by repeat (first | (with_reducible first | exact HB.out | apply below_alloc | apply pw_below_drewN | apply below_drew1) | exact HB.out))) : w.heap.size ≤ gb113)); clear HB; have HB := n0_; have BK113 := n1_; have GW113 := n2_; have GE113 := n3_; clear n0_ n1_ n2_ n3_; clear hb hbox hg) | ((with_reducible refine gate_dst (N := 8) rfl ?_); refine Kd.R_lit Kd.string _ 9 ?hg (N := 8) ?hd (xs := ([(⟨#[99, 112, 117]⟩ : ByteArray), (⟨#[109, 101, 109]⟩ : ByteArray)] : List ByteArray)) (inner := [.string (⟨#[99, 112, 117]⟩ : ByteArray), .string (⟨#[109, 101, 109]⟩ : ByteArray)]) (ok := fun _ => True) (okp := fun _ => True) ?hr ?hp (fun _ hk => hk) trivial (Below.refl _ _) (Nat.le_refl _) (by simp) ?_; (case hd => rfl); (case hg => rfl); (case hr => first | (go_simp; done) | (go_simp; rfl)); (case hp => exact (Reps.one (show Kd.M Kd.string _ _ _ (⟨#[99, 112, 117]⟩ : ByteArray) [.string (⟨#[99, 112, 117]⟩ : ByteArray)] from rfl) (Reps.one (show Kd.M Kd.string _ _ _ (⟨#[109, 101, 109]⟩ : ByteArray) [.string (⟨#[109, 101, 109]⟩ : ByteArray)] from rfl) (Reps.none _ _)))); intro v115 w15 ho16 hb hg_ hnew_; clear hg_ hnew_; (first | rw [← Ny114.out] at ho16 | (simp only [Int.reduceToNat] at ho16; rw [← Ny114.out] at ho16)); have n0_ := Aside0.mk (Kd.R_lower ho16 (below_size (by repeat (first | (with_reducible first | exact HB.out | apply below_alloc | apply pw_below_drewN | apply below_drew1 | refine below_set ?_ GE113.out) | exact HB.out)))); have n1_ := Aside0.mk (blk_below (g := gb113) (o := .cells #[.string (⟨#[]⟩ : ByteArray), .slice none 0 0, .int .i64 0, .int .i64 0, .int .i64 0, .int .i64 0, .int .i64 0, .int .i64 0, .int .i64 0, .int .i64 0, .int .i64 0, .int .i64 0] 27 (0, 0)) (by (with_reducible repeat (first | refine blk_drewN ?_ _ | refine blk_drew ?_ | refine blk_alloc ?_ _)); exact BK113.out) hb); have n2_ := Aside0.mk (below_step (by repeat (first | (with_reducible first | exact HB.out | apply below_alloc | apply pw_below_drewN | apply below_drew1 | refine below_set ?_ GE113.out) | exact HB.out)) hb); clear BK113; clear HB; have HO116 := n0_; have BK113 := n1_; have HB := n2_; clear n0_ n1_ n2_; clear hb ho16) | ((with_reducible refine gate_callee (f := 32) rfl ?_); refine goesL_ (some 10) rfl rfl Try.func32 (by kernel_rfl) rfl #[.slice A0 l0.length c0, .int .i64 0, .int .i64 10] rfl (by (try simp only [List.map_toArray, List.map_cons, List.map_nil]); first | done | rfl | (simp only [List.length_drop, List.length_take]; rfl)) ?_; (with_reducible refine (intervalmonref01_Pick.calls _ _ l0 0 10 t117 _ ?side1 ?side2 A2.out).mono ?_); (case side1 => repeat (first | exact (Kd.C_below HR0.out HB.out) | (with_reducible refine Kd.C_alloc ?_ _) | (with_reducible refine Kd.C_drewN ?_ _) | (with_reducible refine Kd.C_drew ?_))); (case side2 => exact HC0.out); rintro e w' ⟨rfl, ⟨nd, rfl⟩⟩; refine ⟨_, rfl, ?_⟩; (try (rw [drewN_self w15]; generalize hq_ : World.drewN w15 _ = w15; have n0_ : Aside0 (Kd.R Kd.string 9 w15 w.heap.size (fun _ => True) v115 y114) := ⟨by rw [← hq_]; exact (by (with_reducible repeat (first | apply Kd.R_alloc | apply Kd.R_drewN | apply Kd.R_drew)); exact HO116.out)⟩; have n1_ : Aside0 (w15.heap[gb113]? = some (.cells #[.string (⟨#[]⟩ : ByteArray), .slice none 0 0, .int .i64 0, .int .i64 0, .int .i64 0, .int .i64 0, .int .i64 0, .int .i64 0, .int .i64 0, .int .i64 0, .int .i64 0, .int .i64 0] 27 (0, 0))) := ⟨by rw [← hq_]; exact (by (with_reducible repeat (first | refine blk_drewN ?_ _ | refine blk_drew ?_ | refine blk_alloc ?_ _)); exact BK113.out)⟩; have n2_ : Aside0 (Below w.heap.size w w15) := ⟨by rw [← hq_]; exact (by repeat (first | (with_reducible first | exact HB.out | apply below_alloc | apply pw_below_drewN | apply below_drew1 | refine below_set ?_ GE113.out) | exact HB.out))⟩; clear HO116 BK113 HB hq_; have HO116 := n0_; have BK113 := n1_; have HB := n2_; clear n0_ n1_ n2_))) | ((with_reducible refine gate_callee (f := 32) rfl ?_); refine goesL_ (some 13) rfl rfl Try.func32 (by kernel_rfl) rfl #[.slice A0 l0.length c0, .int .i64 1, .int .i64 5] rfl (by (try simp only [List.map_toArray, List.map_cons, List.map_nil]); first | done | rfl | (simp only [List.length_drop, List.length_take]; rfl)) ?_; (with_reducible refine (intervalmonref01_Pick.calls _ _ l0 1 5 t118 _ ?side1 ?side2 A3.out).mono ?_); (case side1 => repeat (first | exact (Kd.C_below HR0.out HB.out) | (with_reducible refine Kd.C_alloc ?_ _) | (with_reducible refine Kd.C_drewN ?_ _) | (with_reducible refine Kd.C_drew ?_))); (case side2 => exact HC0.out); rintro e w' ⟨rfl, ⟨nd, rfl⟩⟩; refine ⟨_, rfl, ?_⟩; (try (rw [drewN_self w15]; generalize hq_ : World.drewN w15 _ = w15; have n0_ : Aside0 (Kd.R Kd.string 9 w15 w.heap.size (fun _ => True) v115 y114) := ⟨by rw [← hq_]; exact (by (with_reducible repeat (first | apply Kd.R_alloc | apply Kd.R_drewN | apply Kd.R_drew)); exact HO116.out)⟩; have n1_ : Aside0 (w15.heap[gb113]? = some (.cells #[.string (⟨#[]⟩ : ByteArray), .slice none 0 0, .int .i64 0, .int .i64 0, .int .i64 0, .int .i64 0, .int .i64 0, .int .i64 0, .int .i64 0, .int .i64 0, .int .i64 0, .int .i64 0] 27 (0, 0))) := ⟨by rw [← hq_]; exact (by (with_reducible repeat (first | refine blk_drewN ?_ _ | refine blk_drew ?_ | refine blk_alloc ?_ _)); exact BK113.out)⟩; have n2_ : Aside0 (Below w.heap.size w w15) := ⟨by rw [← hq_]; exact (by repeat (first | (with_reducible first | exact HB.out | apply below_alloc | apply pw_below_drewN | apply below_drew1 | refine below_set ?_ GE113.out) | exact HB.out))⟩; clear HO116 BK113 HB hq_; have HO116 := n0_; have BK113 := n1_; have HB := n2_; clear n0_ n1_ n2_))) | ((with_reducible refine gate_callee (f := 32) rfl ?_); refine goesL_ (some 16) rfl rfl Try.func32 (by kernel_rfl) rfl #[.slice A0 l0.length c0, .int .i64 2, .int .i64 7] rfl (by (try simp only [List.map_toArray, List.map_cons, List.map_nil]); first | done | rfl | (simp only [List.length_drop, List.length_take]; rfl)) ?_; (with_reducible refine (intervalmonref01_Pick.calls _ _ l0 2 7 t119 _ ?side1 ?side2 A4.out).mono ?_); (case side1 => repeat (first | exact (Kd.C_below HR0.out HB.out) | (with_reducible refine Kd.C_alloc ?_ _) | (with_reducible refine Kd.C_drewN ?_ _) | (with_reducible refine Kd.C_drew ?_))); (case side2 => exact HC0.out); rintro e w' ⟨rfl, ⟨nd, rfl⟩⟩; refine ⟨_, rfl, ?_⟩; (try (rw [drewN_self w15]; generalize hq_ : World.drewN w15 _ = w15; have n0_ : Aside0 (Kd.R Kd.string 9 w15 w.heap.size (fun _ => True) v115 y114) := ⟨by rw [← hq_]; exact (by (with_reducible repeat (first | apply Kd.R_alloc | apply Kd.R_drewN | apply Kd.R_drew)); exact HO116.out)⟩; have n1_ : Aside0 (w15.heap[gb113]? = some (.cells #[.string (⟨#[]⟩ : ByteArray), .slice none 0 0, .int .i64 0, .int .i64 0, .int .i64 0, .int .i64 0, .int .i64 0, .int .i64 0, .int .i64 0, .int .i64 0, .int .i64 0, .int .i64 0] 27 (0, 0))) := ⟨by rw [← hq_]; exact (by (with_reducible repeat (first | refine blk_drewN ?_ _ | refine blk_drew ?_ | refine blk_alloc ?_ _)); exact BK113.out)⟩; have n2_ : Aside0 (Below w.heap.size w w15) := ⟨by rw [← hq_]; exact (by repeat (first | (with_reducible first | exact HB.out | apply below_alloc | apply pw_below_drewN | apply below_drew1 | refine below_set ?_ GE113.out) | exact HB.out))⟩; clear HO116 BK113 HB hq_; have HO116 := n0_; have BK113 := n1_; have HB := n2_; clear n0_ n1_ n2_))))
      have n0_ := Aside0.mk (Kd.R_drew HO116.out)
      have n1_ := Aside0.mk (blk_drew BK113.out)
      have n2_ := Aside0.mk (below_drew1 HB.out)
      clear HO116
      clear BK113
      clear HB
      have HO116 := n0_
      have BK113 := n1_
      have HB := n2_
      clear n0_ n1_ n2_
      have p121 : 0 ≤ (t120 : Int) := of_decide_eq_true (by first | (with_reducible assumption) | assumption)
      have q121 : t120 < (y114.length : Int) := of_decide_eq_true (by first | (with_reducible assumption) | assumption)
      obtain ⟨An_, cn_, rfl⟩ := Kd.R_slice HO116.out
      obtain ⟨ad121, e121, hx121_0⟩ := Kd.at_string (Kd.R_reads' HO116.out).2.2 t120 p121 q121
      cases e121
      replace p121 := eq_true p121
      replace q121 := eq_true q121
      refine start_ (n := 12) (S := fun w' => w'.cell? (ad121.add (t120).toNat) = some (.string (rdOf ByteArray.empty y114 t120))) (ds := []) #[false, false, false, false, false, false, false, false, false, false, false, false] (by kernel_rfl) rfl rfl (hx121_0) (fun hHeld => ?_); refine with_tabW intervalmonref10_Decl.tab5 intervalmonref10_Decl.bits5 (fun HT_ HW_ => ?_)
      generalize w15.drew = w17 at HO116 BK113 HB hx121_0 hHeld ⊢
      refine pure_ (i := 0) (N := some 17) (v := ?_) (a' := ?_) #[true, false, false, false, false, false, false, false, false, false, false, false] rfl rfl (any_of HT_.out (by kernel_rfl)) (fun _ _ _ h => h) (Or.inl ⟨by rfl, ?_⟩) ?_ ?_
      rotate_left
      · intro w'
        go_simp
        with_reducible rfl
      rotate_left
      · simp only [Act.put, List.setIfInBounds_toArray, List.set_cons_zero, List.set_cons_succ, i64_w, i32_w]
        rfl
      refine pure_ (i := 1) (N := some 18) (v := ?_) (a' := ?_) #[true, true, false, false, false, false, false, false, false, false, false, false] rfl rfl (any_of HT_.out (by kernel_rfl)) (fun _ _ _ h => h) (Or.inl ⟨by rfl, ?_⟩) ?_ ?_
      rotate_left
      · intro w'
        go_simp
        with_reducible rfl
      rotate_left
      · simp only [Act.put, List.setIfInBounds_toArray, List.set_cons_zero, List.set_cons_succ, i64_w, i32_w]
        rfl
      refine pure_ (i := 5) (N := some 22) (v := ?_) (a' := ?_) #[true, true, false, false, false, true, false, false, false, false, false, false] rfl rfl (any_of HT_.out (by kernel_rfl)) (fun _ _ _ h => h) (Or.inl ⟨by rfl, ?_⟩) ?_ ?_
      rotate_left
      · intro w'
        go_simp
        with_reducible rfl
      rotate_left
      · simp only [Act.put, List.setIfInBounds_toArray, List.set_cons_zero, List.set_cons_succ, i64_w, i32_w]
        rfl
      refine pure_ (i := 8) (N := some 25) (v := ?_) (a' := ?_) #[true, true, false, false, false, true, false, false, true, false, false, false] rfl rfl (any_of HT_.out (by kernel_rfl)) (fun _ _ _ h => h) (Or.inl ⟨by rfl, ?_⟩) ?_ ?_
      rotate_left
      · intro w'
        go_simp
        with_reducible rfl
      rotate_left
      · simp only [Act.put, List.setIfInBounds_toArray, List.set_cons_zero, List.set_cons_succ, i64_w, i32_w]
        rfl
      refine join_ (σ := Value × Nat) 1 #[true, true, true, true, true, true, true, true, true, true, true, false] (fun s_ => [(19, .int .i64 t120), (23, .int .i64 t122), (24, s_.1), (7, .pointer (some ⟨s_.2, 0, none⟩)), (20, .pointer (some (ad121.add (t120).toNat))), (21, .string (rdOf ByteArray.empty y114 t120)), (26, .agg #[.string (rdOf ByteArray.empty y114 t120), s_.1, .int .i64 1, .int .i64 0, .int .i64 0, .int .i64 0, .int .i64 0, .int .i64 0, .int .i64 0, .int .i64 0, .int .i64 0, .int .i64 0])]) (fun s_ w' => (w'.cell? (ad121.add (t120).toNat) = some (.string (rdOf ByteArray.empty y114 t120))) ∧ (Kd.R Kd.string 9 w' w.heap.size (fun _ => True) (Value.slice (some ad121) y114.length cn_) y114) ∧ (Kd.R k51 51 w' w.heap.size (fun _ => True) s_.1 t123) ∧ (w'.heap[gb113]? = some (.cells #[.string (⟨#[]⟩ : ByteArray), .slice none 0 0, .int .i64 0, .int .i64 0, .int .i64 0, .int .i64 0, .int .i64 0, .int .i64 0, .int .i64 0, .int .i64 0, .int .i64 0, .int .i64 0] 27 (0, 0))) ∧ (w'.heap[s_.2]? = some (.cells #[.string (⟨#[]⟩ : ByteArray), .slice none 0 0, .int .i64 0, .int .i64 0, .int .i64 0, .int .i64 0, .int .i64 0, .int .i64 0, .int .i64 0, .int .i64 0, .int .i64 0, .int .i64 0] 27 (0, 0))) ∧ (w.heap.size ≤ s_.2) ∧ (w.heap.size ≤ s_.2) ∧ (gb113 ≠ s_.2) ∧ (s_.2 ≠ gb113) ∧ (Below w.heap.size w w')) ?_ ?_
      rotate_left
      · intro hCont
        refine two_ (i := 2) (j := 10) (Ni := some 19) (Nj := some 7) #[true, true, true, false, false, true, false, false, true, false, false, false] #[true, true, false, false, false, true, false, false, true, false, true, false] rfl rfl rfl rfl (two_of HT_.out (by kernel_rfl)) (by decide) (by decide) (fun K hK => ?_) (fun K hK => ?_)
        · skip
          refine goes_ Try.func32 (by kernel_rfl) rfl #[.slice A0 l0.length c0, .int .i64 3, .int .i64 2] (by rfl) rfl rfl (by (try simp only [List.map_toArray, List.map_cons, List.map_nil]); first | done | rfl | (simp only [List.length_drop, List.length_take]; rfl)) ?_
          with_reducible refine (intervalmonref01_Pick.calls _ _ l0 3 2 t120 _ ?side1 ?side2 A5.out).mono ?_
          (case side1 => repeat (first | exact (Kd.C_below HR0.out HB.out) | (with_reducible refine Kd.C_alloc ?_ _) | (with_reducible refine Kd.C_drewN ?_ _) | (with_reducible refine Kd.C_drew ?_)))
          (case side2 => exact HC0.out)
          rintro e w' ⟨rfl, ⟨nd, rfl⟩⟩
          refine ⟨_, rfl, ?_⟩
          refine hK.out _ _ (hHeld) (fun hHeld => ?_)
          clear hK K
          refine norm_ (a' := ?_) ?_ ?_
          rotate_left
          · show Act.put _ (some 19) _ = _
            simp only [Act.put, List.setIfInBounds_toArray, List.set_cons_zero, List.set_cons_succ, i64_w, i32_w]
            rfl
          refine pure_ (i := 3) (N := some 20) (v := ?_) (a' := ?_) #[true, true, true, true, false, true, false, false, true, false, false, false] rfl rfl (any_of HT_.out (by kernel_rfl)) (fun _ _ _ h => h) (Or.inl ⟨by rfl, ?_⟩) ?_ ?_
          rotate_left
          · intro w'
            go_simp
            with_reducible rfl
          rotate_left
          · simp only [Act.put, List.setIfInBounds_toArray, List.set_cons_zero, List.set_cons_succ, i64_w, i32_w]
            rfl
          refine take_ (i := 4) (N := some 21) (v := ?_) (a' := ?_) #[true, true, true, true, true, true, false, false, true, false, false, false] rfl rfl (take_ofW HT_.out HW_.out (by kernel_rfl)) (fun _ _ _ h => h) (Or.inl ⟨by rfl, ?_⟩) hHeld ?_ ?_
          rotate_left
          · intro w' s0
            go_simp
            with_reducible rfl
          rotate_left
          · simp only [Act.put, List.setIfInBounds_toArray, List.set_cons_zero, List.set_cons_succ, i64_w, i32_w]
            rfl
          refine two_ (i := 6) (j := 10) (Ni := some 23) (Nj := some 7) #[true, true, true, true, true, true, true, false, true, false, false, false] #[true, true, true, true, true, true, false, false, true, false, true, false] rfl rfl rfl rfl (two_of HT_.out (by kernel_rfl)) (by decide) (by decide) (fun K hK => ?_) (fun K hK => ?_)
          · skip
            refine goes_ Try.func32 (by kernel_rfl) rfl #[.slice A0 l0.length c0, .int .i64 4, .int .i64 4] (by rfl) rfl rfl (by (try simp only [List.map_toArray, List.map_cons, List.map_nil]); first | done | rfl | (simp only [List.length_drop, List.length_take]; rfl)) ?_
            with_reducible refine (intervalmonref01_Pick.calls _ _ l0 4 4 t122 _ ?side1 ?side2 A8.out).mono ?_
            (case side1 => repeat (first | exact (Kd.C_below HR0.out (by repeat (first | (with_reducible first | exact HB.out | apply below_alloc | apply pw_below_drewN | apply below_drew1 | refine below_set ?_ GE113.out) | exact HB.out))) | (with_reducible refine Kd.C_alloc ?_ _) | (with_reducible refine Kd.C_drewN ?_ _) | (with_reducible refine Kd.C_drew ?_)))
            (case side2 => exact HC0.out)
            rintro e w' ⟨rfl, ⟨nd, rfl⟩⟩
            refine ⟨_, rfl, ?_⟩
            refine hK.out _ _ (hHeld) (fun hHeld => ?_)
            clear hK K
            refine norm_ (a' := ?_) ?_ ?_
            rotate_left
            · show Act.put _ (some 23) _ = _
              simp only [Act.put, List.setIfInBounds_toArray, List.set_cons_zero, List.set_cons_succ, i64_w, i32_w]
              rfl
            refine two_ (i := 7) (j := 10) (Ni := some 24) (Nj := some 7) #[true, true, true, true, true, true, true, true, true, false, false, false] #[true, true, true, true, true, true, true, false, true, false, true, false] rfl rfl rfl rfl (two_of HT_.out (by kernel_rfl)) (by decide) (by decide) (fun K hK => ?_) (fun K hK => ?_)
            · skip
              refine goes_ Try.func33 (by kernel_rfl) rfl #[.int .i64 t122] (by rfl) rfl rfl (by (try simp only [List.map_toArray, List.map_cons, List.map_nil]); first | done | rfl | (simp only [List.length_drop, List.length_take]; rfl)) ?_
              with_reducible refine (intervalmonref10_Labels.calls t122 t123 _ A9.out).mono ?_
              rintro e w18 ⟨v124, rfl, ho0, hb⟩
              have HS0_ := (hb.cell (World.block_lt_of_cell? _ _ (hHeld))).trans (hHeld)
              refine ⟨_, rfl, ?_⟩
              have n0_ := Aside0.mk (Kd.R_below (by (with_reducible repeat (first | apply Kd.R_alloc | apply Kd.R_drewN | apply Kd.R_drew)); exact HO116.out) hb)
              have n1_ := Aside0.mk (Kd.R_lower ho0 (below_size (by repeat (first | (with_reducible first | exact HB.out | apply below_alloc | apply pw_below_drewN | apply below_drew1 | refine below_set ?_ GE113.out) | exact HB.out))))
              have n2_ := Aside0.mk (blk_below (g := gb113) (o := .cells #[.string (⟨#[]⟩ : ByteArray), .slice none 0 0, .int .i64 0, .int .i64 0, .int .i64 0, .int .i64 0, .int .i64 0, .int .i64 0, .int .i64 0, .int .i64 0, .int .i64 0, .int .i64 0] 27 (0, 0)) (by (with_reducible repeat (first | refine blk_drewN ?_ _ | refine blk_drew ?_ | refine blk_alloc ?_ _)); exact BK113.out) hb)
              have n3_ := Aside0.mk (below_step (by repeat (first | (with_reducible first | exact HB.out | apply below_alloc | apply pw_below_drewN | apply below_drew1 | refine below_set ?_ GE113.out) | exact HB.out)) hb)
              clear HO116
              clear BK113
              clear HB
              have HO116 := n0_
              have HO125 := n1_
              have BK113 := n2_
              have HB := n3_
              clear n0_ n1_ n2_ n3_
              (try clear hb)
              (try clear hb2)
              (try clear hk)
              (try clear hi)
              (try clear ho0)
              obtain ⟨Ao19, co19, eo19⟩ := Kd.R_slice HO125.out
              (first | subst eo19 | (injection eo19 with f1_ f2_ f3_; have f4_ := f1_.symm; have f5_ := f3_.symm; clear f1_ f2_ f3_; subst f4_; subst f5_))
              refine hK.out _ _ (HS0_) (fun hHeld => ?_)
              clear hK K
              refine norm_ (a' := ?_) ?_ ?_
              rotate_left
              · show Act.put _ (some 24) _ = _
                simp only [Act.put, List.setIfInBounds_toArray, List.set_cons_zero, List.set_cons_succ, i64_w, i32_w]
                rfl
              refine pure_ (i := 9) (N := some 26) (v := ?_) (a' := ?_) #[true, true, true, true, true, true, true, true, true, true, false, false] rfl rfl (any_of HT_.out (by kernel_rfl)) (fun _ _ _ h => h) (Or.inl ⟨by rfl, ?_⟩) ?_ ?_
              rotate_left
              · intro w'
                go_simp
                with_reducible rfl
              rotate_left
              · simp only [Act.put, List.setIfInBounds_toArray, List.set_cons_zero, List.set_cons_succ, i64_w, i32_w]
                rfl
              refine one_ (i := 10) (N := some 7) #[true, true, true, true, true, true, true, true, true, true, true, false] rfl rfl (one_of HT_.out (by kernel_rfl)) (by decide) (fun K hK => ?_)
              refine box_step ?hg (N := 7) ?hd (cs := #[.string (⟨#[]⟩ : ByteArray), .slice none 0 0, .int .i64 0, .int .i64 0, .int .i64 0, .int .i64 0, .int .i64 0, .int .i64 0, .int .i64 0, .int .i64 0, .int .i64 0, .int .i64 0]) (t := 27) ?hr ?_; (case hd => rfl); (case hg => rfl); (case hr => first | (go_simp; done) | (go_simp; rfl))
              intro gb126 hg w20 hbox hb
              have HS0_ := (hb.cell (World.block_lt_of_cell? _ _ (hHeld))).trans (hHeld)
              have n0_ := Aside0.mk (Kd.R_below (by (with_reducible repeat (first | apply Kd.R_alloc | apply Kd.R_drewN | apply Kd.R_drew)); exact HO116.out) hb)
              have n1_ := Aside0.mk (Kd.R_below (by (with_reducible repeat (first | apply Kd.R_alloc | apply Kd.R_drewN | apply Kd.R_drew)); exact HO125.out) hb)
              have n2_ := Aside0.mk (blk_below (g := gb113) (o := .cells #[.string (⟨#[]⟩ : ByteArray), .slice none 0 0, .int .i64 0, .int .i64 0, .int .i64 0, .int .i64 0, .int .i64 0, .int .i64 0, .int .i64 0, .int .i64 0, .int .i64 0, .int .i64 0] 27 (0, 0)) (by (with_reducible repeat (first | refine blk_drewN ?_ _ | refine blk_drew ?_ | refine blk_alloc ?_ _)); exact BK113.out) hb)
              have n3_ := Aside0.mk (below_step (by repeat (first | (with_reducible first | exact HB.out | apply below_alloc | apply pw_below_drewN | apply below_drew1 | refine below_set ?_ GE113.out) | exact HB.out)) hb)
              have n4_ := Aside0.mk (hbox)
              have n5_ := Aside0.mk ((by rw [hg]; exact (below_size (by repeat (first | (with_reducible first | exact HB.out | apply below_alloc | apply pw_below_drewN | apply below_drew1 | refine below_set ?_ GE113.out) | exact HB.out))) : w.heap.size ≤ gb126))
              have n6_ := Aside0.mk ((by rw [hg]; exact (below_size (by repeat (first | (with_reducible first | exact HB.out | apply below_alloc | apply pw_below_drewN | apply below_drew1 | refine below_set ?_ GE113.out) | exact HB.out))) : w.heap.size ≤ gb126))
              have n7_ := Aside0.mk ((by rw [hg]; exact Nat.ne_of_lt (blk_lt (g := gb113) (o := .cells #[.string (⟨#[]⟩ : ByteArray), .slice none 0 0, .int .i64 0, .int .i64 0, .int .i64 0, .int .i64 0, .int .i64 0, .int .i64 0, .int .i64 0, .int .i64 0, .int .i64 0, .int .i64 0] 27 (0, 0)) (by (with_reducible repeat (first | refine blk_drewN ?_ _ | refine blk_drew ?_ | refine blk_alloc ?_ _)); exact BK113.out)) : gb113 ≠ gb126))
              have n8_ := Aside0.mk ((by rw [hg]; exact Nat.ne_of_gt (blk_lt (g := gb113) (o := .cells #[.string (⟨#[]⟩ : ByteArray), .slice none 0 0, .int .i64 0, .int .i64 0, .int .i64 0, .int .i64 0, .int .i64 0, .int .i64 0, .int .i64 0, .int .i64 0, .int .i64 0, .int .i64 0] 27 (0, 0)) (by (with_reducible repeat (first | refine blk_drewN ?_ _ | refine blk_drew ?_ | refine blk_alloc ?_ _)); exact BK113.out)) : gb126 ≠ gb113))
              clear HO116
              clear HO125
              clear BK113
              clear HB
              have HO116 := n0_
              have HO125 := n1_
              have BK113 := n2_
              have HB := n3_
              have BK126 := n4_
              have GW126 := n5_
              have GE126 := n6_
              have NB113_126 := n7_
              have NB126_113 := n8_
              clear n0_ n1_ n2_ n3_ n4_ n5_ n6_ n7_ n8_
              clear hb hbox hg
              refine hK.out _ _ (HS0_) (fun hHeld => ?_)
              clear hK K
              refine norm_ (a' := ?_) ?_ ?_
              rotate_left
              · show Act.put _ (some 7) _ = _
                simp only [Act.put, List.setIfInBounds_toArray, List.set_cons_zero, List.set_cons_succ, i64_w, i32_w]
                rfl
              exact norm_ (by simp only [putAll, Act.put, List.setIfInBounds_toArray, List.set_cons_zero, List.set_cons_succ]) (hCont (.slice Ao19 t123.length co19, gb126) _ ⟨hHeld, (by (with_reducible repeat (first | apply Kd.R_alloc | apply Kd.R_drewN | apply Kd.R_drew)); exact HO116.out), (by (with_reducible repeat (first | apply Kd.R_alloc | apply Kd.R_drewN | apply Kd.R_drew)); exact HO125.out), (by (with_reducible repeat (first | refine blk_drewN ?_ _ | refine blk_drew ?_ | refine blk_alloc ?_ _)); exact BK113.out), (by (with_reducible repeat (first | refine blk_drewN ?_ _ | refine blk_drew ?_ | refine blk_alloc ?_ _)); exact BK126.out), GW126.out, GE126.out, NB113_126.out, NB126_113.out, (by repeat (first | (with_reducible first | exact HB.out | apply below_alloc | apply pw_below_drewN | apply below_drew1 | refine below_set ?_ GE113.out | refine below_set ?_ GE126.out) | exact HB.out))⟩)
            · skip
              refine box_step ?hg (N := 7) ?hd (cs := #[.string (⟨#[]⟩ : ByteArray), .slice none 0 0, .int .i64 0, .int .i64 0, .int .i64 0, .int .i64 0, .int .i64 0, .int .i64 0, .int .i64 0, .int .i64 0, .int .i64 0, .int .i64 0]) (t := 27) ?hr ?_; (case hd => rfl); (case hg => rfl); (case hr => first | (go_simp; done) | (go_simp; rfl))
              intro gb126 hg w18 hbox hb
              have HS0_ := (hb.cell (World.block_lt_of_cell? _ _ (hHeld))).trans (hHeld)
              have n0_ := Aside0.mk (Kd.R_below (by (with_reducible repeat (first | apply Kd.R_alloc | apply Kd.R_drewN | apply Kd.R_drew)); exact HO116.out) hb)
              have n1_ := Aside0.mk (blk_below (g := gb113) (o := .cells #[.string (⟨#[]⟩ : ByteArray), .slice none 0 0, .int .i64 0, .int .i64 0, .int .i64 0, .int .i64 0, .int .i64 0, .int .i64 0, .int .i64 0, .int .i64 0, .int .i64 0, .int .i64 0] 27 (0, 0)) (by (with_reducible repeat (first | refine blk_drewN ?_ _ | refine blk_drew ?_ | refine blk_alloc ?_ _)); exact BK113.out) hb)
              have n2_ := Aside0.mk (below_step (by repeat (first | (with_reducible first | exact HB.out | apply below_alloc | apply pw_below_drewN | apply below_drew1 | refine below_set ?_ GE113.out) | exact HB.out)) hb)
              have n3_ := Aside0.mk (hbox)
              have n4_ := Aside0.mk ((by rw [hg]; exact (below_size (by repeat (first | (with_reducible first | exact HB.out | apply below_alloc | apply pw_below_drewN | apply below_drew1 | refine below_set ?_ GE113.out) | exact HB.out))) : w.heap.size ≤ gb126))
              have n5_ := Aside0.mk ((by rw [hg]; exact (below_size (by repeat (first | (with_reducible first | exact HB.out | apply below_alloc | apply pw_below_drewN | apply below_drew1 | refine below_set ?_ GE113.out) | exact HB.out))) : w.heap.size ≤ gb126))
              have n6_ := Aside0.mk ((by rw [hg]; exact Nat.ne_of_lt (blk_lt (g := gb113) (o := .cells #[.string (⟨#[]⟩ : ByteArray), .slice none 0 0, .int .i64 0, .int .i64 0, .int .i64 0, .int .i64 0, .int .i64 0, .int .i64 0, .int .i64 0, .int .i64 0, .int .i64 0, .int .i64 0] 27 (0, 0)) (by (with_reducible repeat (first | refine blk_drewN ?_ _ | refine blk_drew ?_ | refine blk_alloc ?_ _)); exact BK113.out)) : gb113 ≠ gb126))
              have n7_ := Aside0.mk ((by rw [hg]; exact Nat.ne_of_gt (blk_lt (g := gb113) (o := .cells #[.string (⟨#[]⟩ : ByteArray), .slice none 0 0, .int .i64 0, .int .i64 0, .int .i64 0, .int .i64 0, .int .i64 0, .int .i64 0, .int .i64 0, .int .i64 0, .int .i64 0, .int .i64 0] 27 (0, 0)) (by (with_reducible repeat (first | refine blk_drewN ?_ _ | refine blk_drew ?_ | refine blk_alloc ?_ _)); exact BK113.out)) : gb126 ≠ gb113))
              clear HO116
              clear BK113
              clear HB
              have HO116 := n0_
              have BK113 := n1_
              have HB := n2_
              have BK126 := n3_
              have GW126 := n4_
              have GE126 := n5_
              have NB113_126 := n6_
              have NB126_113 := n7_
              clear n0_ n1_ n2_ n3_ n4_ n5_ n6_ n7_
              clear hb hbox hg
              refine hK.out _ _ (HS0_) (fun hHeld => ?_)
              clear hK K
              refine norm_ (a' := ?_) ?_ ?_
              rotate_left
              · show Act.put _ (some 7) _ = _
                simp only [Act.put, List.setIfInBounds_toArray, List.set_cons_zero, List.set_cons_succ, i64_w, i32_w]
                rfl
              refine one_ (i := 7) (N := some 24) #[true, true, true, true, true, true, true, true, true, false, true, false] rfl rfl (one_of HT_.out (by kernel_rfl)) (by decide) (fun K hK => ?_)
              refine goes_ Try.func33 (by kernel_rfl) rfl #[.int .i64 t122] (by rfl) rfl rfl (by (try simp only [List.map_toArray, List.map_cons, List.map_nil]); first | done | rfl | (simp only [List.length_drop, List.length_take]; rfl)) ?_
              with_reducible refine (intervalmonref10_Labels.calls t122 t123 _ A9.out).mono ?_
              rintro e w19 ⟨v124, rfl, ho0, hb⟩
              have HS0_ := (hb.cell (World.block_lt_of_cell? _ _ (hHeld))).trans (hHeld)
              refine ⟨_, rfl, ?_⟩
              have n0_ := Aside0.mk (Kd.R_below (by (with_reducible repeat (first | apply Kd.R_alloc | apply Kd.R_drewN | apply Kd.R_drew)); exact HO116.out) hb)
              have n1_ := Aside0.mk (Kd.R_lower ho0 (below_size (by repeat (first | (with_reducible first | exact HB.out | apply below_alloc | apply pw_below_drewN | apply below_drew1 | refine below_set ?_ GE113.out | refine below_set ?_ GE126.out) | exact HB.out))))
              have n2_ := Aside0.mk (blk_below (g := gb113) (o := .cells #[.string (⟨#[]⟩ : ByteArray), .slice none 0 0, .int .i64 0, .int .i64 0, .int .i64 0, .int .i64 0, .int .i64 0, .int .i64 0, .int .i64 0, .int .i64 0, .int .i64 0, .int .i64 0] 27 (0, 0)) (by (with_reducible repeat (first | refine blk_drewN ?_ _ | refine blk_drew ?_ | refine blk_alloc ?_ _)); exact BK113.out) hb)
              have n3_ := Aside0.mk (blk_below (g := gb126) (o := .cells #[.string (⟨#[]⟩ : ByteArray), .slice none 0 0, .int .i64 0, .int .i64 0, .int .i64 0, .int .i64 0, .int .i64 0, .int .i64 0, .int .i64 0, .int .i64 0, .int .i64 0, .int .i64 0] 27 (0, 0)) (by (with_reducible repeat (first | refine blk_drewN ?_ _ | refine blk_drew ?_ | refine blk_alloc ?_ _)); exact BK126.out) hb)
              have n4_ := Aside0.mk (below_step (by repeat (first | (with_reducible first | exact HB.out | apply below_alloc | apply pw_below_drewN | apply below_drew1 | refine below_set ?_ GE113.out | refine below_set ?_ GE126.out) | exact HB.out)) hb)
              clear HO116
              clear BK113
              clear BK126
              clear HB
              have HO116 := n0_
              have HO125 := n1_
              have BK113 := n2_
              have BK126 := n3_
              have HB := n4_
              clear n0_ n1_ n2_ n3_ n4_
              (try clear hb)
              (try clear hb2)
              (try clear hk)
              (try clear hi)
              (try clear ho0)
              obtain ⟨Ao20, co20, eo20⟩ := Kd.R_slice HO125.out
              (first | subst eo20 | (injection eo20 with f1_ f2_ f3_; have f4_ := f1_.symm; have f5_ := f3_.symm; clear f1_ f2_ f3_; subst f4_; subst f5_))
              refine hK.out _ _ (HS0_) (fun hHeld => ?_)
              clear hK K
              refine norm_ (a' := ?_) ?_ ?_
              rotate_left
              · show Act.put _ (some 24) _ = _
                simp only [Act.put, List.setIfInBounds_toArray, List.set_cons_zero, List.set_cons_succ, i64_w, i32_w]
                rfl
              refine pure_ (i := 9) (N := some 26) (v := ?_) (a' := ?_) #[true, true, true, true, true, true, true, true, true, true, true, false] rfl rfl (any_of HT_.out (by kernel_rfl)) (fun _ _ _ h => h) (Or.inl ⟨by rfl, ?_⟩) ?_ ?_
              rotate_left
              · intro w'
                go_simp
                with_reducible rfl
              rotate_left
              · simp only [Act.put, List.setIfInBounds_toArray, List.set_cons_zero, List.set_cons_succ, i64_w, i32_w]
                rfl
              exact norm_ (by simp only [putAll, Act.put, List.setIfInBounds_toArray, List.set_cons_zero, List.set_cons_succ]) (hCont (.slice Ao20 t123.length co20, gb126) _ ⟨hHeld, (by (with_reducible repeat (first | apply Kd.R_alloc | apply Kd.R_drewN | apply Kd.R_drew)); exact HO116.out), (by (with_reducible repeat (first | apply Kd.R_alloc | apply Kd.R_drewN | apply Kd.R_drew)); exact HO125.out), (by (with_reducible repeat (first | refine blk_drewN ?_ _ | refine blk_drew ?_ | refine blk_alloc ?_ _)); exact BK113.out), (by (with_reducible repeat (first | refine blk_drewN ?_ _ | refine blk_drew ?_ | refine blk_alloc ?_ _)); exact BK126.out), GW126.out, GE126.out, NB113_126.out, NB126_113.out, (by repeat (first | (with_reducible first | exact HB.out | apply below_alloc | apply pw_below_drewN | apply below_drew1 | refine below_set ?_ GE113.out | refine below_set ?_ GE126.out) | exact HB.out))⟩)
          · skip
            refine box_step ?hg (N := 7) ?hd (cs := #[.string (⟨#[]⟩ : ByteArray), .slice none 0 0, .int .i64 0, .int .i64 0, .int .i64 0, .int .i64 0, .int .i64 0, .int .i64 0, .int .i64 0, .int .i64 0, .int .i64 0, .int .i64 0]) (t := 27) ?hr ?_; (case hd => rfl); (case hg => rfl); (case hr => first | (go_simp; done) | (go_simp; rfl))
            intro gb126 hg w18 hbox hb
            have HS0_ := (hb.cell (World.block_lt_of_cell? _ _ (hHeld))).trans (hHeld)
            have n0_ := Aside0.mk (Kd.R_below (by (with_reducible repeat (first | apply Kd.R_alloc | apply Kd.R_drewN | apply Kd.R_drew)); exact HO116.out) hb)
            have n1_ := Aside0.mk (blk_below (g := gb113) (o := .cells #[.string (⟨#[]⟩ : ByteArray), .slice none 0 0, .int .i64 0, .int .i64 0, .int .i64 0, .int .i64 0, .int .i64 0, .int .i64 0, .int .i64 0, .int .i64 0, .int .i64 0, .int .i64 0] 27 (0, 0)) (by (with_reducible repeat (first | refine blk_drewN ?_ _ | refine blk_drew ?_ | refine blk_alloc ?_ _)); exact BK113.out) hb)
            have n2_ := Aside0.mk (below_step (by repeat (first | (with_reducible first | exact HB.out | apply below_alloc | apply pw_below_drewN | apply below_drew1 | refine below_set ?_ GE113.out) | exact HB.out)) hb)
            have n3_ := Aside0.mk (hbox)
            have n4_ := Aside0.mk ((by rw [hg]; exact (below_size (by repeat (first | (with_reducible first | exact HB.out | apply below_alloc | apply pw_below_drewN | apply below_drew1 | refine below_set ?_ GE113.out) | exact HB.out))) : w.heap.size ≤ gb126))
            have n5_ := Aside0.mk ((by rw [hg]; exact (below_size (by repeat (first | (with_reducible first | exact HB.out | apply below_alloc | apply pw_below_drewN | apply below_drew1 | refine below_set ?_ GE113.out) | exact HB.out))) : w.heap.size ≤ gb126))
            have n6_ := Aside0.mk ((by rw [hg]; exact Nat.ne_of_lt (blk_lt (g := gb113) (o := .cells #[.string (⟨#[]⟩ : ByteArray), .slice none 0 0, .int .i64 0, .int .i64 0, .int .i64 0, .int .i64 0, .int .i64 0, .int .i64 0, .int .i64 0, .int .i64 0, .int .i64 0, .int .i64 0] 27 (0, 0)) (by (with_reducible repeat (first | refine blk_drewN ?_ _ | refine blk_drew ?_ | refine blk_alloc ?_ _)); exact BK113.out)) : gb113 ≠ gb126))
            have n7_ := Aside0.mk ((by rw [hg]; exact Nat.ne_of_gt (blk_lt (g := gb113) (o := .cells #[.string (⟨#[]⟩ : ByteArray), .slice none 0 0, .int .i64 0, .int .i64 0, .int .i64 0, .int .i64 0, .int .i64 0, .int .i64 0, .int .i64 0, .int .i64 0, .int .i64 0, .int .i64 0] 27 (0, 0)) (by (with_reducible repeat (first | refine blk_drewN ?_ _ | refine blk_drew ?_ | refine blk_alloc ?_ _)); exact BK113.out)) : gb126 ≠ gb113))
            clear HO116
            clear BK113
            clear HB
            have HO116 := n0_
            have BK113 := n1_
            have HB := n2_
            have BK126 := n3_
            have GW126 := n4_
            have GE126 := n5_
            have NB113_126 := n6_
            have NB126_113 := n7_
            clear n0_ n1_ n2_ n3_ n4_ n5_ n6_ n7_
            clear hb hbox hg
            refine hK.out _ _ (HS0_) (fun hHeld => ?_)
            clear hK K
            refine norm_ (a' := ?_) ?_ ?_
            rotate_left
            · show Act.put _ (some 7) _ = _
              simp only [Act.put, List.setIfInBounds_toArray, List.set_cons_zero, List.set_cons_succ, i64_w, i32_w]
              rfl
            refine one_ (i := 6) (N := some 23) #[true, true, true, true, true, true, true, false, true, false, true, false] rfl rfl (one_of HT_.out (by kernel_rfl)) (by decide) (fun K hK => ?_)
            refine goes_ Try.func32 (by kernel_rfl) rfl #[.slice A0 l0.length c0, .int .i64 4, .int .i64 4] (by rfl) rfl rfl (by (try simp only [List.map_toArray, List.map_cons, List.map_nil]); first | done | rfl | (simp only [List.length_drop, List.length_take]; rfl)) ?_
            with_reducible refine (intervalmonref01_Pick.calls _ _ l0 4 4 t122 _ ?side1 ?side2 A8.out).mono ?_
            (case side1 => repeat (first | exact (Kd.C_below HR0.out HB.out) | (with_reducible refine Kd.C_alloc ?_ _) | (with_reducible refine Kd.C_drewN ?_ _) | (with_reducible refine Kd.C_drew ?_)))
            (case side2 => exact HC0.out)
            rintro e w' ⟨rfl, ⟨nd, rfl⟩⟩
            refine ⟨_, rfl, ?_⟩
            refine hK.out _ _ (hHeld) (fun hHeld => ?_)
            clear hK K
            refine norm_ (a' := ?_) ?_ ?_
            rotate_left
            · show Act.put _ (some 23) _ = _
              simp only [Act.put, List.setIfInBounds_toArray, List.set_cons_zero, List.set_cons_succ, i64_w, i32_w]
              rfl
            refine one_ (i := 7) (N := some 24) #[true, true, true, true, true, true, true, true, true, false, true, false] rfl rfl (one_of HT_.out (by kernel_rfl)) (by decide) (fun K hK => ?_)
            refine goes_ Try.func33 (by kernel_rfl) rfl #[.int .i64 t122] (by rfl) rfl rfl (by (try simp only [List.map_toArray, List.map_cons, List.map_nil]); first | done | rfl | (simp only [List.length_drop, List.length_take]; rfl)) ?_
            with_reducible refine (intervalmonref10_Labels.calls t122 t123 _ A9.out).mono ?_
            rintro e w19 ⟨v124, rfl, ho0, hb⟩
            have HS0_ := (hb.cell (World.block_lt_of_cell? _ _ (hHeld))).trans (hHeld)
            refine ⟨_, rfl, ?_⟩
            have n0_ := Aside0.mk (Kd.R_below (by (with_reducible repeat (first | apply Kd.R_alloc | apply Kd.R_drewN | apply Kd.R_drew)); exact HO116.out) hb)
            have n1_ := Aside0.mk (Kd.R_lower ho0 (below_size (by repeat (first | (with_reducible first | exact HB.out | apply below_alloc | apply pw_below_drewN | apply below_drew1 | refine below_set ?_ GE113.out | refine below_set ?_ GE126.out) | exact HB.out))))
            have n2_ := Aside0.mk (blk_below (g := gb113) (o := .cells #[.string (⟨#[]⟩ : ByteArray), .slice none 0 0, .int .i64 0, .int .i64 0, .int .i64 0, .int .i64 0, .int .i64 0, .int .i64 0, .int .i64 0, .int .i64 0, .int .i64 0, .int .i64 0] 27 (0, 0)) (by (with_reducible repeat (first | refine blk_drewN ?_ _ | refine blk_drew ?_ | refine blk_alloc ?_ _)); exact BK113.out) hb)
            have n3_ := Aside0.mk (blk_below (g := gb126) (o := .cells #[.string (⟨#[]⟩ : ByteArray), .slice none 0 0, .int .i64 0, .int .i64 0, .int .i64 0, .int .i64 0, .int .i64 0, .int .i64 0, .int .i64 0, .int .i64 0, .int .i64 0, .int .i64 0] 27 (0, 0)) (by (with_reducible repeat (first | refine blk_drewN ?_ _ | refine blk_drew ?_ | refine blk_alloc ?_ _)); exact BK126.out) hb)
            have n4_ := Aside0.mk (below_step (by repeat (first | (with_reducible first | exact HB.out | apply below_alloc | apply pw_below_drewN | apply below_drew1 | refine below_set ?_ GE113.out | refine below_set ?_ GE126.out) | exact HB.out)) hb)
            clear HO116
            clear BK113
            clear BK126
            clear HB
            have HO116 := n0_
            have HO125 := n1_
            have BK113 := n2_
            have BK126 := n3_
            have HB := n4_
            clear n0_ n1_ n2_ n3_ n4_
            (try clear hb)
            (try clear hb2)
            (try clear hk)
            (try clear hi)
            (try clear ho0)
            obtain ⟨Ao20, co20, eo20⟩ := Kd.R_slice HO125.out
            (first | subst eo20 | (injection eo20 with f1_ f2_ f3_; have f4_ := f1_.symm; have f5_ := f3_.symm; clear f1_ f2_ f3_; subst f4_; subst f5_))
            refine hK.out _ _ (HS0_) (fun hHeld => ?_)
            clear hK K
            refine norm_ (a' := ?_) ?_ ?_
            rotate_left
            · show Act.put _ (some 24) _ = _
              simp only [Act.put, List.setIfInBounds_toArray, List.set_cons_zero, List.set_cons_succ, i64_w, i32_w]
              rfl
            refine pure_ (i := 9) (N := some 26) (v := ?_) (a' := ?_) #[true, true, true, true, true, true, true, true, true, true, true, false] rfl rfl (any_of HT_.out (by kernel_rfl)) (fun _ _ _ h => h) (Or.inl ⟨by rfl, ?_⟩) ?_ ?_
            rotate_left
            · intro w'
              go_simp
              with_reducible rfl
            rotate_left
            · simp only [Act.put, List.setIfInBounds_toArray, List.set_cons_zero, List.set_cons_succ, i64_w, i32_w]
              rfl
            exact norm_ (by simp only [putAll, Act.put, List.setIfInBounds_toArray, List.set_cons_zero, List.set_cons_succ]) (hCont (.slice Ao20 t123.length co20, gb126) _ ⟨hHeld, (by (with_reducible repeat (first | apply Kd.R_alloc | apply Kd.R_drewN | apply Kd.R_drew)); exact HO116.out), (by (with_reducible repeat (first | apply Kd.R_alloc | apply Kd.R_drewN | apply Kd.R_drew)); exact HO125.out), (by (with_reducible repeat (first | refine blk_drewN ?_ _ | refine blk_drew ?_ | refine blk_alloc ?_ _)); exact BK113.out), (by (with_reducible repeat (first | refine blk_drewN ?_ _ | refine blk_drew ?_ | refine blk_alloc ?_ _)); exact BK126.out), GW126.out, GE126.out, NB113_126.out, NB126_113.out, (by repeat (first | (with_reducible first | exact HB.out | apply below_alloc | apply pw_below_drewN | apply below_drew1 | refine below_set ?_ GE113.out | refine below_set ?_ GE126.out) | exact HB.out))⟩)
        · skip
          refine box_step ?hg (N := 7) ?hd (cs := #[.string (⟨#[]⟩ : ByteArray), .slice none 0 0, .int .i64 0, .int .i64 0, .int .i64 0, .int .i64 0, .int .i64 0, .int .i64 0, .int .i64 0, .int .i64 0, .int .i64 0, .int .i64 0]) (t := 27) ?hr ?_; (case hd => rfl); (case hg => rfl); (case hr => first | (go_simp; done) | (go_simp; rfl))
          intro gb126 hg w18 hbox hb
          have HS0_ := (hb.cell (World.block_lt_of_cell? _ _ (hHeld))).trans (hHeld)
          have n0_ := Aside0.mk (Kd.R_below (by (with_reducible repeat (first | apply Kd.R_alloc | apply Kd.R_drewN | apply Kd.R_drew)); exact HO116.out) hb)
          have n1_ := Aside0.mk (blk_below (g := gb113) (o := .cells #[.string (⟨#[]⟩ : ByteArray), .slice none 0 0, .int .i64 0, .int .i64 0, .int .i64 0, .int .i64 0, .int .i64 0, .int .i64 0, .int .i64 0, .int .i64 0, .int .i64 0, .int .i64 0] 27 (0, 0)) (by (with_reducible repeat (first | refine blk_drewN ?_ _ | refine blk_drew ?_ | refine blk_alloc ?_ _)); exact BK113.out) hb)
          have n2_ := Aside0.mk (below_step (by repeat (first | (with_reducible first | exact HB.out | apply below_alloc | apply pw_below_drewN | apply below_drew1 | refine below_set ?_ GE113.out) | exact HB.out)) hb)
          have n3_ := Aside0.mk (hbox)
          have n4_ := Aside0.mk ((by rw [hg]; exact (below_size (by repeat (first | (with_reducible first | exact HB.out | apply below_alloc | apply pw_below_drewN | apply below_drew1 | refine below_set ?_ GE113.out) | exact HB.out))) : w.heap.size ≤ gb126))
          have n5_ := Aside0.mk ((by rw [hg]; exact (below_size (by repeat (first | (with_reducible first | exact HB.out | apply below_alloc | apply pw_below_drewN | apply below_drew1 | refine below_set ?_ GE113.out) | exact HB.out))) : w.heap.size ≤ gb126))
          have n6_ := Aside0.mk ((by rw [hg]; exact Nat.ne_of_lt (blk_lt (g := gb113) (o := .cells #[.string (⟨#[]⟩ : ByteArray), .slice none 0 0, .int .i64 0, .int .i64 0, .int .i64 0, .int .i64 0, .int .i64 0, .int .i64 0, .int .i64 0, .int .i64 0, .int .i64 0, .int .i64 0] 27 (0, 0)) (by (with_reducible repeat (first | refine blk_drewN ?_ _ | refine blk_drew ?_ | refine blk_alloc ?_ _)); exact BK113.out)) : gb113 ≠ gb126))
          have n7_ := Aside0.mk ((by rw [hg]; exact Nat.ne_of_gt (blk_lt (g := gb113) (o := .cells #[.string (⟨#[]⟩ : ByteArray), .slice none 0 0, .int .i64 0, .int .i64 0, .int .i64 0, .int .i64 0, .int .i64 0, .int .i64 0, .int .i64 0, .int .i64 0, .int .i64 0, .int .i64 0] 27 (0, 0)) (by (with_reducible repeat (first | refine blk_drewN ?_ _ | refine blk_drew ?_ | refine blk_alloc ?_ _)); exact BK113.out)) : gb126 ≠ gb113))
          clear HO116
          clear BK113
          clear HB
          have HO116 := n0_
          have BK113 := n1_
          have HB := n2_
          have BK126 := n3_
          have GW126 := n4_
          have GE126 := n5_
          have NB113_126 := n6_
          have NB126_113 := n7_
          clear n0_ n1_ n2_ n3_ n4_ n5_ n6_ n7_
          clear hb hbox hg
          refine hK.out _ _ (HS0_) (fun hHeld => ?_)
          clear hK K
          refine norm_ (a' := ?_) ?_ ?_
          rotate_left
          · show Act.put _ (some 7) _ = _
            simp only [Act.put, List.setIfInBounds_toArray, List.set_cons_zero, List.set_cons_succ, i64_w, i32_w]
            rfl
          refine one_ (i := 2) (N := some 19) #[true, true, true, false, false, true, false, false, true, false, true, false] rfl rfl (one_of HT_.out (by kernel_rfl)) (by decide) (fun K hK => ?_)
          refine goes_ Try.func32 (by kernel_rfl) rfl #[.slice A0 l0.length c0, .int .i64 3, .int .i64 2] (by rfl) rfl rfl (by (try simp only [List.map_toArray, List.map_cons, List.map_nil]); first | done | rfl | (simp only [List.length_drop, List.length_take]; rfl)) ?_
          with_reducible refine (intervalmonref01_Pick.calls _ _ l0 3 2 t120 _ ?side1 ?side2 A5.out).mono ?_
          (case side1 => repeat (first | exact (Kd.C_below HR0.out HB.out) | (with_reducible refine Kd.C_alloc ?_ _) | (with_reducible refine Kd.C_drewN ?_ _) | (with_reducible refine Kd.C_drew ?_)))
          (case side2 => exact HC0.out)
          rintro e w' ⟨rfl, ⟨nd, rfl⟩⟩
          refine ⟨_, rfl, ?_⟩
          refine hK.out _ _ (hHeld) (fun hHeld => ?_)
          clear hK K
          refine norm_ (a' := ?_) ?_ ?_
          rotate_left
          · show Act.put _ (some 19) _ = _
            simp only [Act.put, List.setIfInBounds_toArray, List.set_cons_zero, List.set_cons_succ, i64_w, i32_w]
            rfl
          refine pure_ (i := 3) (N := some 20) (v := ?_) (a' := ?_) #[true, true, true, true, false, true, false, false, true, false, true, false] rfl rfl (any_of HT_.out (by kernel_rfl)) (fun _ _ _ h => h) (Or.inl ⟨by rfl, ?_⟩) ?_ ?_
          rotate_left
          · intro w'
            go_simp
            with_reducible rfl
          rotate_left
          · simp only [Act.put, List.setIfInBounds_toArray, List.set_cons_zero, List.set_cons_succ, i64_w, i32_w]
            rfl
          refine take_ (i := 4) (N := some 21) (v := ?_) (a' := ?_) #[true, true, true, true, true, true, false, false, true, false, true, false] rfl rfl (take_ofW HT_.out HW_.out (by kernel_rfl)) (fun _ _ _ h => h) (Or.inl ⟨by rfl, ?_⟩) hHeld ?_ ?_
          rotate_left
          · intro w' s0
            go_simp
            with_reducible rfl
          rotate_left
          · simp only [Act.put, List.setIfInBounds_toArray, List.set_cons_zero, List.set_cons_succ, i64_w, i32_w]
            rfl
          refine one_ (i := 6) (N := some 23) #[true, true, true, true, true, true, true, false, true, false, true, false] rfl rfl (one_of HT_.out (by kernel_rfl)) (by decide) (fun K hK => ?_)
          refine goes_ Try.func32 (by kernel_rfl) rfl #[.slice A0 l0.length c0, .int .i64 4, .int .i64 4] (by rfl) rfl rfl (by (try simp only [List.map_toArray, List.map_cons, List.map_nil]); first | done | rfl | (simp only [List.length_drop, List.length_take]; rfl)) ?_
          with_reducible refine (intervalmonref01_Pick.calls _ _ l0 4 4 t122 _ ?side1 ?side2 A8.out).mono ?_
          (case side1 => repeat (first | exact (Kd.C_below HR0.out (by repeat (first | (with_reducible first | exact HB.out | apply below_alloc | apply pw_below_drewN | apply below_drew1 | refine below_set ?_ GE113.out | refine below_set ?_ GE126.out) | exact HB.out))) | (with_reducible refine Kd.C_alloc ?_ _) | (with_reducible refine Kd.C_drewN ?_ _) | (with_reducible refine Kd.C_drew ?_)))
          (case side2 => exact HC0.out)
          rintro e w' ⟨rfl, ⟨nd, rfl⟩⟩
          refine ⟨_, rfl, ?_⟩
          refine hK.out _ _ (hHeld) (fun hHeld => ?_)
          clear hK K
          refine norm_ (a' := ?_) ?_ ?_
          rotate_left
          · show Act.put _ (some 23) _ = _
            simp only [Act.put, List.setIfInBounds_toArray, List.set_cons_zero, List.set_cons_succ, i64_w, i32_w]
            rfl
          refine one_ (i := 7) (N := some 24) #[true, true, true, true, true, true, true, true, true, false, true, false] rfl rfl (one_of HT_.out (by kernel_rfl)) (by decide) (fun K hK => ?_)
          refine goes_ Try.func33 (by kernel_rfl) rfl #[.int .i64 t122] (by rfl) rfl rfl (by (try simp only [List.map_toArray, List.map_cons, List.map_nil]); first | done | rfl | (simp only [List.length_drop, List.length_take]; rfl)) ?_
          with_reducible refine (intervalmonref10_Labels.calls t122 t123 _ A9.out).mono ?_
          rintro e w19 ⟨v124, rfl, ho0, hb⟩
          have HS0_ := (hb.cell (World.block_lt_of_cell? _ _ (hHeld))).trans (hHeld)
          refine ⟨_, rfl, ?_⟩
          have n0_ := Aside0.mk (Kd.R_below (by (with_reducible repeat (first | apply Kd.R_alloc | apply Kd.R_drewN | apply Kd.R_drew)); exact HO116.out) hb)
          have n1_ := Aside0.mk (Kd.R_lower ho0 (below_size (by repeat (first | (with_reducible first | exact HB.out | apply below_alloc | apply pw_below_drewN | apply below_drew1 | refine below_set ?_ GE113.out | refine below_set ?_ GE126.out) | exact HB.out))))
          have n2_ := Aside0.mk (blk_below (g := gb113) (o := .cells #[.string (⟨#[]⟩ : ByteArray), .slice none 0 0, .int .i64 0, .int .i64 0, .int .i64 0, .int .i64 0, .int .i64 0, .int .i64 0, .int .i64 0, .int .i64 0, .int .i64 0, .int .i64 0] 27 (0, 0)) (by (with_reducible repeat (first | refine blk_drewN ?_ _ | refine blk_drew ?_ | refine blk_alloc ?_ _)); exact BK113.out) hb)
          have n3_ := Aside0.mk (blk_below (g := gb126) (o := .cells #[.string (⟨#[]⟩ : ByteArray), .slice none 0 0, .int .i64 0, .int .i64 0, .int .i64 0, .int .i64 0, .int .i64 0, .int .i64 0, .int .i64 0, .int .i64 0, .int .i64 0, .int .i64 0] 27 (0, 0)) (by (with_reducible repeat (first | refine blk_drewN ?_ _ | refine blk_drew ?_ | refine blk_alloc ?_ _)); exact BK126.out) hb)
          have n4_ := Aside0.mk (below_step (by repeat (first | (with_reducible first | exact HB.out | apply below_alloc | apply pw_below_drewN | apply below_drew1 | refine below_set ?_ GE113.out | refine below_set ?_ GE126.out) | exact HB.out)) hb)
          clear HO116
          clear BK113
          clear BK126
          clear HB
          have HO116 := n0_
          have HO125 := n1_
          have BK113 := n2_
          have BK126 := n3_
          have HB := n4_
          clear n0_ n1_ n2_ n3_ n4_
          (try clear hb)
          (try clear hb2)
          (try clear hk)
          (try clear hi)
          (try clear ho0)
          obtain ⟨Ao20, co20, eo20⟩ := Kd.R_slice HO125.out
          (first | subst eo20 | (injection eo20 with f1_ f2_ f3_; have f4_ := f1_.symm; have f5_ := f3_.symm; clear f1_ f2_ f3_; subst f4_; subst f5_))
          refine hK.out _ _ (HS0_) (fun hHeld => ?_)
          clear hK K
          refine norm_ (a' := ?_) ?_ ?_
          rotate_left
          · show Act.put _ (some 24) _ = _
            simp only [Act.put, List.setIfInBounds_toArray, List.set_cons_zero, List.set_cons_succ, i64_w, i32_w]
            rfl
          refine pure_ (i := 9) (N := some 26) (v := ?_) (a' := ?_) #[true, true, true, true, true, true, true, true, true, true, true, false] rfl rfl (any_of HT_.out (by kernel_rfl)) (fun _ _ _ h => h) (Or.inl ⟨by rfl, ?_⟩) ?_ ?_
          rotate_left
          · intro w'
            go_simp
            with_reducible rfl
          rotate_left
          · simp only [Act.put, List.setIfInBounds_toArray, List.set_cons_zero, List.set_cons_succ, i64_w, i32_w]
            rfl
          exact norm_ (by simp only [putAll, Act.put, List.setIfInBounds_toArray, List.set_cons_zero, List.set_cons_succ]) (hCont (.slice Ao20 t123.length co20, gb126) _ ⟨hHeld, (by (with_reducible repeat (first | apply Kd.R_alloc | apply Kd.R_drewN | apply Kd.R_drew)); exact HO116.out), (by (with_reducible repeat (first | apply Kd.R_alloc | apply Kd.R_drewN | apply Kd.R_drew)); exact HO125.out), (by (with_reducible repeat (first | refine blk_drewN ?_ _ | refine blk_drew ?_ | refine blk_alloc ?_ _)); exact BK113.out), (by (with_reducible repeat (first | refine blk_drewN ?_ _ | refine blk_drew ?_ | refine blk_alloc ?_ _)); exact BK126.out), GW126.out, GE126.out, NB113_126.out, NB126_113.out, (by repeat (first | (with_reducible first | exact HB.out | apply below_alloc | apply pw_below_drewN | apply below_drew1 | refine below_set ?_ GE113.out | refine below_set ?_ GE126.out) | exact HB.out))⟩)
      rintro ⟨v124, gb126⟩ w21 ⟨hS_, h0_, h1_, h2_, h3_, h4_, h5_, h6_, h7_, h8_⟩
      have n0_ : Aside0 (Kd.R Kd.string 9 w21 w.heap.size (fun _ => True) (Value.slice (some ad121) y114.length cn_) y114) := ⟨h0_⟩
      have n1_ : Aside0 (Kd.R k51 51 w21 w.heap.size (fun _ => True) v124 t123) := ⟨h1_⟩
      have n2_ : Aside0 (w21.heap[gb113]? = some (.cells #[.string (⟨#[]⟩ : ByteArray), .slice none 0 0, .int .i64 0, .int .i64 0, .int .i64 0, .int .i64 0, .int .i64 0, .int .i64 0, .int .i64 0, .int .i64 0, .int .i64 0, .int .i64 0] 27 (0, 0))) := ⟨h2_⟩
      have n3_ : Aside0 (w21.heap[gb126]? = some (.cells #[.string (⟨#[]⟩ : ByteArray), .slice none 0 0, .int .i64 0, .int .i64 0, .int .i64 0, .int .i64 0, .int .i64 0, .int .i64 0, .int .i64 0, .int .i64 0, .int .i64 0, .int .i64 0] 27 (0, 0))) := ⟨h3_⟩
      have n4_ : Aside0 (w.heap.size ≤ gb126) := ⟨h4_⟩
      have n5_ : Aside0 (w.heap.size ≤ gb126) := ⟨h5_⟩
      have n6_ : Aside0 (gb113 ≠ gb126) := ⟨h6_⟩
      have n7_ : Aside0 (gb126 ≠ gb113) := ⟨h7_⟩
      have n8_ : Aside0 (Below w.heap.size w w21) := ⟨h8_⟩
      clear HO116
      clear BK113
      clear HB
      clear h0_ h1_ h2_ h3_ h4_ h5_ h6_ h7_ h8_
      have HO116 := n0_
      have HO125 := n1_
      have BK113 := n2_
      have BK126 := n3_
      have GW126 := n4_
      have GE126 := n5_
      have NB113_126 := n6_
      have NB126_113 := n7_
      have HB := n8_
      clear n0_ n1_ n2_ n3_ n4_ n5_ n6_ n7_ n8_
      have hHeld : w21.cell? (ad121.add (t120).toNat) = some (.string (rdOf ByteArray.empty y114 t120)) := hS_
      obtain ⟨Ao23, co23, eo23⟩ := Kd.R_slice HO125.out
      (first | subst eo23 | (injection eo23 with f1_ f2_ f3_; have f4_ := f1_.symm; have f5_ := f3_.symm; clear f1_ f2_ f3_; subst f4_; subst f5_))
      refine norm_ (a' := ?_) ?_ ?_
      rotate_left
      · simp only [putAll, Act.put, List.setIfInBounds_toArray, List.set_cons_zero, List.set_cons_succ]
        rfl
      refine one_ (i := 11) (N := none) #[true, true, true, true, true, true, true, true, true, true, true, true] rfl rfl (one_of HT_.out (by kernel_rfl)) (by decide) (fun K hK => ?_)
      have hs24 : w21.cell? ⟨gb126, 0, none⟩ = some (.string (⟨#[]⟩ : ByteArray)) := (blk_cell BK126.out 0).trans rfl
      have hfs24 := blk_frozen BK126.out 0
      have hns24_0 := NB113_126.out
      have hms24_0 := NB126_113.out
      have hs25 : w21.cell? ⟨gb126, 1, none⟩ = some (.slice none 0 0) := (blk_cell BK126.out 1).trans rfl
      have hfs25 := blk_frozen BK126.out 1
      have hns25_0 := NB113_126.out
      have hms25_0 := NB126_113.out
      have hs26 : w21.cell? ⟨gb126, 2, none⟩ = some (.int .i64 0) := (blk_cell BK126.out 2).trans rfl
      have hfs26 := blk_frozen BK126.out 2
      have hns26_0 := NB113_126.out
      have hms26_0 := NB126_113.out
      have hs27 : w21.cell? ⟨gb126, 3, none⟩ = some (.int .i64 0) := (blk_cell BK126.out 3).trans rfl
      have hfs27 := blk_frozen BK126.out 3
      have hns27_0 := NB113_126.out
      have hms27_0 := NB126_113.out
      have hs28 : w21.cell? ⟨gb126, 4, none⟩ = some (.int .i64 0) := (blk_cell BK126.out 4).trans rfl
      have hfs28 := blk_frozen BK126.out 4
      have hns28_0 := NB113_126.out
      have hms28_0 := NB126_113.out
      have hs29 : w21.cell? ⟨gb126, 5, none⟩ = some (.int .i64 0) := (blk_cell BK126.out 5).trans rfl
      have hfs29 := blk_frozen BK126.out 5
      have hns29_0 := NB113_126.out
      have hms29_0 := NB126_113.out
      have hs30 : w21.cell? ⟨gb126, 6, none⟩ = some (.int .i64 0) := (blk_cell BK126.out 6).trans rfl
      have hfs30 := blk_frozen BK126.out 6
      have hns30_0 := NB113_126.out
      have hms30_0 := NB126_113.out
      have hs31 : w21.cell? ⟨gb126, 7, none⟩ = some (.int .i64 0) := (blk_cell BK126.out 7).trans rfl
      have hfs31 := blk_frozen BK126.out 7
      have hns31_0 := NB113_126.out
      have hms31_0 := NB126_113.out
      have hs32 : w21.cell? ⟨gb126, 8, none⟩ = some (.int .i64 0) := (blk_cell BK126.out 8).trans rfl
      have hfs32 := blk_frozen BK126.out 8
      have hns32_0 := NB113_126.out
      have hms32_0 := NB126_113.out
      have hs33 : w21.cell? ⟨gb126, 9, none⟩ = some (.int .i64 0) := (blk_cell BK126.out 9).trans rfl
      have hfs33 := blk_frozen BK126.out 9
      have hns33_0 := NB113_126.out
      have hms33_0 := NB126_113.out
      have hs34 : w21.cell? ⟨gb126, 10, none⟩ = some (.int .i64 0) := (blk_cell BK126.out 10).trans rfl
      have hfs34 := blk_frozen BK126.out 10
      have hns34_0 := NB113_126.out
      have hms34_0 := NB126_113.out
      have hs35 : w21.cell? ⟨gb126, 11, none⟩ = some (.int .i64 0) := (blk_cell BK126.out 11).trans rfl
      have hfs35 := blk_frozen BK126.out 11
      have hns35_0 := NB113_126.out
      have hms35_0 := NB126_113.out
      refine skip_ (w1 := ?_) (by rfl) rfl ?_ ?_
      rotate_left
      · go_simp
        rfl
      refine hK.out _ _ (((cell_far (p := ⟨gb126, _, none⟩) (by first | exact Kd.own_blk (Kd.R_ne HO116.out BK126.out (by decide)) | (rw [add_block]; exact Kd.own_blk (Kd.R_ne HO116.out BK126.out (by decide))) | (show (Addr.add _ _).block ≠ _; rw [add_block]; exact Kd.own_blk (Kd.R_ne HO116.out BK126.out (by decide))) | (dsimp only; exact Kd.own_blk (Kd.R_ne HO116.out BK126.out (by decide)))) _).trans (((cell_far (p := ⟨gb126, _, none⟩) (by first | exact Kd.own_blk (Kd.R_ne HO116.out BK126.out (by decide)) | (rw [add_block]; exact Kd.own_blk (Kd.R_ne HO116.out BK126.out (by decide))) | (show (Addr.add _ _).block ≠ _; rw [add_block]; exact Kd.own_blk (Kd.R_ne HO116.out BK126.out (by decide))) | (dsimp only; exact Kd.own_blk (Kd.R_ne HO116.out BK126.out (by decide)))) _).trans (((cell_far (p := ⟨gb126, _, none⟩) (by first | exact Kd.own_blk (Kd.R_ne HO116.out BK126.out (by decide)) | (rw [add_block]; exact Kd.own_blk (Kd.R_ne HO116.out BK126.out (by decide))) | (show (Addr.add _ _).block ≠ _; rw [add_block]; exact Kd.own_blk (Kd.R_ne HO116.out BK126.out (by decide))) | (dsimp only; exact Kd.own_blk (Kd.R_ne HO116.out BK126.out (by decide)))) _).trans (((cell_far (p := ⟨gb126, _, none⟩) (by first | exact Kd.own_blk (Kd.R_ne HO116.out BK126.out (by decide)) | (rw [add_block]; exact Kd.own_blk (Kd.R_ne HO116.out BK126.out (by decide))) | (show (Addr.add _ _).block ≠ _; rw [add_block]; exact Kd.own_blk (Kd.R_ne HO116.out BK126.out (by decide))) | (dsimp only; exact Kd.own_blk (Kd.R_ne HO116.out BK126.out (by decide)))) _).trans (((cell_far (p := ⟨gb126, _, none⟩) (by first | exact Kd.own_blk (Kd.R_ne HO116.out BK126.out (by decide)) | (rw [add_block]; exact Kd.own_blk (Kd.R_ne HO116.out BK126.out (by decide))) | (show (Addr.add _ _).block ≠ _; rw [add_block]; exact Kd.own_blk (Kd.R_ne HO116.out BK126.out (by decide))) | (dsimp only; exact Kd.own_blk (Kd.R_ne HO116.out BK126.out (by decide)))) _).trans (((cell_far (p := ⟨gb126, _, none⟩) (by first | exact Kd.own_blk (Kd.R_ne HO116.out BK126.out (by decide)) | (rw [add_block]; exact Kd.own_blk (Kd.R_ne HO116.out BK126.out (by decide))) | (show (Addr.add _ _).block ≠ _; rw [add_block]; exact Kd.own_blk (Kd.R_ne HO116.out BK126.out (by decide))) | (dsimp only; exact Kd.own_blk (Kd.R_ne HO116.out BK126.out (by decide)))) _).trans (((cell_far (p := ⟨gb126, _, none⟩) (by first | exact Kd.own_blk (Kd.R_ne HO116.out BK126.out (by decide)) | (rw [add_block]; exact Kd.own_blk (Kd.R_ne HO116.out BK126.out (by decide))) | (show (Addr.add _ _).block ≠ _; rw [add_block]; exact Kd.own_blk (Kd.R_ne HO116.out BK126.out (by decide))) | (dsimp only; exact Kd.own_blk (Kd.R_ne HO116.out BK126.out (by decide)))) _).trans (((cell_far (p := ⟨gb126, _, none⟩) (by first | exact Kd.own_blk (Kd.R_ne HO116.out BK126.out (by decide)) | (rw [add_block]; exact Kd.own_blk (Kd.R_ne HO116.out BK126.out (by decide))) | (show (Addr.add _ _).block ≠ _; rw [add_block]; exact Kd.own_blk (Kd.R_ne HO116.out BK126.out (by decide))) | (dsimp only; exact Kd.own_blk (Kd.R_ne HO116.out BK126.out (by decide)))) _).trans (((cell_far (p := ⟨gb126, _, none⟩) (by first | exact Kd.own_blk (Kd.R_ne HO116.out BK126.out (by decide)) | (rw [add_block]; exact Kd.own_blk (Kd.R_ne HO116.out BK126.out (by decide))) | (show (Addr.add _ _).block ≠ _; rw [add_block]; exact Kd.own_blk (Kd.R_ne HO116.out BK126.out (by decide))) | (dsimp only; exact Kd.own_blk (Kd.R_ne HO116.out BK126.out (by decide)))) _).trans (((cell_far (p := ⟨gb126, _, none⟩) (by first | exact Kd.own_blk (Kd.R_ne HO116.out BK126.out (by decide)) | (rw [add_block]; exact Kd.own_blk (Kd.R_ne HO116.out BK126.out (by decide))) | (show (Addr.add _ _).block ≠ _; rw [add_block]; exact Kd.own_blk (Kd.R_ne HO116.out BK126.out (by decide))) | (dsimp only; exact Kd.own_blk (Kd.R_ne HO116.out BK126.out (by decide)))) _).trans (((cell_far (p := ⟨gb126, _, none⟩) (by first | exact Kd.own_blk (Kd.R_ne HO116.out BK126.out (by decide)) | (rw [add_block]; exact Kd.own_blk (Kd.R_ne HO116.out BK126.out (by decide))) | (show (Addr.add _ _).block ≠ _; rw [add_block]; exact Kd.own_blk (Kd.R_ne HO116.out BK126.out (by decide))) | (dsimp only; exact Kd.own_blk (Kd.R_ne HO116.out BK126.out (by decide)))) _).trans (((cell_far (p := ⟨gb126, _, none⟩) (by first | exact Kd.own_blk (Kd.R_ne HO116.out BK126.out (by decide)) | (rw [add_block]; exact Kd.own_blk (Kd.R_ne HO116.out BK126.out (by decide))) | (show (Addr.add _ _).block ≠ _; rw [add_block]; exact Kd.own_blk (Kd.R_ne HO116.out BK126.out (by decide))) | (dsimp only; exact Kd.own_blk (Kd.R_ne HO116.out BK126.out (by decide)))) _).trans (hHeld))))))))))))))))))))))))) (fun hHeld => ?_)
      clear hK K
      refine done_ (done_of HT_.out (by kernel_rfl)) ?_
      have HD0 : DW w w21 gb113 gb126 (.slice Ao23 t123.length co23) t123 #[.string (⟨#[]⟩ : ByteArray), .slice none 0 0, .int .i64 0, .int .i64 0, .int .i64 0, .int .i64 0, .int .i64 0, .int .i64 0, .int .i64 0, .int .i64 0, .int .i64 0, .int .i64 0] := ⟨BK113.out, BK126.out, NB113_126.out, GW113.out, GW126.out, Kd.R_types (Kd.R_types HO125.out BK113.out (by decide)) BK126.out (by decide) |> fun h => Kd.R_mono h (fun k hk => ⟨hk.1.2, hk.2⟩), HB.out⟩
      have HD1 := Aside0.mk (DW.store (DW.store (DW.store (DW.store (DW.store (DW.store (DW.store (DW.store (DW.store (DW.store (DW.store (DW.store HD0 0 (.string (rdOf ByteArray.empty y114 t120)) (cs' := #[.string (rdOf ByteArray.empty y114 t120), .slice none 0 0, .int .i64 0, .int .i64 0, .int .i64 0, .int .i64 0, .int .i64 0, .int .i64 0, .int .i64 0, .int .i64 0, .int .i64 0, .int .i64 0]) rfl) 1 (.slice Ao23 t123.length co23) (cs' := #[.string (rdOf ByteArray.empty y114 t120), .slice Ao23 t123.length co23, .int .i64 0, .int .i64 0, .int .i64 0, .int .i64 0, .int .i64 0, .int .i64 0, .int .i64 0, .int .i64 0, .int .i64 0, .int .i64 0]) rfl) 2 (.int .i64 1) (cs' := #[.string (rdOf ByteArray.empty y114 t120), .slice Ao23 t123.length co23, .int .i64 1, .int .i64 0, .int .i64 0, .int .i64 0, .int .i64 0, .int .i64 0, .int .i64 0, .int .i64 0, .int .i64 0, .int .i64 0]) rfl) 3 (.int .i64 0) (cs' := #[.string (rdOf ByteArray.empty y114 t120), .slice Ao23 t123.length co23, .int .i64 1, .int .i64 0, .int .i64 0, .int .i64 0, .int .i64 0, .int .i64 0, .int .i64 0, .int .i64 0, .int .i64 0, .int .i64 0]) rfl) 4 (.int .i64 0) (cs' := #[.string (rdOf ByteArray.empty y114 t120), .slice Ao23 t123.length co23, .int .i64 1, .int .i64 0, .int .i64 0, .int .i64 0, .int .i64 0, .int .i64 0, .int .i64 0, .int .i64 0, .int .i64 0, .int .i64 0]) rfl) 5 (.int .i64 0) (cs' := #[.string (rdOf ByteArray.empty y114 t120), .slice Ao23 t123.length co23, .int .i64 1, .int .i64 0, .int .i64 0, .int .i64 0, .int .i64 0, .int .i64 0, .int .i64 0, .int .i64 0, .int .i64 0, .int .i64 0]) rfl) 6 (.int .i64 0) (cs' := #[.string (rdOf ByteArray.empty y114 t120), .slice Ao23 t123.length co23, .int .i64 1, .int .i64 0, .int .i64 0, .int .i64 0, .int .i64 0, .int .i64 0, .int .i64 0, .int .i64 0, .int .i64 0, .int .i64 0]) rfl) 7 (.int .i64 0) (cs' := #[.string (rdOf ByteArray.empty y114 t120), .slice Ao23 t123.length co23, .int .i64 1, .int .i64 0, .int .i64 0, .int .i64 0, .int .i64 0, .int .i64 0, .int .i64 0, .int .i64 0, .int .i64 0, .int .i64 0]) rfl) 8 (.int .i64 0) (cs' := #[.string (rdOf ByteArray.empty y114 t120), .slice Ao23 t123.length co23, .int .i64 1, .int .i64 0, .int .i64 0, .int .i64 0, .int .i64 0, .int .i64 0, .int .i64 0, .int .i64 0, .int .i64 0, .int .i64 0]) rfl) 9 (.int .i64 0) (cs' := #[.string (rdOf ByteArray.empty y114 t120), .slice Ao23 t123.length co23, .int .i64 1, .int .i64 0, .int .i64 0, .int .i64 0, .int .i64 0, .int .i64 0, .int .i64 0, .int .i64 0, .int .i64 0, .int .i64 0]) rfl) 10 (.int .i64 0) (cs' := #[.string (rdOf ByteArray.empty y114 t120), .slice Ao23 t123.length co23, .int .i64 1, .int .i64 0, .int .i64 0, .int .i64 0, .int .i64 0, .int .i64 0, .int .i64 0, .int .i64 0, .int .i64 0, .int .i64 0]) rfl) 11 (.int .i64 0) (cs' := #[.string (rdOf ByteArray.empty y114 t120), .slice Ao23 t123.length co23, .int .i64 1, .int .i64 0, .int .i64 0, .int .i64 0, .int .i64 0, .int .i64 0, .int .i64 0, .int .i64 0, .int .i64 0, .int .i64 0]) rfl)
      clear HD0
      generalize hW1 : World.setCell _ ⟨gb126, 11, none⟩ _ = W1 at HD1 ⊢
      clear hW1 HO116 HO125 BK113 BK126 HB
      go_upto_region 6 with (fail)
      go_cut [] (fun wx => DW w wx gb113 gb126 (.slice Ao23 t123.length co23) t123 #[.string (rdOf ByteArray.empty y114 t120), .slice Ao23 t123.length co23, .int .i64 1, .int .i64 0, .int .i64 0, .int .i64 (wrap64 (t117 - 9)), .int .i64 0, .int .i64 0, .int .i64 0, .int .i64 0, .int .i64 0, .int .i64 0])
      case first =>
        have hc : World.cell? _ ⟨gb126, 5, none⟩ = some (Value.int .i64 0) := (blk_cell HD1.out.blk 5).trans rfl
        have hf := blk_frozen HD1.out.blk 5
        go_wp2
        go_meet
        exact HD1.out.store 5 _ rfl
      case rest =>
        have HD2 := Aside0.mk hcut
        clear hcut HD1
        go_upto_region 7 with (fail)
        go_cut [] (fun wx => DW w wx gb113 gb126 (.slice Ao23 t123.length co23) t123 #[.string (rdOf ByteArray.empty y114 t120), .slice Ao23 t123.length co23, .int .i64 1, .int .i64 0, .int .i64 0, .int .i64 (wrap64 (t117 - 9)), .int .i64 (wrap64 ((wrap64 (t117 - 9)) + t127)), .int .i64 0, .int .i64 0, .int .i64 0, .int .i64 0, .int .i64 0])
        case first =>
          have hc : World.cell? _ ⟨gb126, 6, none⟩ = some (Value.int .i64 0) := (blk_cell HD2.out.blk 6).trans rfl
          have hf := blk_frozen HD2.out.blk 6
          go_wp2_with (go_at_call 32; (with_reducible refine (intervalmonref01_Pick.calls _ _ l0 5 17 t127 _ ?s1 ?s2 A10.out).mono ?_); (case s1 => exact Kd.C_below HR0.out HD2.out.below); (case s2 => exact HC0.out); rintro e w' ⟨rfl, ⟨nd, rfl⟩⟩)
          go_meet
          exact (HD2.out.drewN _).store 6 _ rfl
        case rest =>
          have HD3 := Aside0.mk hcut
          clear hcut HD2
          go_upto_region 8 with (fail)
          go_cut [] (fun wx => DW w wx gb113 gb126 (.slice Ao23 t123.length co23) t123 #[.string (rdOf ByteArray.empty y114 t120), .slice Ao23 t123.length co23, .int .i64 1, .int .i64 0, .int .i64 0, .int .i64 (wrap64 (t117 - 9)), .int .i64 (wrap64 ((wrap64 (t117 - 9)) + t127)), .int .i64 (wrap64 (t118 - 3)), .int .i64 0, .int .i64 0, .int .i64 0, .int .i64 0])
          case first =>
            have hc : World.cell? _ ⟨gb126, 7, none⟩ = some (Value.int .i64 0) := (blk_cell HD3.out.blk 7).trans rfl
            have hf := blk_frozen HD3.out.blk 7
            go_wp2
            go_meet
            exact HD3.out.store 7 _ rfl
          case rest =>
            have HD4 := Aside0.mk hcut
            clear hcut HD3
            go_upto_region 9 with (fail)
            go_cut [] (fun wx => DW w wx gb113 gb126 (.slice Ao23 t123.length co23) t123 #[.string (rdOf ByteArray.empty y114 t120), .slice Ao23 t123.length co23, .int .i64 1, .int .i64 0, .int .i64 0, .int .i64 (wrap64 (t117 - 9)), .int .i64 (wrap64 ((wrap64 (t117 - 9)) + t127)), .int .i64 (wrap64 (t118 - 3)), .int .i64 (wrap64 ((wrap64 (t118 - 3)) + t128)), .int .i64 0, .int .i64 0, .int .i64 0])
            case first =>
              have hc : World.cell? _ ⟨gb126, 8, none⟩ = some (Value.int .i64 0) := (blk_cell HD4.out.blk 8).trans rfl
              have hf := blk_frozen HD4.out.blk 8
              go_wp2_with (go_at_call 32; (with_reducible refine (intervalmonref01_Pick.calls _ _ l0 6 4 t128 _ ?s1 ?s2 A11.out).mono ?_); (case s1 => exact Kd.C_below HR0.out HD4.out.below); (case s2 => exact HC0.out); rintro e w' ⟨rfl, ⟨nd, rfl⟩⟩)
              go_meet
              exact (HD4.out.drewN _).store 8 _ rfl
            case rest =>
              have HD5 := Aside0.mk hcut
              clear hcut HD4
              go_upto_region 10 with (fail)
              go_cut [] (fun wx => DW w wx gb113 gb126 (.slice Ao23 t123.length co23) t123 #[.string (rdOf ByteArray.empty y114 t120), .slice Ao23 t123.length co23, .int .i64 1, .int .i64 0, .int .i64 0, .int .i64 (wrap64 (t117 - 9)), .int .i64 (wrap64 ((wrap64 (t117 - 9)) + t127)), .int .i64 (wrap64 (t118 - 3)), .int .i64 (wrap64 ((wrap64 (t118 - 3)) + t128)), .int .i64 t119, .int .i64 0, .int .i64 0])
              case first =>
                have hc : World.cell? _ ⟨gb126, 9, none⟩ = some (Value.int .i64 0) := (blk_cell HD5.out.blk 9).trans rfl
                have hf := blk_frozen HD5.out.blk 9
                go_wp2
                go_meet
                exact HD5.out.store 9 _ rfl
              case rest =>
                have HD6 := Aside0.mk hcut
                clear hcut HD5
                go_upto_region 11 with (fail)
                go_cut [] (fun wx => DW w wx gb113 gb126 (.slice Ao23 t123.length co23) t123 #[.string (rdOf ByteArray.empty y114 t120), .slice Ao23 t123.length co23, .int .i64 1, .int .i64 0, .int .i64 0, .int .i64 (wrap64 (t117 - 9)), .int .i64 (wrap64 ((wrap64 (t117 - 9)) + t127)), .int .i64 (wrap64 (t118 - 3)), .int .i64 (wrap64 ((wrap64 (t118 - 3)) + t128)), .int .i64 t119, .int .i64 (wrap64 (t119 + t129)), .int .i64 0])
                case first =>
                  have hc : World.cell? _ ⟨gb126, 10, none⟩ = some (Value.int .i64 0) := (blk_cell HD6.out.blk 10).trans rfl
                  have hf := blk_frozen HD6.out.blk 10
                  go_wp2_with (go_at_call 32; (with_reducible refine (intervalmonref01_Pick.calls _ _ l0 7 14 t129 _ ?s1 ?s2 A12.out).mono ?_); (case s1 => exact Kd.C_below HR0.out HD6.out.below); (case s2 => exact HC0.out); rintro e w' ⟨rfl, ⟨nd, rfl⟩⟩)
                  go_meet
                  exact (HD6.out.drewN _).store 10 _ rfl
                case rest =>
                  have HD7 := Aside0.mk hcut
                  clear hcut HD6
                  go_upto_region 12 with (fail)
                  go_cut [] (fun wx => DW w wx gb113 gb126 (.slice Ao23 t123.length co23) t123 #[.string (rdOf ByteArray.empty y114 t120), .slice Ao23 t123.length co23, .int .i64 1, .int .i64 0, .int .i64 0, .int .i64 (wrap64 (t117 - 9)), .int .i64 (wrap64 ((wrap64 (t117 - 9)) + t127)), .int .i64 (wrap64 (t118 - 3)), .int .i64 (wrap64 ((wrap64 (t118 - 3)) + t128)), .int .i64 t119, .int .i64 (wrap64 (t119 + t129)), .int .i64 t130])
                  case first =>
                    have hc : World.cell? _ ⟨gb126, 11, none⟩ = some (Value.int .i64 0) := (blk_cell HD7.out.blk 11).trans rfl
                    have hf := blk_frozen HD7.out.blk 11
                    go_wp2_with (go_at_call 32; (with_reducible refine (intervalmonref01_Pick.calls _ _ l0 8 40 t130 _ ?s1 ?s2 A13.out).mono ?_); (case s1 => exact Kd.C_below HR0.out HD7.out.below); (case s2 => exact HC0.out); rintro e w' ⟨rfl, ⟨nd, rfl⟩⟩)
                    go_meet
                    exact (HD7.out.drewN _).store 11 _ rfl
                  case rest =>
                    have HD8 := Aside0.mk hcut
                    clear hcut HD7
                    have hg0 : World.cell? _ ⟨gb126, 0, none⟩ = some (Value.string (rdOf ByteArray.empty y114 t120)) := (blk_cell HD8.out.blk 0).trans rfl
                    have hg1 : World.cell? _ ⟨gb126, 1, none⟩ = some (Value.slice Ao23 t123.length co23) := (blk_cell HD8.out.blk 1).trans rfl
                    have hg2 : World.cell? _ ⟨gb126, 2, none⟩ = some (Value.int .i64 1) := (blk_cell HD8.out.blk 2).trans rfl
                    have hg3 : World.cell? _ ⟨gb126, 3, none⟩ = some (Value.int .i64 0) := (blk_cell HD8.out.blk 3).trans rfl
                    have hg4 : World.cell? _ ⟨gb126, 4, none⟩ = some (Value.int .i64 0) := (blk_cell HD8.out.blk 4).trans rfl
                    have hg5 : World.cell? _ ⟨gb126, 5, none⟩ = some (Value.int .i64 (wrap64 (t117 - 9))) := (blk_cell HD8.out.blk 5).trans rfl
                    have hg6 : World.cell? _ ⟨gb126, 6, none⟩ = some (Value.int .i64 (wrap64 ((wrap64 (t117 - 9)) + t127))) := (blk_cell HD8.out.blk 6).trans rfl
                    have hg7 : World.cell? _ ⟨gb126, 7, none⟩ = some (Value.int .i64 (wrap64 (t118 - 3))) := (blk_cell HD8.out.blk 7).trans rfl
                    have hg8 : World.cell? _ ⟨gb126, 8, none⟩ = some (Value.int .i64 (wrap64 ((wrap64 (t118 - 3)) + t128))) := (blk_cell HD8.out.blk 8).trans rfl
                    have hg9 : World.cell? _ ⟨gb126, 9, none⟩ = some (Value.int .i64 t119) := (blk_cell HD8.out.blk 9).trans rfl
                    have hg10 : World.cell? _ ⟨gb126, 10, none⟩ = some (Value.int .i64 (wrap64 (t119 + t129))) := (blk_cell HD8.out.blk 10).trans rfl
                    have hg11 : World.cell? _ ⟨gb126, 11, none⟩ = some (Value.int .i64 t130) := (blk_cell HD8.out.blk 11).trans rfl
                    have hz0 : World.cell? _ ⟨gb113, 0, none⟩ = some (Value.string (⟨#[]⟩ : ByteArray)) := (blk_cell HD8.out.res 0).trans rfl
                    have hy0 := blk_frozen HD8.out.res 0
                    have hz1 : World.cell? _ ⟨gb113, 1, none⟩ = some (Value.slice none 0 0) := (blk_cell HD8.out.res 1).trans rfl
                    have hy1 := blk_frozen HD8.out.res 1
                    have hz2 : World.cell? _ ⟨gb113, 2, none⟩ = some (Value.int .i64 0) := (blk_cell HD8.out.res 2).trans rfl
                    have hy2 := blk_frozen HD8.out.res 2
                    have hz3 : World.cell? _ ⟨gb113, 3, none⟩ = some (Value.int .i64 0) := (blk_cell HD8.out.res 3).trans rfl
                    have hy3 := blk_frozen HD8.out.res 3
                    have hz4 : World.cell? _ ⟨gb113, 4, none⟩ = some (Value.int .i64 0) := (blk_cell HD8.out.res 4).trans rfl
                    have hy4 := blk_frozen HD8.out.res 4
                    have hz5 : World.cell? _ ⟨gb113, 5, none⟩ = some (Value.int .i64 0) := (blk_cell HD8.out.res 5).trans rfl
                    have hy5 := blk_frozen HD8.out.res 5
                    have hz6 : World.cell? _ ⟨gb113, 6, none⟩ = some (Value.int .i64 0) := (blk_cell HD8.out.res 6).trans rfl
                    have hy6 := blk_frozen HD8.out.res 6
                    have hz7 : World.cell? _ ⟨gb113, 7, none⟩ = some (Value.int .i64 0) := (blk_cell HD8.out.res 7).trans rfl
                    have hy7 := blk_frozen HD8.out.res 7
                    have hz8 : World.cell? _ ⟨gb113, 8, none⟩ = some (Value.int .i64 0) := (blk_cell HD8.out.res 8).trans rfl
                    have hy8 := blk_frozen HD8.out.res 8
                    have hz9 : World.cell? _ ⟨gb113, 9, none⟩ = some (Value.int .i64 0) := (blk_cell HD8.out.res 9).trans rfl
                    have hy9 := blk_frozen HD8.out.res 9
                    have hz10 : World.cell? _ ⟨gb113, 10, none⟩ = some (Value.int .i64 0) := (blk_cell HD8.out.res 10).trans rfl
                    have hy10 := blk_frozen HD8.out.res 10
                    have hz11 : World.cell? _ ⟨gb113, 11, none⟩ = some (Value.int .i64 0) := (blk_cell HD8.out.res 11).trans rfl
                    have hy11 := blk_frozen HD8.out.res 11
                    have hne := HD8.out.ne
                    go_wp2
                    refine bodyPost_ret (results_cell_row rfl _ _ gb113 27 #[.string (rdOf ByteArray.empty y114 t120), .slice Ao23 t123.length co23, .int .i64 1, .int .i64 0, .int .i64 0, .int .i64 (wrap64 (t117 - 9)), .int .i64 (wrap64 ((wrap64 (t117 - 9)) + t127)), .int .i64 (wrap64 (t118 - 3)), .int .i64 (wrap64 ((wrap64 (t118 - 3)) + t128)), .int .i64 t119, .int .i64 (wrap64 (t119 + t129)), .int .i64 t130] (0, 0) _ rfl (blk_put (cs' := #[.string (rdOf ByteArray.empty y114 t120), .slice Ao23 t123.length co23, .int .i64 1, .int .i64 0, .int .i64 0, .int .i64 (wrap64 (t117 - 9)), .int .i64 (wrap64 ((wrap64 (t117 - 9)) + t127)), .int .i64 (wrap64 (t118 - 3)), .int .i64 (wrap64 ((wrap64 (t118 - 3)) + t128)), .int .i64 t119, .int .i64 (wrap64 (t119 + t129)), .int .i64 t130]) (blk_put (cs' := #[.string (rdOf ByteArray.empty y114 t120), .slice Ao23 t123.length co23, .int .i64 1, .int .i64 0, .int .i64 0, .int .i64 (wrap64 (t117 - 9)), .int .i64 (wrap64 ((wrap64 (t117 - 9)) + t127)), .int .i64 (wrap64 (t118 - 3)), .int .i64 (wrap64 ((wrap64 (t118 - 3)) + t128)), .int .i64 t119, .int .i64 (wrap64 (t119 + t129)), .int .i64 0]) (blk_put (cs' := #[.string (rdOf ByteArray.empty y114 t120), .slice Ao23 t123.length co23, .int .i64 1, .int .i64 0, .int .i64 0, .int .i64 (wrap64 (t117 - 9)), .int .i64 (wrap64 ((wrap64 (t117 - 9)) + t127)), .int .i64 (wrap64 (t118 - 3)), .int .i64 (wrap64 ((wrap64 (t118 - 3)) + t128)), .int .i64 t119, .int .i64 0, .int .i64 0]) (blk_put (cs' := #[.string (rdOf ByteArray.empty y114 t120), .slice Ao23 t123.length co23, .int .i64 1, .int .i64 0, .int .i64 0, .int .i64 (wrap64 (t117 - 9)), .int .i64 (wrap64 ((wrap64 (t117 - 9)) + t127)), .int .i64 (wrap64 (t118 - 3)), .int .i64 (wrap64 ((wrap64 (t118 - 3)) + t128)), .int .i64 0, .int .i64 0, .int .i64 0]) (blk_put (cs' := #[.string (rdOf ByteArray.empty y114 t120), .slice Ao23 t123.length co23, .int .i64 1, .int .i64 0, .int .i64 0, .int .i64 (wrap64 (t117 - 9)), .int .i64 (wrap64 ((wrap64 (t117 - 9)) + t127)), .int .i64 (wrap64 (t118 - 3)), .int .i64 0, .int .i64 0, .int .i64 0, .int .i64 0]) (blk_put (cs' := #[.string (rdOf ByteArray.empty y114 t120), .slice Ao23 t123.length co23, .int .i64 1, .int .i64 0, .int .i64 0, .int .i64 (wrap64 (t117 - 9)), .int .i64 (wrap64 ((wrap64 (t117 - 9)) + t127)), .int .i64 0, .int .i64 0, .int .i64 0, .int .i64 0, .int .i64 0]) (blk_put (cs' := #[.string (rdOf ByteArray.empty y114 t120), .slice Ao23 t123.length co23, .int .i64 1, .int .i64 0, .int .i64 0, .int .i64 (wrap64 (t117 - 9)), .int .i64 0, .int .i64 0, .int .i64 0, .int .i64 0, .int .i64 0, .int .i64 0]) (blk_put (cs' := #[.string (rdOf ByteArray.empty y114 t120), .slice Ao23 t123.length co23, .int .i64 1, .int .i64 0, .int .i64 0, .int .i64 0, .int .i64 0, .int .i64 0, .int .i64 0, .int .i64 0, .int .i64 0, .int .i64 0]) (blk_put (cs' := #[.string (rdOf ByteArray.empty y114 t120), .slice Ao23 t123.length co23, .int .i64 1, .int .i64 0, .int .i64 0, .int .i64 0, .int .i64 0, .int .i64 0, .int .i64 0, .int .i64 0, .int .i64 0, .int .i64 0]) (blk_put (cs' := #[.string (rdOf ByteArray.empty y114 t120), .slice Ao23 t123.length co23, .int .i64 1, .int .i64 0, .int .i64 0, .int .i64 0, .int .i64 0, .int .i64 0, .int .i64 0, .int .i64 0, .int .i64 0, .int .i64 0]) (blk_put (cs' := #[.string (rdOf ByteArray.empty y114 t120), .slice Ao23 t123.length co23, .int .i64 0, .int .i64 0, .int .i64 0, .int .i64 0, .int .i64 0, .int .i64 0, .int .i64 0, .int .i64 0, .int .i64 0, .int .i64 0]) (blk_put (cs' := #[.string (rdOf ByteArray.empty y114 t120), .slice none 0 0, .int .i64 0, .int .i64 0, .int .i64 0, .int .i64 0, .int .i64 0, .int .i64 0, .int .i64 0, .int .i64 0, .int .i64 0, .int .i64 0]) HD8.out.res 0 (.string (rdOf ByteArray.empty y114 t120)) rfl) 1 (.slice Ao23 t123.length co23) rfl) 2 (.int .i64 1) rfl) 3 (.int .i64 0) rfl) 4 (.int .i64 0) rfl) 5 (.int .i64 (wrap64 (t117 - 9))) rfl) 6 (.int .i64 (wrap64 ((wrap64 (t117 - 9)) + t127))) rfl) 7 (.int .i64 (wrap64 (t118 - 3))) rfl) 8 (.int .i64 (wrap64 ((wrap64 (t118 - 3)) + t128))) rfl) 9 (.int .i64 t119) rfl) 10 (.int .i64 (wrap64 (t119 + t129))) rfl) 11 (.int .i64 t130) rfl) Try.underlying27 rfl (by kernel_rfl)) rfl ?_
                    exact ⟨_, rfl, Kd.R_mono (Kd.R_far (p := ⟨gb113, 11, none⟩) (Kd.R_far (p := ⟨gb113, 10, none⟩) (Kd.R_far (p := ⟨gb113, 9, none⟩) (Kd.R_far (p := ⟨gb113, 8, none⟩) (Kd.R_far (p := ⟨gb113, 7, none⟩) (Kd.R_far (p := ⟨gb113, 6, none⟩) (Kd.R_far (p := ⟨gb113, 5, none⟩) (Kd.R_far (p := ⟨gb113, 4, none⟩) (Kd.R_far (p := ⟨gb113, 3, none⟩) (Kd.R_far (p := ⟨gb113, 2, none⟩) (Kd.R_far (p := ⟨gb113, 1, none⟩) (Kd.R_far (p := ⟨gb113, 0, none⟩) HD8.out.lab (fun _ hk => hk.1) _) (fun _ hk => hk.1) _) (fun _ hk => hk.1) _) (fun _ hk => hk.1) _) (fun _ hk => hk.1) _) (fun _ hk => hk.1) _) (fun _ hk => hk.1) _) (fun _ hk => hk.1) _) (fun _ hk => hk.1) _) (fun _ hk => hk.1) _) (fun _ hk => hk.1) _) (fun _ hk => hk.1) _) (fun _ _ => trivial), (below_set (below_set (below_set (below_set (below_set (below_set (below_set (below_set (below_set (below_set (below_set (below_set HD8.out.below HD8.out.hr) HD8.out.hr) HD8.out.hr) HD8.out.hr) HD8.out.hr) HD8.out.hr) HD8.out.hr) HD8.out.hr) HD8.out.hr) HD8.out.hr) HD8.out.hr) HD8.out.hr)⟩
    · rw [if_neg c7] at H
      exact absurd H (by simp)
  · rw [if_neg c6] at H
    exact absurd H (by simp)

end Go.Proofs.Ytblbieenfghbdaa.Q
