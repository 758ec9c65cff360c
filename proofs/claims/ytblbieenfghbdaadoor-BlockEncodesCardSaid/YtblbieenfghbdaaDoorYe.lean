/- The call of law 18's BlockEncodes gives true, whatever it is handed. -/
import Derived.Test.YtblbieenfghbdaaDoorBx
import Derived.Test.YtblbieenfghbdaaDoorBy
import Derived.Deep.RegionHeld3
namespace Go.Proofs.YtblbieenfghbdaaDoor.F
open Go.RowKit Go.Proofs.YtblbieenfghbdaaDoor.D Go.Proofs.YtblbieenfghbdaaDoor.E Go.Proofs.YtblbieenfghbdaaDoorW.PrintWords Go.Proofs.YtblbieenfghbdaaDoorW.PrintLast Go.Proofs.YtblbieenfghbdaaDoorW.PrintMore
set_option linter.unusedVariables false
set_option linter.unusedSimpArgs false
theorem infoF : (Tryd.prog.info? 44).map (fun i => (i.zero, i.size, i.bytes)) = some (some (.agg #[(.int .i64 0), (.int .i64 0), (.int .i64 0), (.int .i64 0)]), 4, 32) := by kernel_rfl
/-- The five cells of a block in memory. -/
def Blk47 (W : World) (q : Nat) (s k p c : Int) (v : Value) : Prop := W.heap[q]? = some (.cells #[.int .i64 s, .int .i64 k, .int .i64 p, .int .i64 c, v] 47 (0, 0))
theorem Blk47.cells {W : World} {q : Nat} {s k p c : Int} {v : Value} (h : Blk47 W q s k p c v) : W.cell? ⟨q, 0, none⟩ = some (.int .i64 s) ∧ W.cell? ⟨q, 1, none⟩ = some (.int .i64 k) ∧ W.cell? ⟨q, 2, none⟩ = some (.int .i64 p) ∧ W.cell? ⟨q, 3, none⟩ = some (.int .i64 c) ∧ W.cell? ⟨q, 4, none⟩ = some v :=
  ⟨(blk_cell h 0).trans rfl, (blk_cell h 1).trans rfl, (blk_cell h 2).trans rfl, (blk_cell h 3).trans rfl, (blk_cell h 4).trans rfl⟩
theorem Blk47.below {W W1 : World} {q : Nat} {s k p c : Int} {v : Value} (h : Blk47 W q s k p c v) (hb : Below W.heap.size W W1) : Blk47 W1 q s k p c v := (hb.block q (blk_lt h)).trans h
theorem Blk47.alloc {W : World} {q : Nat} {s k p c : Int} {v : Value} (h : Blk47 W q s k p c v) (o : Obj) : Blk47 (W.alloc o) q s k p c v := blk_alloc h o
theorem Blk47.new (W : World) (s k p c : Int) (v : Value) : Blk47 (W.alloc (.cells #[.int .i64 s, .int .i64 k, .int .i64 p, .int .i64 c, v] 47)) W.heap.size s k p c v := (show _ = _ by simpa using heap_alloc_new W (.cells #[.int .i64 s, .int .i64 k, .int .i64 p, .int .i64 c, v] 47))
theorem Blk47.lt {W : World} {q : Nat} {s k p c : Int} {v : Value} (h : Blk47 W q s k p c v) : q < W.heap.size := blk_lt h
theorem bent_i64 {z x : Int} {s k p c s' k' p' c' : Int} (h : bentV z x (s, k, p, c) = (s', k', p', c')) (hx : I64 x) (h4 : ∀ n, n ∈ [s, k, p, c] → I64 n) : ∀ n, n ∈ [s', k', p', c'] → I64 n := by
  have is := h4 s (by simp)
  have ik := h4 k (by simp)
  have ip := h4 p (by simp)
  have ic := h4 c (by simp)
  unfold bentV at h
  intro n hn
  simp at hn
  split at h
  · simp only [Prod.mk.injEq] at h
    obtain ⟨rfl, rfl, rfl, rfl⟩ := h
    rcases hn with rfl | rfl | rfl | rfl <;> assumption
  · split at h
    · simp only [Prod.mk.injEq] at h
      obtain ⟨rfl, rfl, rfl, rfl⟩ := h
      rcases hn with rfl | rfl | rfl | rfl <;> assumption
    · split at h
      · simp only [Prod.mk.injEq] at h
        obtain ⟨rfl, rfl, rfl, rfl⟩ := h
        rcases hn with rfl | rfl | rfl | rfl <;> assumption
      · simp only [Prod.mk.injEq] at h
        obtain ⟨rfl, rfl, rfl, rfl⟩ := h
        rcases hn with rfl | rfl | rfl | rfl <;> assumption
theorem C_one {W : World} {B : Nat} {z0 z1 z2 z3 : Int} (h : W.heap[B]? = some (.cells #[.int .i64 z0, .int .i64 z1, .int .i64 z2, .int .i64 z3] 44 (0, 0))) : Kd.C k44 W (some ⟨B, 0, none⟩) 1 [⟨z0, z1, z2, z3⟩] := by
  refine ⟨rfl, by decide, fun _ => ⟨_, rfl, fun j s hj => ?_⟩⟩
  have hj1 := (List.getElem?_eq_some_iff.1 hj).1
  obtain rfl : j = 0 := by simp at hj1; omega
  obtain rfl : (⟨z0, z1, z2, z3⟩ : S44) = s := by simpa using hj
  refine ⟨[.int .i64 z0, .int .i64 z1, .int .i64 z2, .int .i64 z3], rfl, ⟨_, _, rfl, rfl, ⟨_, _, rfl, rfl, ⟨_, _, rfl, rfl, rfl⟩⟩⟩, fun i u hu => ?_⟩
  rw [add_plain, blk_cell h]
  have hi := (List.getElem?_eq_some_iff.1 hu).1
  simp only [List.length_cons, List.length_nil] at hi
  have : i = 0 ∨ i = 1 ∨ i = 2 ∨ i = 3 := by omega
  rcases this with rfl | rfl | rfl | rfl <;> (simp at hu; subst hu; rfl)
theorem R_empty {W : World} {B base : Nat} (h : W.heap[B]? = some (.cells #[] 44 (0, 0))) (hb : base ≤ B) : Kd.R k44 44 W base (fun _ => True) (.slice (some ⟨B, 0, none⟩) 0 0) [] := by
  refine ⟨fun _ _ => trivial, [], ⟨by simp, .inr ⟨B, 0, #[], rfl, hb, h, Nat.le_refl _, by simp [maxLen], by simp, by simp⟩⟩, Reps.none _ _⟩
set_option maxHeartbeats 4000000 in
set_option maxRecDepth 100000 in
theorem intervalmonlaw18_BlockEncodes.calls (n : Int) (A1 : Option Addr) (c1 : Nat) (l : List Int) (at_ to_ : Int) (x : S44) (w : World) (hr : Kd.C (Kd.int .i64) w A1 l.length l) (hc : l.length ≤ c1) (hl : ∀ x, x ∈ l → I64 x) (hn : I64 n) (hat : I64 at_) (hto : I64 to_) (hG : Glob w) (hGB : GlobB w) :
    Calls Tryd.prog 5 #[.int .i64 n, .slice A1 l.length c1, .int .i64 at_, .int .i64 to_, .agg #[.int .i64 x.f0, .int .i64 x.f1, .int .i64 x.f2, .int .i64 x.f3]] w fun e w' => e = .returned (.bool true) ∧ Below w.heap.size w w' := by
  obtain ⟨z0, z1, z2, z3⟩ := x
  have hu47 := Tryd.underlying47
  have hr' := Aside0.mk hr
  have hG' := Aside0.mk hG
  have hGB' := Aside0.mk hGB
  clear hr hG hGB hc
  go_enter Tryd.func5, Tryd.ntmps5
  go_upto_region 1 with (fail)
  have hq1 : (w.alloc (.cells #[.int .i64 z0, .int .i64 z1, .int .i64 z2, .int .i64 z3] 44)).heap[w.heap.size]? = some (.cells #[.int .i64 z0, .int .i64 z1, .int .i64 z2, .int .i64 z3] 44 (0, 0)) := by simpa using heap_alloc_new w (.cells #[.int .i64 z0, .int .i64 z1, .int .i64 z2, .int .i64 z3] 44)
  have hb1 := Aside0.mk (below_alloc (Below.refl w.heap.size w) (.cells #[.int .i64 z0, .int .i64 z1, .int .i64 z2, .int .i64 z3] 44))
  generalize w.alloc (.cells #[.int .i64 z0, .int .i64 z1, .int .i64 z2, .int .i64 z3] 44) = w1 at hq1 hb1 ⊢
  obtain ⟨q, hq⟩ : ∃ q, w.heap.size = q := ⟨_, rfl⟩
  rw [hq] at hq1 ⊢
  replace hq := Aside0.mk hq
  go_wp2_with (fail)
  refine (Made_.calls n A1 c1 l w1 (Kd.C_below hr'.out hb1.out) hl hn).mono ?_
  rintro e w2 ⟨s, k, p, c, v, a, rfl, hR2, ⟨hE, hal⟩, ⟨hV, hI4⟩, hB2⟩
  obtain ⟨Aa, ca, rfl⟩ := Kd.R_slice hR2
  have ka := Aside0.mk (Kd.R_reads' hR2).2
  have hq2 := (hB2.block q (blk_lt hq1)).trans hq1
  have hb2 := Aside0.mk (below_then hb1.out hb1.out.size hB2)
  have hE' := Aside0.mk hE
  have hI4' := Aside0.mk hI4
  have hV' := Aside0.mk hV
  clear hE hI4 hV hB2 hR2 hq1 hb1
  go_upto_region 2 with (fail)
  have hX3 := Blk47.new w2 s k p c (.slice Aa a.length ca)
  have hq3 := blk_alloc hq2 (.cells #[.int .i64 s, .int .i64 k, .int .i64 p, .int .i64 c, .slice Aa a.length ca] 47)
  have hb3 := Aside0.mk (below_alloc hb2.out (.cells #[.int .i64 s, .int .i64 k, .int .i64 p, .int .i64 c, .slice Aa a.length ca] 47))
  have ka3 := Aside0.mk (And.intro ka.out.1 (Kd.C_alloc ka.out.2 (.cells #[.int .i64 s, .int .i64 k, .int .i64 p, .int .i64 c, .slice Aa a.length ca] 47)))
  have hqX : q ≠ w2.heap.size := by have := blk_lt hq2; omega
  have hXw := Aside0.mk hb2.out.size
  generalize w2.alloc (.cells #[.int .i64 s, .int .i64 k, .int .i64 p, .int .i64 c, .slice Aa a.length ca] 47) = w3 at hX3 hq3 hb3 ka3 ⊢
  generalize w2.heap.size = X at hX3 hqX hXw ⊢
  clear hq2 hb2 ka
  obtain ⟨x0, x1, x2, x3, x4⟩ := hX3.cells
  go_wp2_with (fail)
  refine (Bent_.calls s k p c Aa a.length ca at_ to_ w3).mono ?_
  rintro e w4 ⟨s', k', p', c', hbv, rfl, hB4⟩
  have hX4 := hX3.below hB4
  have hq4 := (hB4.block q (blk_lt hq3)).trans hq3
  have hb4 := Aside0.mk (below_then hb3.out hb3.out.size hB4)
  have ka4 := Aside0.mk (And.intro ka3.out.1 (Kd.C_below ka3.out.2 hB4))
  have hbv' := Aside0.mk hbv
  clear hbv hB4 hX3 hq3 hb3 ka3 x0 x1 x2 x3 x4
  go_upto_region 3 with (fail)
  have hY5 := Blk47.new w4 s' k' p' c' (.slice Aa a.length ca)
  have hX5 := hX4.alloc (.cells #[.int .i64 s', .int .i64 k', .int .i64 p', .int .i64 c', .slice Aa a.length ca] 47)
  have hq5 := blk_alloc hq4 (.cells #[.int .i64 s', .int .i64 k', .int .i64 p', .int .i64 c', .slice Aa a.length ca] 47)
  have hb5 := Aside0.mk (below_alloc hb4.out (.cells #[.int .i64 s', .int .i64 k', .int .i64 p', .int .i64 c', .slice Aa a.length ca] 47))
  have ka5 := Aside0.mk (And.intro ka4.out.1 (Kd.C_alloc ka4.out.2 (.cells #[.int .i64 s', .int .i64 k', .int .i64 p', .int .i64 c', .slice Aa a.length ca] 47)))
  have hXY : X ≠ w4.heap.size := by have := hX4.lt; omega
  have hqY : q ≠ w4.heap.size := by have := blk_lt hq4; omega
  generalize w4.alloc (.cells #[.int .i64 s', .int .i64 k', .int .i64 p', .int .i64 c', .slice Aa a.length ca] 47) = w5 at hY5 hX5 hq5 hb5 ka5 ⊢
  generalize w4.heap.size = Y at hY5 hXY hqY ⊢
  clear hX4 hq4 hb4 ka4
  obtain ⟨x0, x1, x2, x3, x4⟩ := hX5.cells
  go_upto_region 4 with (fail)
  clear x0 x1 x2 x3 x4
  have hZ6 := Blk47.new w5 s k p c (.slice Aa a.length ca)
  have hX6 := hX5.alloc (.cells #[.int .i64 s, .int .i64 k, .int .i64 p, .int .i64 c, .slice Aa a.length ca] 47)
  have hY6 := hY5.alloc (.cells #[.int .i64 s, .int .i64 k, .int .i64 p, .int .i64 c, .slice Aa a.length ca] 47)
  have hq6 := blk_alloc hq5 (.cells #[.int .i64 s, .int .i64 k, .int .i64 p, .int .i64 c, .slice Aa a.length ca] 47)
  have hb6 := Aside0.mk (below_alloc hb5.out (.cells #[.int .i64 s, .int .i64 k, .int .i64 p, .int .i64 c, .slice Aa a.length ca] 47))
  have ka6 := Aside0.mk (And.intro ka5.out.1 (Kd.C_alloc ka5.out.2 (.cells #[.int .i64 s, .int .i64 k, .int .i64 p, .int .i64 c, .slice Aa a.length ca] 47)))
  have kaW : Aside0 (∀ W, Below w5.heap.size (w5.alloc (.cells #[.int .i64 s, .int .i64 k, .int .i64 p, .int .i64 c, .slice Aa a.length ca] 47)) W → Kd.C k44 W Aa a.length a) := ⟨fun W h => Kd.C_below ka5.out.2 ((below_alloc (Below.refl _ _) _).trans h)⟩
  have hXZ : X ≠ w5.heap.size := by have := hX5.lt; omega
  have hYZ : Y ≠ w5.heap.size := by have := hY5.lt; omega
  have hqZ : q ≠ w5.heap.size := by have := blk_lt hq5; omega
  have hZw := Aside0.mk hb5.out.size
  generalize w5.alloc (.cells #[.int .i64 s, .int .i64 k, .int .i64 p, .int .i64 c, .slice Aa a.length ca] 47) = w6 at hZ6 hX6 hY6 hq6 hb6 ka6 kaW ⊢
  generalize w5.heap.size = Z at hZ6 hXZ hYZ hqZ hZw kaW ⊢
  clear hX5 hY5 hq5 hb5 ka5
  have keepS : ∀ w' : World, Below w6.heap.size w6 w' → (w'.cell? ⟨X, 4, none⟩ = some (.slice Aa a.length ca) ∧ w'.cell? ⟨q, 0, none⟩ = some (.int .i64 z0) ∧ w'.cell? ⟨q, 1, none⟩ = some (.int .i64 z1) ∧ w'.cell? ⟨q, 2, none⟩ = some (.int .i64 z2) ∧ w'.cell? ⟨q, 3, none⟩ = some (.int .i64 z3)) := fun w' hB => by
    have h1 := (hX6.below hB).cells
    have h3 := (hB.block q (blk_lt hq6)).trans hq6
    exact ⟨h1.2.2.2.2, (blk_cell h3 0).trans rfl, (blk_cell h3 1).trans rfl, (blk_cell h3 2).trans rfl, (blk_cell h3 3).trans rfl⟩
  obtain ⟨xX, q0, q1, q2, q3⟩ := keepS w6 (Below.refl _ _)
  have keepS' := Aside0.mk keepS
  have keepZ := Aside0.mk (show ∀ (w' : World) (u : Value), Below w6.heap.size w6 w' → ((w'.setCell ⟨Z, 4, none⟩ u).cell? ⟨X, 4, none⟩ = some (.slice Aa a.length ca) ∧ (w'.setCell ⟨Z, 4, none⟩ u).cell? ⟨q, 0, none⟩ = some (.int .i64 z0) ∧ (w'.setCell ⟨Z, 4, none⟩ u).cell? ⟨q, 1, none⟩ = some (.int .i64 z1) ∧ (w'.setCell ⟨Z, 4, none⟩ u).cell? ⟨q, 2, none⟩ = some (.int .i64 z2) ∧ (w'.setCell ⟨Z, 4, none⟩ u).cell? ⟨q, 3, none⟩ = some (.int .i64 z3)) from fun w' u hB => by
    have h1 := blk_far (hX6.below hB) (p := ⟨Z, 4, none⟩) hXZ u
    have h3 := blk_far ((hB.block q (blk_lt hq6)).trans hq6) (p := ⟨Z, 4, none⟩) hqZ u
    exact ⟨(blk_cell h1 4).trans rfl, (blk_cell h3 0).trans rfl, (blk_cell h3 1).trans rfl, (blk_cell h3 2).trans rfl, (blk_cell h3 3).trans rfl⟩)
  have hZ' := Aside0.mk hZ6
  have hb28 : Below w6.heap.size w6 (w6.alloc (.cells #[] 44)).drew := below_drew1 (below_alloc (Below.refl _ _) _)
  have hR28 : Kd.R k44 44 (w6.alloc (.cells #[] 44)).drew w6.heap.size (fun _ => True) (.slice (some ⟨w6.heap.size, 0, none⟩) 0 0) [] := R_empty (blk_drew (by simpa using heap_alloc_new w6 (.cells #[] 44))) (Nat.le_refl _)
  have ka28 := Kd.C_below ka6.out.2 hb28
  have hbB : Below w6.heap.size w6 ((w6.alloc (.cells #[] 44)).alloc (.cells #[.int .i64 z0, .int .i64 z1, .int .i64 z2, .int .i64 z3] 44)).drew := below_drew1 (below_alloc (below_alloc (Below.refl _ _) _) _)
  have hRB : Kd.R k44 44 ((w6.alloc (.cells #[] 44)).alloc (.cells #[.int .i64 z0, .int .i64 z1, .int .i64 z2, .int .i64 z3] 44)).drew w6.heap.size (fun _ => True) (.slice (some ⟨w6.heap.size, 0, none⟩) 0 0) [] := R_empty (blk_drew (blk_alloc (by simpa using heap_alloc_new w6 (.cells #[] 44)) _)) (Nat.le_refl _)
  have hzB : ((w6.alloc (.cells #[] 44)).alloc (.cells #[.int .i64 z0, .int .i64 z1, .int .i64 z2, .int .i64 z3] 44)).drew.heap[w6.heap.size + 1]? = some (.cells #[.int .i64 z0, .int .i64 z1, .int .i64 z2, .int .i64 z3] 44 (0, 0)) := blk_drew (by simpa using heap_alloc_new (w6.alloc (.cells #[] 44)) (.cells #[.int .i64 z0, .int .i64 z1, .int .i64 z2, .int .i64 z3] 44))
  have kaB := Kd.C_below ka6.out.2 hbB
  have hbC : Below w6.heap.size w6 ((w6.alloc (.cells #[.int .i64 z0, .int .i64 z1, .int .i64 z2, .int .i64 z3] 44)).alloc (.cells #[] 44)).drew := below_drew1 (below_alloc (below_alloc (Below.refl _ _) _) _)
  have hRC : Kd.R k44 44 ((w6.alloc (.cells #[.int .i64 z0, .int .i64 z1, .int .i64 z2, .int .i64 z3] 44)).alloc (.cells #[] 44)).drew w6.heap.size (fun _ => True) (.slice (some ⟨w6.heap.size + 1, 0, none⟩) 0 0) [] := R_empty (blk_drew (by simpa using heap_alloc_new (w6.alloc (.cells #[.int .i64 z0, .int .i64 z1, .int .i64 z2, .int .i64 z3] 44)) (.cells #[] 44))) (by omega)
  have hzC : ((w6.alloc (.cells #[.int .i64 z0, .int .i64 z1, .int .i64 z2, .int .i64 z3] 44)).alloc (.cells #[] 44)).drew.heap[w6.heap.size]? = some (.cells #[.int .i64 z0, .int .i64 z1, .int .i64 z2, .int .i64 z3] 44 (0, 0)) := blk_drew (blk_alloc (by simpa using heap_alloc_new w6 (.cells #[.int .i64 z0, .int .i64 z1, .int .i64 z2, .int .i64 z3] 44)) _)
  have kaC := Kd.C_below ka6.out.2 hbC
  go_region_held3 (fun w' => w'.cell? ⟨X, 4, none⟩ = some (.slice Aa a.length ca) ∧ w'.cell? ⟨q, 0, none⟩ = some (.int .i64 z0) ∧ w'.cell? ⟨q, 1, none⟩ = some (.int .i64 z1) ∧ w'.cell? ⟨q, 2, none⟩ = some (.int .i64 z2) ∧ w'.cell? ⟨q, 3, none⟩ = some (.int .i64 z3)) (first | (exact keepS'.out _ (below_drew1 (Below.refl _ _))) | (exact keepS'.out _ hb28) | (exact keepS'.out _ hbB) | (exact keepS'.out _ hbC) | (exact keepS'.out _ (below_drew1 (below_alloc (Below.refl _ _) _))) | (exact keepS'.out _ (by assumption)) | (exact keepS'.out _ (below_alloc (by assumption) _)) | (exact keepZ.out _ _ (by assumption)))
    (first
      | (refine Kd.R_append_rows_step k44 (w0 := w6) w6.heap.size (by rfl) (.tmp 28) (.tmp 30) 45 44 (.agg #[.int .i64 0, .int .i64 0, .int .i64 0, .int .i64 0]) 32 rfl Tryd.underlying45 infoF rfl (by decide) (by omega) (.slice (some ⟨w6.heap.size, 0, none⟩) 0 0) ([] : List S44) a Aa a.length ca (fun _ => True) (fun _ => False) (by rfl) (by rfl) hR28 ka28 (fun x cs h => (k44_open h).symm ▸ k44_mkM _ _ _ x) (fun _ h => h.elim) (fun _ _ => trivial) hb28 hb28.size (by simp; omega) ?_; intro v31 w31 ho31 hb31 hg31 _; rw [List.nil_append] at ho31)
      | (refine Kd.R_append_rows_step k44 (w0 := w6) w6.heap.size (by rfl) (.tmp 28) (.tmp 30) 45 44 (.agg #[.int .i64 0, .int .i64 0, .int .i64 0, .int .i64 0]) 32 rfl Tryd.underlying45 infoF rfl (by decide) (by omega) (.slice (some ⟨w6.heap.size, 0, none⟩) 0 0) ([] : List S44) a Aa a.length ca (fun _ => True) (fun _ => False) (by rfl) (by rfl) hRB kaB (fun x cs h => (k44_open h).symm ▸ k44_mkM _ _ _ x) (fun _ h => h.elim) (fun _ _ => trivial) hbB hbB.size (by simp; omega) ?_; intro v31 w31 ho31 hb31 hg31 _; rw [List.nil_append] at ho31; have hz31 := blk_grown hzB hg31 (by simp [Value.ownBlock]))
      | (refine Kd.R_append_rows_step k44 (w0 := w6) w6.heap.size (by rfl) (.tmp 28) (.tmp 30) 45 44 (.agg #[.int .i64 0, .int .i64 0, .int .i64 0, .int .i64 0]) 32 rfl Tryd.underlying45 infoF rfl (by decide) (by omega) (.slice (some ⟨w6.heap.size + 1, 0, none⟩) 0 0) ([] : List S44) a Aa a.length ca (fun _ => True) (fun _ => False) (by rfl) (by rfl) hRC kaC (fun x cs h => (k44_open h).symm ▸ k44_mkM _ _ _ x) (fun _ h => h.elim) (fun _ _ => trivial) hbC hbC.size (by simp; omega) ?_; intro v31 w31 ho31 hb31 hg31 _; rw [List.nil_append] at ho31; have hz31 := blk_grown hzC hg31 (by simp [Value.ownBlock]))
      | (refine Kd.R_append_step k44 (w0 := w6) w6.heap.size (by rfl) (.tmp 31) (.tmp 33) 45 44 (.agg #[.int .i64 0, .int .i64 0, .int .i64 0, .int .i64 0]) 32 rfl Tryd.underlying45 infoF rfl (by decide) (by omega) v31 a ⟨z0, z1, z2, z3⟩ [.int .i64 z0, .int .i64 z1, .int .i64 z2, .int .i64 z3] (fun _ => True) (fun _ => False) (by rfl) (by rfl) (k44_mkM _ _ _ ⟨z0, z1, z2, z3⟩) (fun _ h => h.elim) (fun _ _ => trivial) ho31 hb31 hb31.size (by omega) ?_; intro v34 w34 ho34 hb34 _ _; obtain ⟨A34, c34, rfl⟩ := Kd.R_slice ho34; have zZ := (hZ'.out.below hb34).cells.2.2.2.2; have zF := blk_frozen (hZ'.out.below hb34) 4)
      | (refine Kd.R_append_rows_step k44 (w0 := w6) w6.heap.size (by rfl) (.tmp 31) (.tmp 33) 45 44 (.agg #[.int .i64 0, .int .i64 0, .int .i64 0, .int .i64 0]) 32 rfl Tryd.underlying45 infoF rfl (by decide) (by omega) v31 a [⟨z0, z1, z2, z3⟩] _ 1 1 (fun _ => True) (fun _ => False) (by rfl) (by rfl) ho31 (C_one hz31) (fun x cs h => (k44_open h).symm ▸ k44_mkM _ _ _ x) (fun _ h => h.elim) (fun _ _ => trivial) hb31 hb31.size (by omega) ?_; intro v34 w34 ho34 hb34 _ _; obtain ⟨A34, c34, rfl⟩ := Kd.R_slice ho34; have zZ := (hZ'.out.below hb34).cells.2.2.2.2; have zF := blk_frozen (hZ'.out.below hb34) 4))
  all_goals
    have hX7 : Blk47 (w34.setCell ⟨Z, 4, none⟩ (.slice A34 (a.length + 1) c34)) X s k p c (.slice Aa a.length ca) := blk_far (hX6.below hb34) (p := ⟨Z, 4, none⟩) hXZ _
    have hY7 : Blk47 (w34.setCell ⟨Z, 4, none⟩ (.slice A34 (a.length + 1) c34)) Y s' k' p' c' (.slice Aa a.length ca) := blk_far (hY6.below hb34) (p := ⟨Z, 4, none⟩) hYZ _
    have hZ7 : Blk47 (w34.setCell ⟨Z, 4, none⟩ (.slice A34 (a.length + 1) c34)) Z s k p c (.slice A34 (a.length + 1) c34) := blk_put (hZ'.out.below hb34) 4 (.slice A34 (a.length + 1) c34) rfl
    have hkb := R_keep47 ho34 (hZ'.out.below hb34) ((KeepBut.refl w34 Z none).set_ 4 (.slice A34 (a.length + 1) c34))
    have hb7 := Aside0.mk (below_set (below_then hb6.out hb6.out.size hb34) hZw.out (j := 4) (v := .slice A34 (a.length + 1) c34))
    have hZlt := (hZ'.out.below hb34).lt
    have hbz : Below Z w6 (w34.setCell ⟨Z, 4, none⟩ (.slice A34 (a.length + 1) c34)) := (hb34.mono (Nat.le_of_lt hZ'.out.lt)).setCell (p := ⟨Z, 4, none⟩) (Nat.le_refl _) _
    have ka7 := Aside0.mk (And.intro ka6.out.1 (kaW.out _ hbz))
    have kb7 := Aside0.mk (Kd.R_reads' hkb).2
    have hI4b := Aside0.mk (bent_i64 hbv'.out hto hI4'.out)
    generalize w34.setCell ⟨Z, 4, none⟩ (.slice A34 (a.length + 1) c34) = w7 at hX7 hY7 hZ7 hkb hb7 hbz ka7 kb7 ⊢
    clear hkb hbz hZlt ho34 hb34 zZ zF ho31 hb31 hg31 hR28 hb28 ka28 hRB hbB hzB kaB hRC hbC hzC kaC xX q0 q1 q2 q3 hZ6 hX6 hY6 hq6 hXZ hYZ hqZ hqX hXY hqY
    obtain ⟨x0, x1, x2, x3, x4⟩ := hX7.cells
    obtain ⟨y0, y1, y2, y3, y4⟩ := hY7.cells
    obtain ⟨u0, u1, u2, u3, u4⟩ := hZ7.cells
    go_wp2_with (fail)
    clear x0 x1 x2 x3 x4 y0 y1 y2 y3 y4 u0 u1 u2 u3 u4
    have hAll0 : (w7.alloc (.cells #[.int .i64 s, .int .i64 k, .int .i64 p, .int .i64 c, .slice Aa a.length ca, .int .i64 s', .int .i64 k', .int .i64 p', .int .i64 c', .slice Aa a.length ca, .int .i64 s, .int .i64 k, .int .i64 p, .int .i64 c, .slice A34 (a.length + 1) c34] 47)).heap[w7.heap.size]? = some (.cells #[.int .i64 s, .int .i64 k, .int .i64 p, .int .i64 c, .slice Aa a.length ca, .int .i64 s', .int .i64 k', .int .i64 p', .int .i64 c', .slice Aa a.length ca, .int .i64 s, .int .i64 k, .int .i64 p, .int .i64 c, .slice A34 (a.length + 1) c34] 47 (0, 0)) := by simpa using heap_alloc_new w7 (.cells #[.int .i64 s, .int .i64 k, .int .i64 p, .int .i64 c, .slice Aa a.length ca, .int .i64 s', .int .i64 k', .int .i64 p', .int .i64 c', .slice Aa a.length ca, .int .i64 s, .int .i64 k, .int .i64 p, .int .i64 c, .slice A34 (a.length + 1) c34] 47)
    have hba := Aside0.mk (below_alloc (Below.refl w7.heap.size w7) (.cells #[.int .i64 s, .int .i64 k, .int .i64 p, .int .i64 c, .slice Aa a.length ca, .int .i64 s', .int .i64 k', .int .i64 p', .int .i64 c', .slice Aa a.length ca, .int .i64 s, .int .i64 k, .int .i64 p, .int .i64 c, .slice A34 (a.length + 1) c34] 47))
    have hlb : (a ++ [(⟨z0, z1, z2, z3⟩ : S44)]).length = a.length + 1 := by simp
    have ka : Aside0 (∀ W, Below w7.heap.size w7 W → a.length ≤ ca ∧ Kd.C k44 W Aa a.length a) := ⟨fun W h => ⟨ka7.out.1, Kd.C_below ka7.out.2 h⟩⟩
    have kb : Aside0 (∀ W, Below w7.heap.size w7 W → (a ++ [(⟨z0, z1, z2, z3⟩ : S44)]).length ≤ c34 ∧ Kd.C k44 W A34 (a ++ [(⟨z0, z1, z2, z3⟩ : S44)]).length (a ++ [⟨z0, z1, z2, z3⟩])) := ⟨fun W h => ⟨kb7.out.1, Kd.C_below kb7.out.2 h⟩⟩
    have hsz7 := Aside0.mk hb7.out.size
    obtain ⟨S7, hS7⟩ : ∃ S, w7.heap.size = S := ⟨_, rfl⟩
    have hS7' := Aside0.mk hS7
    generalize w7.alloc (.cells #[.int .i64 s, .int .i64 k, .int .i64 p, .int .i64 c, .slice Aa a.length ca, .int .i64 s', .int .i64 k', .int .i64 p', .int .i64 c', .slice Aa a.length ca, .int .i64 s, .int .i64 k, .int .i64 p, .int .i64 c, .slice A34 (a.length + 1) c34] 47) = wA at hAll0 hba ⊢
    rw [hS7] at hAll0 hba ka kb hsz7 ⊢
    clear hS7
    have hAll0' := Aside0.mk hAll0
    clear hAll0 hX7 hY7 hZ7 hlb
    go_loopg [15] 3 (fun kq v15 W => ∃ i : Nat, v15 = .int .i64 (i : Int) ∧ Aside0 (i + kq = 3) ∧ Aside0 (W.heap[S7]? = some (.cells #[.int .i64 s, .int .i64 k, .int .i64 p, .int .i64 c, .slice Aa a.length ca, .int .i64 s', .int .i64 k', .int .i64 p', .int .i64 c', .slice Aa a.length ca, .int .i64 s, .int .i64 k, .int .i64 p, .int .i64 c, .slice A34 (a.length + 1) c34] 47 (0, 0))) ∧ Aside0 (Below S7 w7 W))
    case atStart => exact ⟨0, rfl, ⟨rfl⟩, hAll0', hba⟩
    case round =>
      clear hAll0' hba
      obtain ⟨i, rfl, hi, hA, hBr⟩ := hrel
      have hAll := hA.out
      have hlb : (a ++ [(⟨z0, z1, z2, z3⟩ : S44)]).length = a.length + 1 := by simp
      clear hA
      cases gk with
      | zero =>
        obtain rfl : i = 3 := hi.out
        go_wp2_with (fail)
        refine (lives18.calls wr (hG'.out.below (hb7.out.trans (hBr.out.mono hsz7.out))) (hGB'.out.below (hb7.out.trans (hBr.out.mono hsz7.out)))).mono ?_
        rintro e w8 ⟨rfl, hB8⟩
        have hfin := Aside0.mk (below_then (hb7.out.trans (hBr.out.mono hsz7.out)) (hb7.out.trans (hBr.out.mono hsz7.out)).size hB8)
        go_wp2
        go_ret
        exact ⟨rfl, hfin.out⟩
      | succ j =>
        have h3 : i = 0 ∨ i = 1 ∨ i = 2 := by have := hi.out; omega
        rcases h3 with rfl | rfl | rfl
        · have e0 : wr.cell? ⟨S7, 0, none⟩ = some (.int .i64 s) := (blk_cell hAll 0).trans rfl
          have e1 : wr.cell? ⟨S7, 1, none⟩ = some (.int .i64 k) := (blk_cell hAll 1).trans rfl
          have e2 : wr.cell? ⟨S7, 2, none⟩ = some (.int .i64 p) := (blk_cell hAll 2).trans rfl
          have e3 : wr.cell? ⟨S7, 3, none⟩ = some (.int .i64 c) := (blk_cell hAll 3).trans rfl
          have e4 : wr.cell? ⟨S7, 4, none⟩ = some (.slice Aa a.length ca) := (blk_cell hAll 4).trans rfl
          have kc := ka.out wr hBr.out
          have i4 := hI4'.out
          obtain ⟨kr, fr⟩ := (ref_encode18 s k p c a i4).rounds
          have hel := encBlk_len s k p c a i4
          obtain ⟨rb, re, hre⟩ : ∃ rb re, encBlk s k p c a = (rb, re) := ⟨_, _, rfl⟩
          rw [hre] at fr hel
          have fr' := Aside0.mk fr
          have hre' := Aside0.mk hre
          have hel' := Aside0.mk hel
          obtain ⟨ks, fs⟩ := (sameBytes_ev rb rb (by have := hel'.out; simp only [] at this; omega)).rounds
          rw [decide_eq_true rfl] at fs
          have fs' := Aside0.mk fs
          have kc' := Aside0.mk kc
          have i4' := Aside0.mk i4
          clear fr hre hel fs kc i4
          go_wp2_with (fail)
          refine (of_.calls s k p c Aa a.length ca wr).mono ?_
          rintro e w8 ⟨rfl, hB8⟩
          have hr8 := Aside0.mk (below_then hBr.out (by have := hBr.out.size; have := hS7'.out; omega) hB8)
          have hA8 := (hB8.block S7 (blk_lt hAll)).trans hAll
          replace kc' := Aside0.mk (And.intro kc'.out.1 (Kd.C_below kc'.out.2 hB8))
          clear hB8 e0 e1 e2 e3 e4
          go_wp2_with (fail)
          have hcall := block_Encode.calls s k p c Aa ca a w8 kc'.out.2 kc'.out.1 (i4'.out _ (by simp)) (i4'.out _ (by simp)) (i4'.out _ (by simp)) (i4'.out _ (by simp)) (hG'.out.below (hb7.out.trans (hr8.out.mono hsz7.out))) (hGB'.out.below (hb7.out.trans (hr8.out.mono hsz7.out)))
          rw [hre'.out] at hcall
          refine hcall.mono ?_
          clear hcall
          rintro e w9 ⟨v9, rfl, hR9, hB9⟩
          obtain ⟨A9, c9, rfl⟩ := Kd.R_slice hR9
          have k9 := Aside0.mk (Kd.R_reads' hR9).2
          have hr9 := Aside0.mk (below_then hr8.out (by have := hr8.out.size; have := hS7'.out; omega) hB9)
          have hA9 := (hB9.block S7 (blk_lt hA8)).trans hA8
          replace kc' := Aside0.mk (And.intro kc'.out.1 (Kd.C_below kc'.out.2 hB9))
          clear hR9 hB9 hr8 hA8
          have e0 : w9.cell? ⟨S7, 0, none⟩ = some (.int .i64 s) := (blk_cell hA9 0).trans rfl
          have e1 : w9.cell? ⟨S7, 1, none⟩ = some (.int .i64 k) := (blk_cell hA9 1).trans rfl
          have e2 : w9.cell? ⟨S7, 2, none⟩ = some (.int .i64 p) := (blk_cell hA9 2).trans rfl
          have e3 : w9.cell? ⟨S7, 3, none⟩ = some (.int .i64 c) := (blk_cell hA9 3).trans rfl
          have e4 : w9.cell? ⟨S7, 4, none⟩ = some (.slice Aa a.length ca) := (blk_cell hA9 4).trans rfl
          go_wp2_with (fail)
          have hcall := intervalmonref18_Encode.calls kr s k p c Aa ca a rb re w9 kc'.out.2 kc'.out.1 fr'.out
          skip
          refine hcall.mono ?_
          clear hcall
          rintro e w10 ⟨v10, rfl, hR10, hB10⟩
          obtain ⟨A10, c10, rfl⟩ := Kd.R_slice hR10
          have k10 := Aside0.mk (Kd.R_reads' hR10).2
          have hr10 := Aside0.mk (below_then hr9.out (by have := hr9.out.size; have := hS7'.out; omega) hB10)
          have hA10 := (hB10.block S7 (blk_lt hA9)).trans hA9
          replace k9 := Aside0.mk (And.intro k9.out.1 (Kd.C_below k9.out.2 hB10))
          have ere : (re != re) = false := by simp
          clear hR10 hB10 hr9 hA9 e0 e1 e2 e3 e4 kc' fr'
          go_wp2_with (fail)
          refine (intervalmonref01_SameBytes.calls ks A9 c9 rb A10 c10 rb true w10 k9.out.2 k9.out.1 k10.out.2 k10.out.1 fs'.out).mono ?_
          rintro e w11 ⟨rfl, hd⟩
          have hr11 := Aside0.mk (below_then hr10.out (by have := hr10.out.size; have := hS7'.out; omega) hd.below)
          have hA11 := (hd.below.block S7 (blk_lt hA10)).trans hA10
          clear hd hr10 hA10 k9 k10
          go_wp2
          go_roundg j
          case measure => omega
          case rel => exact ⟨1, rfl, ⟨by have := hi.out; omega⟩, ⟨hA11⟩, hr11⟩
        · have e0 : wr.cell? ⟨S7, 5, none⟩ = some (.int .i64 s') := (blk_cell hAll 5).trans rfl
          have e1 : wr.cell? ⟨S7, 6, none⟩ = some (.int .i64 k') := (blk_cell hAll 6).trans rfl
          have e2 : wr.cell? ⟨S7, 7, none⟩ = some (.int .i64 p') := (blk_cell hAll 7).trans rfl
          have e3 : wr.cell? ⟨S7, 8, none⟩ = some (.int .i64 c') := (blk_cell hAll 8).trans rfl
          have e4 : wr.cell? ⟨S7, 9, none⟩ = some (.slice Aa a.length ca) := (blk_cell hAll 9).trans rfl
          have kc := ka.out wr hBr.out
          have i4 := hI4b.out
          obtain ⟨kr, fr⟩ := (ref_encode18 s' k' p' c' a i4).rounds
          have hel := encBlk_len s' k' p' c' a i4
          obtain ⟨rb, re, hre⟩ : ∃ rb re, encBlk s' k' p' c' a = (rb, re) := ⟨_, _, rfl⟩
          rw [hre] at fr hel
          have fr' := Aside0.mk fr
          have hre' := Aside0.mk hre
          have hel' := Aside0.mk hel
          obtain ⟨ks, fs⟩ := (sameBytes_ev rb rb (by have := hel'.out; simp only [] at this; omega)).rounds
          rw [decide_eq_true rfl] at fs
          have fs' := Aside0.mk fs
          have kc' := Aside0.mk kc
          have i4' := Aside0.mk i4
          clear fr hre hel fs kc i4
          go_wp2_with (fail)
          refine (of_.calls s' k' p' c' Aa a.length ca wr).mono ?_
          rintro e w8 ⟨rfl, hB8⟩
          have hr8 := Aside0.mk (below_then hBr.out (by have := hBr.out.size; have := hS7'.out; omega) hB8)
          have hA8 := (hB8.block S7 (blk_lt hAll)).trans hAll
          replace kc' := Aside0.mk (And.intro kc'.out.1 (Kd.C_below kc'.out.2 hB8))
          clear hB8 e0 e1 e2 e3 e4
          go_wp2_with (fail)
          have hcall := block_Encode.calls s' k' p' c' Aa ca a w8 kc'.out.2 kc'.out.1 (i4'.out _ (by simp)) (i4'.out _ (by simp)) (i4'.out _ (by simp)) (i4'.out _ (by simp)) (hG'.out.below (hb7.out.trans (hr8.out.mono hsz7.out))) (hGB'.out.below (hb7.out.trans (hr8.out.mono hsz7.out)))
          rw [hre'.out] at hcall
          refine hcall.mono ?_
          clear hcall
          rintro e w9 ⟨v9, rfl, hR9, hB9⟩
          obtain ⟨A9, c9, rfl⟩ := Kd.R_slice hR9
          have k9 := Aside0.mk (Kd.R_reads' hR9).2
          have hr9 := Aside0.mk (below_then hr8.out (by have := hr8.out.size; have := hS7'.out; omega) hB9)
          have hA9 := (hB9.block S7 (blk_lt hA8)).trans hA8
          replace kc' := Aside0.mk (And.intro kc'.out.1 (Kd.C_below kc'.out.2 hB9))
          clear hR9 hB9 hr8 hA8
          have e0 : w9.cell? ⟨S7, 5, none⟩ = some (.int .i64 s') := (blk_cell hA9 5).trans rfl
          have e1 : w9.cell? ⟨S7, 6, none⟩ = some (.int .i64 k') := (blk_cell hA9 6).trans rfl
          have e2 : w9.cell? ⟨S7, 7, none⟩ = some (.int .i64 p') := (blk_cell hA9 7).trans rfl
          have e3 : w9.cell? ⟨S7, 8, none⟩ = some (.int .i64 c') := (blk_cell hA9 8).trans rfl
          have e4 : w9.cell? ⟨S7, 9, none⟩ = some (.slice Aa a.length ca) := (blk_cell hA9 9).trans rfl
          go_wp2_with (fail)
          have hcall := intervalmonref18_Encode.calls kr s' k' p' c' Aa ca a rb re w9 kc'.out.2 kc'.out.1 fr'.out
          skip
          refine hcall.mono ?_
          clear hcall
          rintro e w10 ⟨v10, rfl, hR10, hB10⟩
          obtain ⟨A10, c10, rfl⟩ := Kd.R_slice hR10
          have k10 := Aside0.mk (Kd.R_reads' hR10).2
          have hr10 := Aside0.mk (below_then hr9.out (by have := hr9.out.size; have := hS7'.out; omega) hB10)
          have hA10 := (hB10.block S7 (blk_lt hA9)).trans hA9
          replace k9 := Aside0.mk (And.intro k9.out.1 (Kd.C_below k9.out.2 hB10))
          have ere : (re != re) = false := by simp
          clear hR10 hB10 hr9 hA9 e0 e1 e2 e3 e4 kc' fr'
          go_wp2_with (fail)
          refine (intervalmonref01_SameBytes.calls ks A9 c9 rb A10 c10 rb true w10 k9.out.2 k9.out.1 k10.out.2 k10.out.1 fs'.out).mono ?_
          rintro e w11 ⟨rfl, hd⟩
          have hr11 := Aside0.mk (below_then hr10.out (by have := hr10.out.size; have := hS7'.out; omega) hd.below)
          have hA11 := (hd.below.block S7 (blk_lt hA10)).trans hA10
          clear hd hr10 hA10 k9 k10
          go_wp2
          go_roundg j
          case measure => omega
          case rel => exact ⟨2, rfl, ⟨by have := hi.out; omega⟩, ⟨hA11⟩, hr11⟩
        · have e0 : wr.cell? ⟨S7, 10, none⟩ = some (.int .i64 s) := (blk_cell hAll 10).trans rfl
          have e1 : wr.cell? ⟨S7, 11, none⟩ = some (.int .i64 k) := (blk_cell hAll 11).trans rfl
          have e2 : wr.cell? ⟨S7, 12, none⟩ = some (.int .i64 p) := (blk_cell hAll 12).trans rfl
          have e3 : wr.cell? ⟨S7, 13, none⟩ = some (.int .i64 c) := (blk_cell hAll 13).trans rfl
          have e4 : wr.cell? ⟨S7, 14, none⟩ = some (.slice A34 (a.length + 1) c34) := (blk_cell hAll 14).trans rfl
          have kc := kb.out wr hBr.out
          have i4 := hI4'.out
          obtain ⟨kr, fr⟩ := (ref_encode18 s k p c (a ++ [⟨z0, z1, z2, z3⟩]) i4).rounds
          have hel := encBlk_len s k p c (a ++ [⟨z0, z1, z2, z3⟩]) i4
          obtain ⟨rb, re, hre⟩ : ∃ rb re, encBlk s k p c (a ++ [⟨z0, z1, z2, z3⟩]) = (rb, re) := ⟨_, _, rfl⟩
          rw [hre] at fr hel
          have fr' := Aside0.mk fr
          have hre' := Aside0.mk hre
          have hel' := Aside0.mk hel
          obtain ⟨ks, fs⟩ := (sameBytes_ev rb rb (by have := hel'.out; simp only [] at this; omega)).rounds
          rw [decide_eq_true rfl] at fs
          have fs' := Aside0.mk fs
          have kc' := Aside0.mk kc
          have i4' := Aside0.mk i4
          clear fr hre hel fs kc i4
          go_wp2_with (fail)
          refine (of_.calls s k p c A34 (a.length + 1) c34 wr).mono ?_
          rintro e w8 ⟨rfl, hB8⟩
          have hr8 := Aside0.mk (below_then hBr.out (by have := hBr.out.size; have := hS7'.out; omega) hB8)
          have hA8 := (hB8.block S7 (blk_lt hAll)).trans hAll
          replace kc' := Aside0.mk (And.intro kc'.out.1 (Kd.C_below kc'.out.2 hB8))
          clear hB8 e0 e1 e2 e3 e4
          go_wp2_with (fail)
          have hcall := block_Encode.calls s k p c A34 c34 (a ++ [⟨z0, z1, z2, z3⟩]) w8 kc'.out.2 kc'.out.1 (i4'.out _ (by simp)) (i4'.out _ (by simp)) (i4'.out _ (by simp)) (i4'.out _ (by simp)) (hG'.out.below (hb7.out.trans (hr8.out.mono hsz7.out))) (hGB'.out.below (hb7.out.trans (hr8.out.mono hsz7.out)))
          rw [hre'.out, hlb] at hcall
          refine hcall.mono ?_
          clear hcall
          rintro e w9 ⟨v9, rfl, hR9, hB9⟩
          obtain ⟨A9, c9, rfl⟩ := Kd.R_slice hR9
          have k9 := Aside0.mk (Kd.R_reads' hR9).2
          have hr9 := Aside0.mk (below_then hr8.out (by have := hr8.out.size; have := hS7'.out; omega) hB9)
          have hA9 := (hB9.block S7 (blk_lt hA8)).trans hA8
          replace kc' := Aside0.mk (And.intro kc'.out.1 (Kd.C_below kc'.out.2 hB9))
          clear hR9 hB9 hr8 hA8
          have e0 : w9.cell? ⟨S7, 10, none⟩ = some (.int .i64 s) := (blk_cell hA9 10).trans rfl
          have e1 : w9.cell? ⟨S7, 11, none⟩ = some (.int .i64 k) := (blk_cell hA9 11).trans rfl
          have e2 : w9.cell? ⟨S7, 12, none⟩ = some (.int .i64 p) := (blk_cell hA9 12).trans rfl
          have e3 : w9.cell? ⟨S7, 13, none⟩ = some (.int .i64 c) := (blk_cell hA9 13).trans rfl
          have e4 : w9.cell? ⟨S7, 14, none⟩ = some (.slice A34 (a.length + 1) c34) := (blk_cell hA9 14).trans rfl
          go_wp2_with (fail)
          have hcall := intervalmonref18_Encode.calls kr s k p c A34 c34 (a ++ [⟨z0, z1, z2, z3⟩]) rb re w9 kc'.out.2 kc'.out.1 fr'.out
          rw [hlb] at hcall
          refine hcall.mono ?_
          clear hcall
          rintro e w10 ⟨v10, rfl, hR10, hB10⟩
          obtain ⟨A10, c10, rfl⟩ := Kd.R_slice hR10
          have k10 := Aside0.mk (Kd.R_reads' hR10).2
          have hr10 := Aside0.mk (below_then hr9.out (by have := hr9.out.size; have := hS7'.out; omega) hB10)
          have hA10 := (hB10.block S7 (blk_lt hA9)).trans hA9
          replace k9 := Aside0.mk (And.intro k9.out.1 (Kd.C_below k9.out.2 hB10))
          have ere : (re != re) = false := by simp
          clear hR10 hB10 hr9 hA9 e0 e1 e2 e3 e4 kc' fr'
          go_wp2_with (fail)
          refine (intervalmonref01_SameBytes.calls ks A9 c9 rb A10 c10 rb true w10 k9.out.2 k9.out.1 k10.out.2 k10.out.1 fs'.out).mono ?_
          rintro e w11 ⟨rfl, hd⟩
          have hr11 := Aside0.mk (below_then hr10.out (by have := hr10.out.size; have := hS7'.out; omega) hd.below)
          have hA11 := (hd.below.block S7 (blk_lt hA10)).trans hA10
          clear hd hr10 hA10 k9 k10
          go_wp2
          go_roundg j
          case measure => omega
          case rel => exact ⟨3, rfl, ⟨by have := hi.out; omega⟩, ⟨hA11⟩, hr11⟩
/-- The same, its premises in the card's order. -/
theorem intervalmonlaw18_BlockEncodes.callsC (n : Int) (A1 : Option Addr) (c1 : Nat) (l : List Int) (at_ to_ : Int) (x : S44) (w : World) (hr : Kd.C (Kd.int .i64) w A1 l.length l) (hc : l.length ≤ c1) (hn : I64 n) (hl : ∀ x, x ∈ l → I64 x) (hat : I64 at_) (hto : I64 to_) (_ : I64 x.f0) (_ : I64 x.f1) (_ : I64 x.f2) (_ : I64 x.f3) (hG : Glob w) (hGB : GlobB w) :
    Calls Tryd.prog 5 #[.int .i64 n, .slice A1 l.length c1, .int .i64 at_, .int .i64 to_, .agg #[.int .i64 x.f0, .int .i64 x.f1, .int .i64 x.f2, .int .i64 x.f3]] w fun e w' => e = .returned (.bool true) ∧ Below w.heap.size w w' :=
  intervalmonlaw18_BlockEncodes.calls n A1 c1 l at_ to_ x w hr hc hl hn hat hto hG hGB
end Go.Proofs.YtblbieenfghbdaaDoor.F
