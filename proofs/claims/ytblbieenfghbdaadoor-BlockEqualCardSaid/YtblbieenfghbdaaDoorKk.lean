/- The call of the reference's Claims: it gives at most nine claims, each encodable, in new memory. -/
import Derived.Test.YtblbieenfghbdaaDoorKj
namespace Go.Proofs.YtblbieenfghbdaaDoor.E
open Go.RowKit Go.Proofs.YtblbieenfghbdaaDoor.D Go.Proofs.YtblbieenfghbdaaDoorW.PrintWords Go.Proofs.YtblbieenfghbdaaDoorW.PrintLast Go.Proofs.YtblbieenfghbdaaDoorW.PrintMore
set_option linter.unusedVariables false
set_option linter.unusedSimpArgs false
theorem infoC : (Tryd.prog.info? 44).map (fun i => (i.zero, i.size, i.bytes)) = some (some (.agg #[(.int .i64 0), (.int .i64 0), (.int .i64 0), (.int .i64 0)]), 4, 32) := by kernel_rfl
theorem around_range (a m : Int) (ha : I64 a) (hm : 0 < m) : 0 ≤ aroundV a m ∧ aroundV a m < m := by
  unfold I64 at ha
  unfold aroundV
  split
  · have e : wrap64 (-wrap64 (a + 1)) = -(a + 1) := by unfold wrap64; omega
    rw [e]
    exact ⟨Int.tmod_nonneg _ (by omega), Int.tmod_lt_of_pos _ hm⟩
  · exact ⟨Int.tmod_nonneg _ (by omega), Int.tmod_lt_of_pos _ hm⟩
/-- The claims so far and the claim under way. -/
structure CL (w W : World) (o : Nat) (x : S44) (v : Value) (cs : List S44) : Prop where
  cl : Clm W o x
  ho : w.heap.size ≤ o
  own : Kd.R k44 44 W w.heap.size (fun k => k ≠ o) v cs
  enc : ∀ c, c ∈ cs → encB c = true
  len : cs.length ≤ 9
  bel : Below w.heap.size w W
theorem CL.drew {w W : World} {o : Nat} {x : S44} {v : Value} {cs : List S44} (h : CL w W o x v cs) : CL w W.drew o x v cs := ⟨h.cl, h.ho, Kd.R_drew h.own, h.enc, h.len, below_drew1 h.bel⟩
theorem CL.drawn {w W W1 : World} {o : Nat} {x : S44} {v : Value} {cs : List S44} (h : CL w W o x v cs) (hd : Drawn0 W W1) : CL w W1 o x v cs := by
  obtain ⟨n, rfl⟩ := hd.out
  exact ⟨h.cl, h.ho, Kd.R_drewN h.own n, h.enc, h.len, below_then h.bel h.bel.size (Drawn0.below ⟨⟨n, rfl⟩⟩)⟩
theorem CL.below_ {w W W1 : World} {o : Nat} {x : S44} {v : Value} {cs : List S44} (h : CL w W o x v cs) (hb : Below W.heap.size W W1) : CL w W1 o x v cs :=
  ⟨h.cl.below hb, h.ho, Kd.R_below h.own hb, h.enc, h.len, below_then h.bel h.bel.size hb⟩
theorem CL.app {w W W1 : World} {o : Nat} {x : S44} {v v1 : Value} {cs : List S44} (h : CL w W o x v cs) (he : encB x = true) (hl : cs.length < 9) (ho : Kd.R k44 44 W1 w.heap.size (fun k => k ≠ o) v1 (cs ++ [x])) (hb : Below w.heap.size w W1) (hg : W.grownBy W1 v.ownBlock) : CL w W1 o x v1 (cs ++ [x]) :=
  ⟨blk_grown h.cl hg (fun e => h.own.1 o e.symm rfl), h.ho, ho, fun c hc => by
    rcases List.mem_append.1 hc with hc | hc
    · exact h.enc c hc
    · rw [List.mem_singleton] at hc; subst hc; exact he, by rw [List.length_append, List.length_singleton]; omega, hb⟩
theorem Clm.set {W : World} {o : Nat} {x : S44} (h : Clm W o x) (z : Int) : Clm (W.setCell ⟨o, 0, none⟩ (.int .i64 z)) o ⟨z, x.f1, x.f2, x.f3⟩ ∧ Clm (W.setCell ⟨o, 1, none⟩ (.int .i64 z)) o ⟨x.f0, z, x.f2, x.f3⟩ ∧
    Clm (W.setCell ⟨o, 2, none⟩ (.int .i64 z)) o ⟨x.f0, x.f1, z, x.f3⟩ ∧ Clm (W.setCell ⟨o, 3, none⟩ (.int .i64 z)) o ⟨x.f0, x.f1, x.f2, z⟩ :=
  ⟨(show _ = _ by simpa using blk_set h 0 (.int .i64 z)), (show _ = _ by simpa using blk_set h 1 (.int .i64 z)), (show _ = _ by simpa using blk_set h 2 (.int .i64 z)), (show _ = _ by simpa using blk_set h 3 (.int .i64 z))⟩
theorem CL.set {w W : World} {o : Nat} {x y : S44} {v : Value} {cs : List S44} {j : Nat} {u : Value} (h : CL w W o x v cs) (hy : Clm (W.setCell ⟨o, j, none⟩ u) o y) : CL w (W.setCell ⟨o, j, none⟩ u) o y v cs :=
  ⟨hy, h.ho, Kd.R_far (p := ⟨o, j, none⟩) h.own (fun k hk => hk) _, h.enc, h.len, below_set h.bel h.ho⟩
theorem CL.set4 {w W : World} {o : Nat} {x : S44} {v : Value} {cs : List S44} (h : CL w W o x v cs) (z0 z1 z2 z3 : Int) :
    CL w ((((W.setCell ⟨o, 0, none⟩ (.int .i64 z0)).setCell ⟨o, 1, none⟩ (.int .i64 z1)).setCell ⟨o, 2, none⟩ (.int .i64 z2)).setCell ⟨o, 3, none⟩ (.int .i64 z3)) o ⟨z0, z1, z2, z3⟩ v cs := by
  have h0 := h.set (h.cl.set z0).1
  have h1 := h0.set (h0.cl.set z1).2.1
  have h2 := h1.set (h1.cl.set z2).2.2.1
  exact h2.set (h2.cl.set z3).2.2.2
theorem CL.wp4 {P : Program} {code : Code} {Q : Exit → Act → World → Prop} {act : Act} {w W : World} {o : Nat} {x : S44} {v : Value} {cs : List S44} {a b c d : Int} (h : CL w W o x v cs) (k : ∀ W' x', CL w W' o x' v cs → Code.wp P code Q act W') :
    Code.wp P code Q act ((((W.setCell ⟨o, 0, none⟩ (.int .i64 a)).setCell ⟨o, 1, none⟩ (.int .i64 b)).setCell ⟨o, 2, none⟩ (.int .i64 c)).setCell ⟨o, 3, none⟩ (.int .i64 d)) := k _ _ (h.set4 a b c d)
theorem CL.wp0 {P : Program} {code : Code} {Q : Exit → Act → World → Prop} {act : Act} {w W : World} {o : Nat} {x : S44} {v : Value} {cs : List S44} {a : Int} (h : CL w W o x v cs) (k : ∀ W' x', CL w W' o x' v cs → Code.wp P code Q act W') :
    Code.wp P code Q act (W.setCell ⟨o, 0, none⟩ (.int .i64 a)) := k _ _ (h.set (h.cl.set a).1)
theorem CL.wp1 {P : Program} {code : Code} {Q : Exit → Act → World → Prop} {act : Act} {w W : World} {o : Nat} {x : S44} {v : Value} {cs : List S44} {a : Int} (h : CL w W o x v cs) (k : ∀ W' x', CL w W' o x' v cs → Code.wp P code Q act W') :
    Code.wp P code Q act (W.setCell ⟨o, 1, none⟩ (.int .i64 a)) := k _ _ (h.set (h.cl.set a).2.1)
theorem CL.wp3 {P : Program} {code : Code} {Q : Exit → Act → World → Prop} {act : Act} {w W : World} {o : Nat} {x : S44} {v : Value} {cs : List S44} {a : Int} (h : CL w W o x v cs) (k : ∀ W' x', CL w W' o x' v cs → Code.wp P code Q act W') :
    Code.wp P code Q act (W.setCell ⟨o, 3, none⟩ (.int .i64 a)) := k _ _ (h.set (h.cl.set a).2.2.2)
set_option maxHeartbeats 8000000 in
set_option maxRecDepth 100000 in
theorem intervalmonref15_Claims.calls (A0 : Option Addr) (c0 : Nat) (l0 : List Int) (w : World) (hr0 : Kd.C (Kd.int .i64) w A0 l0.length l0) (hI : ∀ x, x ∈ l0 → I64 x) :
    Calls Tryd.prog 40 #[.slice A0 l0.length c0] w fun e w' => ∃ (v : Value) (cs : List S44), e = .returned v ∧ Kd.R k44 44 w' w.heap.size (fun _ => True) v cs ∧ (∀ c, c ∈ cs → encB c = true) ∧ cs.length ≤ 9 ∧ Below w.heap.size w w' := by
  have hl8 : l0.length ≤ 9223372036854775807 := Kd.C_max hr0
  have hr0' := Aside0.mk hr0
  have hI' := Aside0.mk hI
  clear hr0 hI
  go_enter Tryd.func40, Tryd.ntmps40
  go_upto_region 3 with (fail)
  have hC0 : CL w (w.alloc (.cells #[.int .i64 0, .int .i64 0, .int .i64 0, .int .i64 0] 44)) w.heap.size ⟨0, 0, 0, 0⟩ (.slice none 0 0) [] :=
    ⟨(show _ = _ by simpa using heap_alloc_new w (.cells #[.int .i64 0, .int .i64 0, .int .i64 0, .int .i64 0] 44)), Nat.le_refl _, Kd.R_nil _ _ _ _ _, fun c h => (by cases h), by simp, below_alloc (Below.refl _ _) _⟩
  generalize hq : w.heap.size = o at hC0 ⊢
  have hq' := Aside0.mk hq
  clear hq
  generalize w.alloc (.cells #[.int .i64 0, .int .i64 0, .int .i64 0, .int .i64 0] 44) = w1 at hC0 ⊢
  have hC := Aside0.mk hC0
  clear hC0
  go_wp2
  go_loopg [3, 5] l0.length (fun kq v3 v5 w' => ∃ (i : Nat) (x : S44) (cs : List S44), v5 = .int .i64 (i : Int) ∧ Aside0 (CL w w' o x v3 cs) ∧ Aside0 (l0.length ≤ i + 4 * kq ∧ i ≤ 9223372036854775804 ∧ i % 4 = 0))
  case atStart => exact ⟨0, ⟨0, 0, 0, 0⟩, [], rfl, hC, ⟨by omega⟩⟩
  case round =>
    clear hC
    obtain ⟨i, x, cs, rfl, hC, hi⟩ := hrel
    obtain ⟨A3, c3, rfl⟩ := Kd.R_slice hC.out.own
    have hw3 : wrap64 ((i : Int) + 3) = (i : Int) + 3 := by have := hi.out; unfold wrap64; omega
    by_cases hlt : (i : Int) + 3 < (l0.length : Int)
    case neg =>
      have d1 : decide ((i : Int) + 3 < (l0.length : Int)) = false := decide_eq_false hlt
      have d2 : decide (i + 3 < l0.length) = false := decide_eq_false (by omega)
      clear hlt
      go_wp2
      go_ret
      exact ⟨_, cs, rfl, Kd.R_mono hC.out.own (fun _ _ => trivial), hC.out.enc, hC.out.len, hC.out.bel⟩
    have d1 : decide ((i : Int) + 3 < (l0.length : Int)) = true := decide_eq_true hlt
    have d2 : decide (i + 3 < l0.length) = true := decide_eq_true (by omega)
    by_cases h9 : cs.length < 9
    case neg =>
      have d3 : decide ((cs.length : Int) < 9) = false := decide_eq_false (by omega)
      have d4 : decide (cs.length < 9) = false := decide_eq_false (by omega)
      clear h9 hlt
      go_wp2
      go_ret
      exact ⟨_, cs, rfl, Kd.R_mono hC.out.own (fun _ _ => trivial), hC.out.enc, hC.out.len, hC.out.bel⟩
    have d3 : decide ((cs.length : Int) < 9) = true := decide_eq_true (by omega)
    have d4 : decide (cs.length < 9) = true := decide_eq_true (by omega)
    cases gk with
    | zero => have := hi.out; omega
    | succ m =>
    have hln : (l0.length : Int) ≤ 9223372036854775807 := by omega
    obtain ⟨ad, e, yy0⟩ := Kd.at_int hr0'.out (i : Int) (by omega) (by omega)
    subst e
    obtain ⟨ad1, e, yy1⟩ := Kd.at_int hr0'.out ((i : Int) + 1) (by omega) (by omega)
    injection e with e; subst e
    obtain ⟨ad2, e, yy2⟩ := Kd.at_int hr0'.out ((i : Int) + 2) (by omega) (by omega)
    injection e with e; subst e
    obtain ⟨ad3, e, yy3⟩ := Kd.at_int hr0'.out ((i : Int) + 3) (by omega) (by omega)
    injection e with e; subst e
    have hIr : ∀ j : Nat, j < l0.length → I64 (rd l0 (j : Int)) := fun j hj => by
      rw [rd, Int.toNat_natCast, List.getD_eq_getElem?_getD, List.getElem?_eq_getElem hj]
      exact hI'.out _ (List.getElem_mem hj)
    have i0 := hIr i (by omega)
    have i1 : I64 (rd l0 ((i : Int) + 1)) := hIr (i + 1) (by omega)
    have i2 : I64 (rd l0 ((i : Int) + 2)) := hIr (i + 2) (by omega)
    have i3 : I64 (rd l0 ((i : Int) + 3)) := hIr (i + 3) (by omega)
    generalize rd l0 (i : Int) = n0 at yy0 i0
    generalize rd l0 ((i : Int) + 1) = n1 at yy1 i1
    generalize rd l0 ((i : Int) + 2) = n2 at yy2 i2
    generalize rd l0 ((i : Int) + 3) = n3 at yy3 i3
    clear hIr
    rw [Int.toNat_natCast] at yy0
    rw [show ((i : Int) + 1).toNat = i + 1 by omega] at yy1
    rw [show ((i : Int) + 2).toNat = i + 2 by omega] at yy2
    rw [show ((i : Int) + 3).toNat = i + 3 by omega] at yy3
    have adj : ∀ j : Nat, ad.add (i + (j + 1)) = ⟨ad.block, ad.off + (i + (j + 1)), none⟩ := fun j => by unfold Addr.add; simp
    rw [adj 0] at yy1
    rw [adj 1] at yy2
    rw [adj 2] at yy3
    clear adj
    have y0 := pw_cell_below hC.out.bel yy0
    have y1' := pw_cell_below hC.out.bel yy1
    have y2' := pw_cell_below hC.out.bel yy2
    have y3' := pw_cell_below hC.out.bel yy3
    have hYY_ : Aside0 (∀ W' x', CL w W' o x' (.slice A3 cs.length c3) cs → W'.cell? (ad.add i) = some (.int .i64 n0) ∧ W'.cell? ⟨ad.block, ad.off + (i + 1), none⟩ = some (.int .i64 n1) ∧ W'.cell? ⟨ad.block, ad.off + (i + 2), none⟩ = some (.int .i64 n2) ∧ W'.cell? ⟨ad.block, ad.off + (i + 3), none⟩ = some (.int .i64 n3)) :=
      ⟨fun W' x' h => ⟨pw_cell_below h.bel yy0, pw_cell_below h.bel yy1, pw_cell_below h.bel yy2, pw_cell_below h.bel yy3⟩⟩
    clear yy0 yy1 yy2 yy3
    have hw1 : wrap64 ((i : Int) + 1) = (i : Int) + 1 := by have := hi.out; unfold wrap64; omega
    have hw2 : wrap64 ((i : Int) + 2) = (i : Int) + 2 := by have := hi.out; unfold wrap64; omega
    have hi4 : Aside0 (i + 4 ≤ 9223372036854775804 ∧ (i + 4) % 4 = 0) := ⟨by have := hi.out; omega⟩
    have hw4 : wrap64 ((i : Int) + 4) = (i : Int) + 4 := by have := hi4.out; unfold wrap64; omega
    have p1 : (i : Int) < (l0.length : Int) := by omega
    have p2 : (i : Int) + 1 < (l0.length : Int) := by omega
    have p3 : (i : Int) + 2 < (l0.length : Int) := by omega
    go_wp2_with (fail)
    refine (around_still (wrap64 (n0.tdiv 8)) 38 wr (by decide)).mono ?_
    rintro e w2 ⟨rfl, rfl⟩
    obtain ⟨big, hbig⟩ : ∃ b, IntKind.u64.wrap (aroundV (wrap64 (n0.tdiv 8)) 38) = b := ⟨_, rfl⟩
    have hb0 : 0 ≤ big ∧ big < 38 := by
      have h := around_range (wrap64 (n0.tdiv 8)) 38 (I64.wrap _) (by decide)
      rw [← hbig, IntKind.wrap_u64]
      omega
    have hbig' := hbig
    generalize aroundV (wrap64 (n0.tdiv 8)) 38 = ar at hbig ⊢
    obtain ⟨hbl, hbh⟩ := hb0
    have hr8 := around_range n0 8 i0 (by decide)
    clear hbig'
    go_wp2_with (fail)
    refine (around_still n0 8 w2 (by decide)).mono ?_
    rintro e w3 ⟨rfl, rfl⟩
    generalize aroundV n0 8 = r at hr8 ⊢
    replace hbig := Aside0.mk hbig
    have hr4 : r = 0 ∨ r = 1 ∨ (r = 2 ∨ r = 3) ∨ 4 ≤ r := by omega
    have hCm := hC.out.cl.cells
    obtain ⟨x0_, x1_, x2_, x3_⟩ := hCm
    have hof := blk_frozen hC.out.cl
    rcases hr4 with h0 | h1 | h2 | h3
    · subst h0
      go_upto_region 11 with (fail)
      have g1 : IntKind.i64.wrap ((i : Int) + 1) = (i : Int) + 1 := (i64_w _).trans hw1
      have g2 : IntKind.i64.wrap ((i : Int) + 2) = (i : Int) + 2 := (i64_w _).trans hw2
      have g3 : IntKind.i64.wrap ((i : Int) + 3) = (i : Int) + 3 := (i64_w _).trans hw3
      have f1 : (0 : Int) ≤ (i : Int) + 1 := by omega
      have f2 : (0 : Int) ≤ (i : Int) + 2 := by omega
      have f3 : (0 : Int) ≤ (i : Int) + 3 := by omega
      have t1 : ((i : Int) + 1).toNat = i + 1 := by omega
      have t2 : ((i : Int) + 2).toNat = i + 2 := by omega
      have t3 : ((i : Int) + 3).toNat = i + 3 := by omega
      refine wp_region_still_tail 24 (by kernel_rfl) (by kernel_rfl) ?_
      simp only [List.take_succ_cons, List.take_zero, List.drop_succ_cons, List.drop_zero]
      repeat still_step
      still_call (bound_still n0 1099511627776 w3.drew (by decide) (by decide))
      repeat still_step
      still_call (bound_still n1 1099511627776 w3.drew (by decide) (by decide))
      repeat still_step
      still_call (bound_still n2 1099511627776 w3.drew (by decide) (by decide))
      repeat still_step
      still_call (bound_still n3 1099511627776 w3.drew (by decide) (by decide))
      repeat still_step
      try refine wpStill_nil ?_
      change wpList _ _ _ _ _ w3.drew
      have hD := hC.out.drew
      clear hof y0 y1' y2' y3' x0_ x1_ x2_ x3_ hC
      generalize w3.drew = w4 at hD ⊢
      obtain ⟨x0_, x1_, x2_, x3_⟩ := hD.cl.cells
      have f0_ := blk_frozen hD.cl 0
      have f1_ := blk_frozen hD.cl 1
      have f2_ := blk_frozen hD.cl 2
      have f3_ := blk_frozen hD.cl 3
      go_upto_region 19 with (fail)
      clear x0_ x1_ x2_ x3_ f0_ f1_ f2_ f3_
      refine CL.wp4 hD (fun W_ x_ hE => ?_)
      clear hD
      clear w4
      clear g1 g2 g3 f1 f2 f3 t1 t2 t3
      have hT := Aside0.mk hE
      clear hE
      obtain ⟨a_, b_, c_, d_⟩ := x_
      obtain ⟨q0_, q1_, q2_, q3_⟩ := hT.out.cl.cells
      try simp only [] at q0_ q1_ q2_ q3_
      go_wp2_with (fail)
      refine (intervalmonref15_Encodable.calls 10 a_ b_ c_ d_ _ W_ (ref_encodable a_ b_ c_ d_)).mono ?_
      rintro e w8 ⟨rfl, hd⟩
      replace hT := Aside0.mk (hT.out.below_ hd)
      clear q0_ q1_ q2_ q3_ hd
      cases he : encB ⟨a_, b_, c_, d_⟩ with
      | true =>
        replace he := Aside0.mk he
        obtain ⟨q0_, q1_, q2_, q3_⟩ := hT.out.cl.cells
        try simp only [] at q0_ q1_ q2_ q3_
        go_wp2_with (first | ((with_reducible refine gate_builtin (b := .append) (xs := #[.tmp 124, .tmp 126]) rfl ?_); at_builtin; refine Kd.R_append k44 (w0 := w) w.heap.size rfl (.tmp 124) (.tmp 126) 45 44 (.agg #[.int .i64 0, .int .i64 0, .int .i64 0, .int .i64 0]) 32 rfl Tryd.underlying45 infoC rfl (by decide) (by omega) (.slice A3 cs.length c3) cs ⟨a_, b_, c_, d_⟩ [.int .i64 a_, .int .i64 b_, .int .i64 c_, .int .i64 d_] (fun k => k ≠ o) (fun _ => False) rfl rfl (k44_mkM _ _ _ ⟨a_, b_, c_, d_⟩) (fun _ hk => hk.elim) ?aF hT.out.own hT.out.bel hT.out.bel.size (by omega) ?_; (case aF => intro k_ hk; have h1 := blk_lt hT.out.cl; omega); intro v7 w7 ho7 hb7 hg7 hat7; have hT7 := Aside0.mk (hT.out.app he.out h9 ho7 hb7 hg7); clear ho7 hb7 hg7 hat7))
        go_roundg m
        case measure => omega
        case rel => exact ⟨i + 4, _, _, by first | rfl | simp [*], hT7, ⟨by have := hi.out; have := hi4.out; omega⟩⟩
      | false =>
        go_wp2
        go_roundg m
        case measure => omega
        case rel => exact ⟨i + 4, _, cs, by first | rfl | simp [*], hT, ⟨by have := hi.out; have := hi4.out; omega⟩⟩
    · subst h1
      go_upto_region 13 with (fail)
      have g1 : IntKind.i64.wrap ((i : Int) + 1) = (i : Int) + 1 := (i64_w _).trans hw1
      have g2 : IntKind.i64.wrap ((i : Int) + 2) = (i : Int) + 2 := (i64_w _).trans hw2
      have g3 : IntKind.i64.wrap ((i : Int) + 3) = (i : Int) + 3 := (i64_w _).trans hw3
      have f1 : (0 : Int) ≤ (i : Int) + 1 := by omega
      have f2 : (0 : Int) ≤ (i : Int) + 2 := by omega
      have f3 : (0 : Int) ≤ (i : Int) + 3 := by omega
      have t1 : ((i : Int) + 1).toNat = i + 1 := by omega
      have t2 : ((i : Int) + 2).toNat = i + 2 := by omega
      have t3 : ((i : Int) + 3).toNat = i + 3 := by omega
      refine wp_region_still_tail 21 (by kernel_rfl) (by kernel_rfl) ?_
      simp only [List.take_succ_cons, List.take_zero, List.drop_succ_cons, List.drop_zero]
      repeat still_step
      still_call (around_still n1 40 w3.drew (by decide))
      repeat still_step
      still_call (bound_still n3 300 w3.drew (by decide) (by decide))
      repeat still_step
      try refine wpStill_nil ?_
      change wpList _ _ _ _ _ w3.drew
      have hD := hC.out.drew
      clear hof y0 y1' y2' y3' x0_ x1_ x2_ x3_ hC
      generalize w3.drew = w4 at hD ⊢
      obtain ⟨x0_, x1_, x2_, x3_⟩ := hD.cl.cells
      have f0_ := blk_frozen hD.cl 0
      have f1_ := blk_frozen hD.cl 1
      have f2_ := blk_frozen hD.cl 2
      have f3_ := blk_frozen hD.cl 3
      go_upto_region 19 with (fail)
      clear x0_ x1_ x2_ x3_ f0_ f1_ f2_ f3_
      refine CL.wp4 hD (fun W_ x_ hE => ?_)
      clear hD
      clear w4
      clear g1 g2 g3 f1 f2 f3 t1 t2 t3
      have hT := Aside0.mk hE
      clear hE
      obtain ⟨a_, b_, c_, d_⟩ := x_
      obtain ⟨q0_, q1_, q2_, q3_⟩ := hT.out.cl.cells
      try simp only [] at q0_ q1_ q2_ q3_
      go_wp2_with (fail)
      refine (intervalmonref15_Encodable.calls 10 a_ b_ c_ d_ _ W_ (ref_encodable a_ b_ c_ d_)).mono ?_
      rintro e w8 ⟨rfl, hd⟩
      replace hT := Aside0.mk (hT.out.below_ hd)
      clear q0_ q1_ q2_ q3_ hd
      cases he : encB ⟨a_, b_, c_, d_⟩ with
      | true =>
        replace he := Aside0.mk he
        obtain ⟨q0_, q1_, q2_, q3_⟩ := hT.out.cl.cells
        try simp only [] at q0_ q1_ q2_ q3_
        go_wp2_with (first | ((with_reducible refine gate_builtin (b := .append) (xs := #[.tmp 124, .tmp 126]) rfl ?_); at_builtin; refine Kd.R_append k44 (w0 := w) w.heap.size rfl (.tmp 124) (.tmp 126) 45 44 (.agg #[.int .i64 0, .int .i64 0, .int .i64 0, .int .i64 0]) 32 rfl Tryd.underlying45 infoC rfl (by decide) (by omega) (.slice A3 cs.length c3) cs ⟨a_, b_, c_, d_⟩ [.int .i64 a_, .int .i64 b_, .int .i64 c_, .int .i64 d_] (fun k => k ≠ o) (fun _ => False) rfl rfl (k44_mkM _ _ _ ⟨a_, b_, c_, d_⟩) (fun _ hk => hk.elim) ?aF hT.out.own hT.out.bel hT.out.bel.size (by omega) ?_; (case aF => intro k_ hk; have h1 := blk_lt hT.out.cl; omega); intro v7 w7 ho7 hb7 hg7 hat7; have hT7 := Aside0.mk (hT.out.app he.out h9 ho7 hb7 hg7); clear ho7 hb7 hg7 hat7))
        go_roundg m
        case measure => omega
        case rel => exact ⟨i + 4, _, _, by first | rfl | simp [*], hT7, ⟨by have := hi.out; have := hi4.out; omega⟩⟩
      | false =>
        go_wp2
        go_roundg m
        case measure => omega
        case rel => exact ⟨i + 4, _, cs, by first | rfl | simp [*], hT, ⟨by have := hi.out; have := hi4.out; omega⟩⟩
    · have hYY0 := True.intro
      have hOld := Aside0.mk y0
      have hbw := Aside0.mk hC.out.bel
      have hYY : ∀ W' x', CL w W' o x' (.slice A3 cs.length c3) cs → W'.cell? (ad.add i) = some (.int .i64 n0) ∧ W'.cell? ⟨ad.block, ad.off + (i + 1), none⟩ = some (.int .i64 n1) ∧ W'.cell? ⟨ad.block, ad.off + (i + 2), none⟩ = some (.int .i64 n2) ∧ W'.cell? ⟨ad.block, ad.off + (i + 3), none⟩ = some (.int .i64 n3) := hYY_.out
      have hYY' := Aside0.mk hYY
      clear hYY hOld hbw
      rcases h2 with h2 | h2
      all_goals
        subst h2
        go_upto_region 16 with (fail)
        have g1 : IntKind.i64.wrap ((i : Int) + 1) = (i : Int) + 1 := (i64_w _).trans hw1
        have g2 : IntKind.i64.wrap ((i : Int) + 2) = (i : Int) + 2 := (i64_w _).trans hw2
        have g3 : IntKind.i64.wrap ((i : Int) + 3) = (i : Int) + 3 := (i64_w _).trans hw3
        have f1 : (0 : Int) ≤ (i : Int) + 1 := by omega
        have f2 : (0 : Int) ≤ (i : Int) + 2 := by omega
        have f3 : (0 : Int) ≤ (i : Int) + 3 := by omega
        have t1 : ((i : Int) + 1).toNat = i + 1 := by omega
        have t2 : ((i : Int) + 2).toNat = i + 2 := by omega
        have t3 : ((i : Int) + 3).toNat = i + 3 := by omega
        refine wp_region_still_tail 10 (by kernel_rfl) (by kernel_rfl) ?_
        simp only [List.take_succ_cons, List.take_zero, List.drop_succ_cons, List.drop_zero]
        repeat still_step
        still_call (around_still n1 20 w3.drew (by decide))
        repeat still_step
        try refine wpStill_nil ?_
        change wpList _ _ _ _ _ w3.drew
        have hD := hC.out.drew
        clear hof y0 y1' y2' y3' x0_ x1_ x2_ x3_ hC
        generalize w3.drew = w4 at hD ⊢
        obtain ⟨x0_, x1_, x2_, x3_⟩ := hD.cl.cells
        have f0_ := blk_frozen hD.cl 0
        have f1_ := blk_frozen hD.cl 1
        have f2_ := blk_frozen hD.cl 2
        have f3_ := blk_frozen hD.cl 3
        go_upto_region 17 with (fail)
        clear x0_ x1_ x2_ x3_ f0_ f1_ f2_ f3_
        refine CL.wp0 hD (fun W_ x_ hE => ?_)
        clear hD
        clear w4
        obtain ⟨y0, y1', y2', y3'⟩ := hYY'.out _ _ hE
        obtain ⟨x0_, x1_, x2_, x3_⟩ := hE.cl.cells
        have f0_ := blk_frozen hE.cl 0
        have f1_ := blk_frozen hE.cl 1
        have f2_ := blk_frozen hE.cl 2
        have f3_ := blk_frozen hE.cl 3
        refine wp_region_still_tail 10 (by kernel_rfl) (by kernel_rfl) ?_
        simp only [List.take_succ_cons, List.take_zero, List.drop_succ_cons, List.drop_zero]
        repeat still_step
        still_call (around_still n2 3 W_.drew (by decide))
        repeat still_step
        try refine wpStill_nil ?_
        change wpList _ _ _ _ _ W_.drew
        have hD := hE.drew
        clear y0 y1' y2' y3' x0_ x1_ x2_ x3_ f0_ f1_ f2_ f3_ hE
        generalize W_.drew = w4 at hD ⊢
        clear W_
        obtain ⟨x0_, x1_, x2_, x3_⟩ := hD.cl.cells
        have f0_ := blk_frozen hD.cl 0
        have f1_ := blk_frozen hD.cl 1
        have f2_ := blk_frozen hD.cl 2
        have f3_ := blk_frozen hD.cl 3
        go_upto_region 18 with (fail)
        clear x0_ x1_ x2_ x3_ f0_ f1_ f2_ f3_
        refine CL.wp1 hD (fun W_ x_ hE => ?_)
        clear hD
        clear w4
        obtain ⟨y0, y1', y2', y3'⟩ := hYY'.out _ _ hE
        obtain ⟨x0_, x1_, x2_, x3_⟩ := hE.cl.cells
        have f0_ := blk_frozen hE.cl 0
        have f1_ := blk_frozen hE.cl 1
        have f2_ := blk_frozen hE.cl 2
        have f3_ := blk_frozen hE.cl 3
        refine wp_region_still_tail 10 (by kernel_rfl) (by kernel_rfl) ?_
        simp only [List.take_succ_cons, List.take_zero, List.drop_succ_cons, List.drop_zero]
        repeat still_step
        still_call (around_still n3 9 W_.drew (by decide))
        repeat still_step
        try refine wpStill_nil ?_
        change wpList _ _ _ _ _ W_.drew
        have hD := hE.drew
        clear y0 y1' y2' y3' x0_ x1_ x2_ x3_ f0_ f1_ f2_ f3_ hE
        generalize W_.drew = w4 at hD ⊢
        clear W_
        obtain ⟨x0_, x1_, x2_, x3_⟩ := hD.cl.cells
        have f0_ := blk_frozen hD.cl 0
        have f1_ := blk_frozen hD.cl 1
        have f2_ := blk_frozen hD.cl 2
        have f3_ := blk_frozen hD.cl 3
        go_upto_region 19 with (fail)
        clear x0_ x1_ x2_ x3_ f0_ f1_ f2_ f3_
        refine CL.wp3 hD (fun W_ x_ hE => ?_)
        clear hD
        clear w4
        clear g1 g2 g3 f1 f2 f3 t1 t2 t3
        have hT := Aside0.mk hE
        clear hE
        obtain ⟨a_, b_, c_, d_⟩ := x_
        obtain ⟨q0_, q1_, q2_, q3_⟩ := hT.out.cl.cells
        try simp only [] at q0_ q1_ q2_ q3_
        go_wp2_with (fail)
        refine (intervalmonref15_Encodable.calls 10 a_ b_ c_ d_ _ W_ (ref_encodable a_ b_ c_ d_)).mono ?_
        rintro e w8 ⟨rfl, hd⟩
        replace hT := Aside0.mk (hT.out.below_ hd)
        clear q0_ q1_ q2_ q3_ hd
        cases he : encB ⟨a_, b_, c_, d_⟩ with
        | true =>
          replace he := Aside0.mk he
          obtain ⟨q0_, q1_, q2_, q3_⟩ := hT.out.cl.cells
          try simp only [] at q0_ q1_ q2_ q3_
          go_wp2_with (first | ((with_reducible refine gate_builtin (b := .append) (xs := #[.tmp 124, .tmp 126]) rfl ?_); at_builtin; refine Kd.R_append k44 (w0 := w) w.heap.size rfl (.tmp 124) (.tmp 126) 45 44 (.agg #[.int .i64 0, .int .i64 0, .int .i64 0, .int .i64 0]) 32 rfl Tryd.underlying45 infoC rfl (by decide) (by omega) (.slice A3 cs.length c3) cs ⟨a_, b_, c_, d_⟩ [.int .i64 a_, .int .i64 b_, .int .i64 c_, .int .i64 d_] (fun k => k ≠ o) (fun _ => False) rfl rfl (k44_mkM _ _ _ ⟨a_, b_, c_, d_⟩) (fun _ hk => hk.elim) ?aF hT.out.own hT.out.bel hT.out.bel.size (by omega) ?_; (case aF => intro k_ hk; have h1 := blk_lt hT.out.cl; omega); intro v7 w7 ho7 hb7 hg7 hat7; have hT7 := Aside0.mk (hT.out.app he.out h9 ho7 hb7 hg7); clear ho7 hb7 hg7 hat7))
          go_roundg m
          case measure => omega
          case rel => exact ⟨i + 4, _, _, by first | rfl | simp [*], hT7, ⟨by have := hi.out; have := hi4.out; omega⟩⟩
        | false =>
          go_wp2
          go_roundg m
          case measure => omega
          case rel => exact ⟨i + 4, _, cs, by first | rfl | simp [*], hT, ⟨by have := hi.out; have := hi4.out; omega⟩⟩
    · have hb0 : (r == 0) = false := by simp; omega
      have hb1 : (r == 1) = false := by simp; omega
      have hb2 : (r == 2) = false := by simp; omega
      have hb3 : (r == 3) = false := by simp; omega
      have hD := hC.out
      clear hof y0 y1' y2' y3' x0_ x1_ x2_ x3_ hC
      obtain ⟨x0_, x1_, x2_, x3_⟩ := hD.cl.cells
      have f0_ := blk_frozen hD.cl 0
      have f1_ := blk_frozen hD.cl 1
      have f2_ := blk_frozen hD.cl 2
      have f3_ := blk_frozen hD.cl 3
      go_upto_region 9 with (fail)
      clear x0_ x1_ x2_ x3_ f0_ f1_ f2_ f3_
      refine CL.wp0 hD (fun W_ x_ hE => ?_)
      clear hD
      have hD := hE
      clear hE
      obtain ⟨x0_, x1_, x2_, x3_⟩ := hD.cl.cells
      have f0_ := blk_frozen hD.cl 0
      have f1_ := blk_frozen hD.cl 1
      have f2_ := blk_frozen hD.cl 2
      have f3_ := blk_frozen hD.cl 3
      go_upto_region 19 with (fail)
      clear x0_ x1_ x2_ x3_ f0_ f1_ f2_ f3_
      refine CL.wp1 hD (fun W_ x_ hE => ?_)
      clear hD
      have hT := Aside0.mk hE
      clear hE
      obtain ⟨a_, b_, c_, d_⟩ := x_
      obtain ⟨q0_, q1_, q2_, q3_⟩ := hT.out.cl.cells
      try simp only [] at q0_ q1_ q2_ q3_
      go_wp2_with (fail)
      refine (intervalmonref15_Encodable.calls 10 a_ b_ c_ d_ _ W_ (ref_encodable a_ b_ c_ d_)).mono ?_
      rintro e w8 ⟨rfl, hd⟩
      replace hT := Aside0.mk (hT.out.below_ hd)
      clear q0_ q1_ q2_ q3_ hd
      cases he : encB ⟨a_, b_, c_, d_⟩ with
      | true =>
        replace he := Aside0.mk he
        obtain ⟨q0_, q1_, q2_, q3_⟩ := hT.out.cl.cells
        try simp only [] at q0_ q1_ q2_ q3_
        go_wp2_with (first | ((with_reducible refine gate_builtin (b := .append) (xs := #[.tmp 124, .tmp 126]) rfl ?_); at_builtin; refine Kd.R_append k44 (w0 := w) w.heap.size rfl (.tmp 124) (.tmp 126) 45 44 (.agg #[.int .i64 0, .int .i64 0, .int .i64 0, .int .i64 0]) 32 rfl Tryd.underlying45 infoC rfl (by decide) (by omega) (.slice A3 cs.length c3) cs ⟨a_, b_, c_, d_⟩ [.int .i64 a_, .int .i64 b_, .int .i64 c_, .int .i64 d_] (fun k => k ≠ o) (fun _ => False) rfl rfl (k44_mkM _ _ _ ⟨a_, b_, c_, d_⟩) (fun _ hk => hk.elim) ?aF hT.out.own hT.out.bel hT.out.bel.size (by omega) ?_; (case aF => intro k_ hk; have h1 := blk_lt hT.out.cl; omega); intro v7 w7 ho7 hb7 hg7 hat7; have hT7 := Aside0.mk (hT.out.app he.out h9 ho7 hb7 hg7); clear ho7 hb7 hg7 hat7))
        go_roundg m
        case measure => omega
        case rel => exact ⟨i + 4, _, _, by first | rfl | simp [*], hT7, ⟨by have := hi.out; have := hi4.out; omega⟩⟩
      | false =>
        go_wp2
        go_roundg m
        case measure => omega
        case rel => exact ⟨i + 4, _, cs, by first | rfl | simp [*], hT, ⟨by have := hi.out; have := hi4.out; omega⟩⟩
end Go.Proofs.YtblbieenfghbdaaDoor.E
