/- The call of law 15's CodecCompact gives true, whatever it is handed. -/
import Derived.Test.YtblbieenfghbdaaDoorPz
import Derived.Test.YtblbieenfghbdaaDoorKj
import Derived.Test.YtblbieenfghbdaaDoorExC0
import Derived.Deep.RegionHeld3
namespace Go.Proofs.YtblbieenfghbdaaDoor.E
open Go.RowKit Go.Proofs.YtblbieenfghbdaaDoor.D Go.Proofs.YtblbieenfghbdaaDoorW.PrintWords Go.Proofs.YtblbieenfghbdaaDoorW.PrintLast Go.Proofs.YtblbieenfghbdaaDoorW.PrintMore
set_option linter.unusedVariables false
set_option linter.unusedSimpArgs false
theorem by_key {K G : Prop} (h : K → G) (k : K) : G := h k
theorem infoE : (Tryd.prog.info? 44).map (fun i => (i.zero, i.size, i.bytes)) = some (some (.agg #[(.int .i64 0), (.int .i64 0), (.int .i64 0), (.int .i64 0)]), 4, 32) := by kernel_rfl
theorem around_in (a m : Int) (ha : I64 a) (hm : 0 < m) : 0 ≤ aroundV a m ∧ aroundV a m < m := by
  unfold aroundV
  by_cases c : a < 0
  · rw [if_pos c]
    have e : wrap64 (-wrap64 (a + 1)) = -(a + 1) := by unfold I64 at ha; unfold wrap64; omega
    rw [e]
    exact ⟨Int.tmod_nonneg m (by omega), Int.tmod_lt_of_pos _ hm⟩
  · rw [if_neg c]
    exact ⟨Int.tmod_nonneg m (by omega), Int.tmod_lt_of_pos _ hm⟩
theorem bound_in (a m : Int) (ha : I64 a) (hm : 0 < m) (h2 : m < 1000000000000000000) : -m ≤ boundV a m ∧ boundV a m ≤ m := by
  have e1 : wrap64 (2 * m) = 2 * m := by unfold wrap64; omega
  have e2 : wrap64 (2 * m + 1) = 2 * m + 1 := by unfold wrap64; omega
  unfold boundV
  rw [e1, e2]
  have h := around_in a (2 * m + 1) ha (by omega)
  have e3 : wrap64 (aroundV a (2 * m + 1) - m) = aroundV a (2 * m + 1) - m := by unfold wrap64; omega
  rw [e3]
  omega
/-- The claim, the two lists of a round. -/
structure CN (w W : World) (o : Nat) (x : S44) (v10 v11 : Value) (out : List S44) (ko : List Int) : Prop where
  cl : Clm W o x
  ho : w.heap.size ≤ o
  own10 : Kd.R k44 44 W w.heap.size (fun k => k ≠ o) v10 out
  own11 : Kd.R (Kd.int .i64) 3 W w.heap.size (fun k => k ≠ o) v11 ko
  bel : Below w.heap.size w W
section
variable {w W W1 : World} {o : Nat} {x y : S44} {v10 v11 v : Value} {out out1 : List S44} {ko ko1 : List Int}
theorem CN.set (h : CN w W o x v10 v11 out ko) {j : Nat} {u : Value} (hy : Clm (W.setCell ⟨o, j, none⟩ u) o y) : CN w (W.setCell ⟨o, j, none⟩ u) o y v10 v11 out ko := by
  have hk := (KeepBut.refl W o none).set_ j u
  exact ⟨hy, h.ho, Kd.R_keep h.own10 hk (fun k hk => hk), Kd.R_keep h.own11 hk (fun k hk => hk), below_set h.bel h.ho⟩
theorem CN.app10 (h : CN w W o x v10 v11 out ko) (ho : Kd.R k44 44 W1 w.heap.size (fun k => k ≠ o) v out1) (hb : Below w.heap.size w W1) (hg : W.grownBy W1 v10.ownBlock) : CN w W1 o x v v11 out1 ko := by
  have hK : Kept W W1 (fun k => some k = v10.ownBlock) := (Kept.refl W _).of_grown hg (fun k e => .inl e.symm)
  have hn : ∀ k, some k = v10.ownBlock → k ≠ o := fun k e => h.own10.1 k e.symm
  have ha := Kd.R_apartR h.own11 h.own10 (by simp [Kd.E, Kd.int, Kd.scalar])
  exact ⟨blk_kept h.cl hK (fun e => (hn _ e) rfl), h.ho, ho, Kd.R_mono (Kd.R_kept ha hK (fun k hk e => hk.2 e)) (fun k hk => hk.1), hb⟩
theorem CN.app11 (h : CN w W o x v10 v11 out ko) (ho : Kd.R (Kd.int .i64) 3 W1 w.heap.size (fun k => k ≠ o) v ko1) (hb : Below w.heap.size w W1) (hg : W.grownBy W1 v11.ownBlock) : CN w W1 o x v10 v out ko1 := by
  have hK : Kept W W1 (fun k => some k = v11.ownBlock) := (Kept.refl W _).of_grown hg (fun k e => .inl e.symm)
  have hn : ∀ k, some k = v11.ownBlock → k ≠ o := fun k e => h.own11.1 k e.symm
  have ha := Kd.R_apartR h.own10 h.own11 (by simp [Kd.E, k44, Kd.iso, Kd.pair, Kd.int, Kd.scalar])
  exact ⟨blk_kept h.cl hK (fun e => (hn _ e) rfl), h.ho, Kd.R_mono (Kd.R_kept ha hK (fun k hk e => hk.2 e)) (fun k hk => hk.1), ho, hb⟩
end
set_option maxHeartbeats 4000000 in
set_option maxRecDepth 100000 in
theorem intervalmonlaw15_CodecCompact.calls (c : S44) (a1 a2 : Int) (w : World) (i0 : I64 c.f0) (i1 : I64 c.f1) (i2 : I64 c.f2) (i3 : I64 c.f3) (ha1 : I64 a1) (ha2 : I64 a2) (hG : Glob w) :
    Calls Tryd.prog 8 #[.agg #[.int .i64 c.f0, .int .i64 c.f1, .int .i64 c.f2, .int .i64 c.f3], .int .i64 a1, .int .i64 a2] w fun e w' => e = .returned (.bool true) ∧ Below w.heap.size w w' := by
  obtain ⟨z0, z1, z2, z3⟩ := c
  simp only [] at i0 i1 i2 i3
  go_enter Tryd.func8, Tryd.ntmps8
  go_upto_region 1 with (fail)
  have hP0 : Clm (w.alloc (.cells #[.int .i64 z0, .int .i64 z1, .int .i64 z2, .int .i64 z3] 44)) w.heap.size ⟨z0, z1, z2, z3⟩ := (show _ = _ by simpa using heap_alloc_new w (.cells #[.int .i64 z0, .int .i64 z1, .int .i64 z2, .int .i64 z3] 44))
  have hb1 : Below w.heap.size w (w.alloc (.cells #[.int .i64 z0, .int .i64 z1, .int .i64 z2, .int .i64 z3] 44)) := below_alloc (Below.refl _ w) _
  obtain ⟨q, hq⟩ : ∃ q, w.heap.size = q := ⟨_, rfl⟩
  rw [hq] at hP0 ⊢
  generalize w.alloc (.cells #[.int .i64 z0, .int .i64 z1, .int .i64 z2, .int .i64 z3] 44) = w1 at hP0 hb1 ⊢
  have hP0' := Aside0.mk hP0
  have hb1' := Aside0.mk hb1
  obtain ⟨x0_, x1_, x2_, x3_⟩ := hP0.cells
  have e0_ := World.new_ne w1 _ x0_
  have e2_ := World.new_ne w1 _ x2_
  have e3_ := World.new_ne w1 _ x3_
  clear hP0 hb1 x1_
  apply by_key
  · intro key
    go_region_held3 (fun w' => w'.cell? ⟨q, 0, none⟩ = some (.int .i64 z0) ∧ w'.cell? ⟨q, 2, none⟩ = some (.int .i64 z2) ∧ w'.cell? ⟨q, 3, none⟩ = some (.int .i64 z3)) (go_keep) (first | (go_at_call_of 43 (Value.int .i64 z0); refine (bound_still z0 1048576 _ (by decide) (by decide)).mono ?_; rintro e w9 ⟨rfl, rfl⟩) | (go_at_call_of 43 (Value.int .i64 z2); refine (bound_still z2 1073741824 _ (by decide) (by decide)).mono ?_; rintro e w9 ⟨rfl, rfl⟩) | (go_at_call_of 43 (Value.int .i64 z3); refine (bound_still z3 1073741824 _ (by decide) (by decide)).mono ?_; rintro e w9 ⟨rfl, rfl⟩))
    all_goals exact key
  clear x0_ x2_ x3_ e0_ e2_ e3_
  have bF := bound_in z0 1048576 i0 (by decide) (by decide)
  have bL := bound_in z2 1073741824 i2 (by decide) (by decide)
  have bH := bound_in z3 1073741824 i3 (by decide) (by decide)
  have bT := around_in z1 4096 i1 (by decide)
  have bs := bound_in a1 4096 ha1 (by decide) (by decide)
  have bn := around_in a2 64 ha2 (by decide)
  generalize boundV z0 1048576 = F at bF ⊢
  generalize boundV z2 1073741824 = Lo at bL ⊢
  generalize boundV z3 1073741824 = Hi at bH ⊢
  have bF' := Aside0.mk bF
  have bL' := Aside0.mk bL
  have bH' := Aside0.mk bH
  have bT' := Aside0.mk bT
  have bs' := Aside0.mk bs
  have bn' := Aside0.mk bn
  clear bF bL bH bT bs bn i0 i1 i2 i3 ha1 ha2
  have hC0 : Clm ((w1.alloc (.cells #[.int .i64 F, .int .i64 0, .int .i64 Lo, .int .i64 Hi] 44)).drew) w1.heap.size ⟨F, 0, Lo, Hi⟩ := blk_drew (show _ = _ by simpa using heap_alloc_new w1 (.cells #[.int .i64 F, .int .i64 0, .int .i64 Lo, .int .i64 Hi] 44))
  have hP2 : Clm ((w1.alloc (.cells #[.int .i64 F, .int .i64 0, .int .i64 Lo, .int .i64 Hi] 44)).drew) q ⟨z0, z1, z2, z3⟩ := blk_drew (blk_alloc hP0'.out _)
  have hb2 := Aside0.mk (below_drew1 (below_alloc hb1'.out (.cells #[.int .i64 F, .int .i64 0, .int .i64 Lo, .int .i64 Hi] 44)) : Below w.heap.size w ((w1.alloc (.cells #[.int .i64 F, .int .i64 0, .int .i64 Lo, .int .i64 Hi] 44)).drew))
  have hoq : w1.heap.size ≠ q := by have := blk_lt hP0'.out; omega
  have hho := hb1'.out.size
  generalize ((w1.alloc (.cells #[.int .i64 F, .int .i64 0, .int .i64 Lo, .int .i64 Hi] 44)).drew) = w2 at hC0 hP2 hb2 ⊢
  generalize w1.heap.size = o at hC0 hoq hho ⊢
  clear hP0' hb1' w1
  have hho' := Aside0.mk hho
  clear hho
  have hC1 : Clm w2.drew o ⟨F, 0, Lo, Hi⟩ := blk_drew hC0
  have hP3 : Clm w2.drew q ⟨z0, z1, z2, z3⟩ := blk_drew hP2
  have hb3 := Aside0.mk (below_drew1 hb2.out)
  obtain ⟨x0_, x1_, x2_, x3_⟩ := hP3.cells
  obtain ⟨y0_, y1_, y2_, y3_⟩ := hC1.cells
  have hof1 : w2.drew.frozen? ⟨o, 1, none⟩ = false := blk_frozen hC1 1
  go_upto_region 2 with (fail)
  refine wp_region_still_tail 7 (by kernel_rfl) (by kernel_rfl) ?_
  simp only [List.take_succ_cons, List.take_zero, List.drop_succ_cons, List.drop_zero]
  repeat still_step
  still_call (around_still z1 4096 w2.drew (by decide))
  repeat still_step
  try refine wpStill_nil ?_
  change wpList _ _ _ _ _ w2.drew
  have hC1' := Aside0.mk hC1
  clear hC0 hP2 hb2 hP3 x0_ x1_ x2_ x3_ hC1 hoq
  generalize w2.drew = w3 at hC1' hb3 hof1 y0_ y1_ y2_ y3_ ⊢
  go_upto_region 3 with (fail)
  generalize aroundV z1 4096 = T at bT' ⊢
  have eT : wrap64 (F + T) = F + T := by have := bF'.out; have := bT'.out; unfold wrap64; omega
  rw [eT]
  clear eT
  generalize IntKind.i64.wrap (F + T) = U31
  have hC4 : CN w (w3.setCell ⟨o, 1, none⟩ (.int .i64 (F + T))) o ⟨F, F + T, Lo, Hi⟩ (.slice none 0 0) (.slice none 0 0) [] [] :=
    ⟨(show _ = _ by simpa using blk_set hC1'.out 1 (.int .i64 (F + T))), hho'.out, Kd.R_nil _ _ _ _ _, Kd.R_nil _ _ _ _ _, below_set hb3.out hho'.out⟩
  generalize w3.setCell ⟨o, 1, none⟩ (.int .i64 (F + T)) = w4 at hC4 ⊢
  clear hC1' hb3 hof1 y0_ y1_ y2_ y3_ w3
  have hC4' := Aside0.mk hC4
  clear hC4
  go_wp2_with (fail)
  refine (bound_still a1 4096 w4 (by decide) (by decide)).mono ?_
  rintro e w5 ⟨rfl, rfl⟩
  generalize boundV a1 4096 = s at bs' ⊢
  go_wp2_with (fail)
  refine (around_still a2 64 w5 (by decide)).mono ?_
  rintro e w6 ⟨rfl, rfl⟩
  generalize aroundV a2 64 = r at bn' ⊢
  obtain ⟨n, hn⟩ : ∃ n : Nat, (n : Int) = 16 + r := ⟨(16 + r).toNat, by have := bn'.out; omega⟩
  have hnb : Aside0 (16 ≤ n ∧ n < 80) := ⟨by have := bn'.out; omega⟩
  have en : wrap64 (16 + r) = (n : Int) := by rw [← hn]; have := hnb.out; unfold wrap64; omega
  clear hn
  go_upto_region 5 with (fail)
  rw [en]
  clear en
  have e64 : wrap64 ((n : Int) + 64) = (n : Int) + 64 := by have := hnb.out; unfold wrap64; omega
  obtain ⟨LL, hLL⟩ : ∃ LL, reg s (n + 64) ⟨F, F + T, Lo, Hi⟩ = LL := ⟨_, rfl⟩
  obtain ⟨KK, hKK⟩ : ∃ KK, kreg s (n + 64) F = KK := ⟨_, rfl⟩
  have hLL' := Aside0.mk hLL
  have hKK' := Aside0.mk hKK
  clear hLL hKK
  go_wp2
  go_loopg [10, 11, 12] (n + 64) (fun kq v10 v11 v12 w' => ∃ (i : Nat) (x : S44) (out : List S44) (ko : List Int), v12 = .int .i64 (i : Int) ∧ Aside0 (CN w w' o x v10 v11 out ko) ∧ Aside0 (i + kq = n + 64 ∧ out.length = i ∧ ko.length = i) ∧ Aside0 (out ++ reg s kq x = LL ∧ ko ++ kreg s kq x.f0 = KK))
  case atStart => exact ⟨0, _, [], [], rfl, hC4', ⟨by simp⟩, ⟨hLL'.out, hKK'.out⟩⟩
  case round =>
    clear hC4'
    obtain ⟨i, x, out, ko, rfl, hC, hi, hL⟩ := hrel
    cases gk with
    | zero =>
      have cb : decide ((i : Int) < (n : Int) + 64) = false := decide_eq_false (by have := hi.out; omega)
      obtain rfl : out = LL := by have := hL.out.1; rw [reg, List.append_nil] at this; exact this
      obtain rfl : ko = KK := by have := hL.out.2; rw [kreg, List.append_nil] at this; exact this
      obtain ⟨A10, c10, rfl⟩ := Kd.R_slice hC.out.own10
      obtain ⟨A11, c11, rfl⟩ := Kd.R_slice hC.out.own11
      have k10 := Aside0.mk (Kd.R_reads' hC.out.own10).2
      have k11 := Aside0.mk (Kd.R_reads' hC.out.own11).2
      have hr := Aside0.mk hC.out.bel
      clear hC hL
      have q64 : IntKind.i64.wrap ((n : Int) + 64) = (n : Int) + 64 := by rw [i64_w]; exact e64
      go_upto_region 14 with (fail)
      have hll : out.length = n + 64 := by have := hi.out; omega
      have hkl : ko.length = n + 64 := by have := hi.out; omega
      have hcmp := compact s ⟨F, F + T, Lo, Hi⟩ n hnb.out.1 hnb.out.2
      have hkmp := kcompact s F n hnb.out.1 hnb.out.2
      have htk := reg_take s 64 n ⟨F, F + T, Lo, Hi⟩
      have hkk := kreg_take s 64 n F
      rw [hLL'.out] at hcmp htk
      rw [hKK'.out] at hkmp hkk
      rw [← htk] at hcmp
      rw [← hkk] at hkmp
      have henc : ∀ c, c ∈ out → encB c = true := by
        rw [← hLL'.out]
        have b1 := bF'.out
        have b2 := bT'.out
        have b3 := bL'.out
        have b4 := bH'.out
        have b5 := hnb.out
        refine small_reg s bs'.out (n + 64) _ ?_ ?_ ?_ ?_ <;> (simp only []; omega)
      have hsz : ∀ l : List S44, l.length ≤ 4096 → (∀ c, c ∈ l → encB c = true) → codec_Size.f 0 l = some ((claimsOf l).length : Int) := by
        intro l h1 h2
        show (codec_Encode.f 0 l).bind (fun bt187 => (some (bt187.1.length : Int))) = _
        rw [codec_Encode_res, encRes, if_neg (by omega), if_pos (List.all_eq_true.2 h2)]
        rfl
      have hS1 : ∀ W, Below wr.heap.size wr W → Calls Tryd.prog 42 #[.slice A10 (n + 64) c10] W fun e w' => e = .returned (.int .i64 ((claimsOf out).length : Int)) ∧ Below wr.heap.size wr w' := by
        intro W hW
        have h1 := codec_Size.calls 0 A10 c10 out _ W (Kd.C_below k10.out.2 hW) k10.out.1 ((hG.below hr.out).below hW) (hsz out (by have := hnb.out; omega) henc)
        rw [hll] at h1
        exact h1.mono (fun e w' h => ⟨h.1, below_then hW hW.size h.2⟩)
      have hS0 : ∀ W, Below wr.heap.size wr W → Calls Tryd.prog 42 #[.slice A10 n c10] W fun e w' => e = .returned (.int .i64 ((claimsOf (out.take n)).length : Int)) ∧ Below wr.heap.size wr w' := by
        intro W hW
        have hC := Kd.C_take (Kd.C_below k10.out.2 hW) (m := n) (by omega)
        have h1 := codec_Size.calls 0 A10 c10 (out.take n) _ W hC (by rw [List.length_take]; have := k10.out.1; omega) ((hG.below hr.out).below hW) (hsz _ (by rw [List.length_take]; have := hnb.out; omega) (fun c hc => henc c (List.mem_of_mem_take hc)))
        rw [List.length_take, show min n out.length = n by omega] at h1
        exact h1.mono (fun e w' h => ⟨h.1, below_then hW hW.size h.2⟩)
      have hI1 : ∀ W, Below wr.heap.size wr W → Calls Tryd.prog 17 #[.slice A11 (n + 64) c11] W fun e w' => ∃ A c, e = .returned (.slice A (intsOf ko).length c) ∧ Below wr.heap.size wr w' := by
        intro W hW
        have h1 := codec_Ints.calls 0 A11 c11 ko (intsOf ko) W (Kd.C_below k11.out.2 hW) k11.out.1 ((hG.below hr.out).below hW) (by rw [codec_Ints.f, if_pos (by have := hnb.out; omega)]; rfl)
        rw [hkl] at h1
        refine h1.mono (fun e w' h => ?_)
        obtain ⟨v, rfl, hR, hB⟩ := h
        obtain ⟨A, c, rfl⟩ := Kd.R_slice hR
        exact ⟨A, c, rfl, below_then hW hW.size hB⟩
      have hI0 : ∀ W, Below wr.heap.size wr W → Calls Tryd.prog 17 #[.slice A11 n c11] W fun e w' => ∃ A c, e = .returned (.slice A (intsOf (ko.take n)).length c) ∧ Below wr.heap.size wr w' := by
        intro W hW
        have hC := Kd.C_take (Kd.C_below k11.out.2 hW) (m := n) (by omega)
        have h1 := codec_Ints.calls 0 A11 c11 (ko.take n) (intsOf (ko.take n)) W hC (by rw [List.length_take]; have := k11.out.1; omega) ((hG.below hr.out).below hW) (by rw [codec_Ints.f, if_pos (by rw [List.length_take]; have := hnb.out; omega)]; rfl)
        rw [List.length_take, show min n ko.length = n by omega] at h1
        refine h1.mono (fun e w' h => ?_)
        obtain ⟨v, rfl, hR, hB⟩ := h
        obtain ⟨A, c, rfl⟩ := Kd.R_slice hR
        exact ⟨A, c, rfl, below_then hW hW.size hB⟩
      obtain ⟨X1, hX1⟩ : ∃ X1, (claimsOf out).length = X1 := ⟨_, rfl⟩
      obtain ⟨X0, hX0⟩ : ∃ X0, (claimsOf (out.take n)).length = X0 := ⟨_, rfl⟩
      obtain ⟨Y1, hY1⟩ : ∃ Y1, (intsOf ko).length = Y1 := ⟨_, rfl⟩
      obtain ⟨Y0, hY0⟩ : ∃ Y0, (intsOf (ko.take n)).length = Y0 := ⟨_, rfl⟩
      have hX1b : X1 ≤ 6000 := by have := claimsOf_len out; have := hnb.out; omega
      have hY1b : Y1 ≤ 100000 := by have := intsOf_len ko; have := hnb.out; omega
      have hX0b : X0 ≤ 6000 := by have := claimsOf_len (out.take n); have h2 := List.length_take (i := n) (l := out); have := hnb.out; omega
      rw [hX1] at hS1 hcmp
      rw [hX0] at hS0 hcmp
      rw [hY1] at hI1 hkmp
      rw [hY0] at hI0 hkmp
      obtain ⟨N, hN⟩ : ∃ N, n + 64 = N := ⟨_, rfl⟩
      rw [hN] at hS1 hI1
      have hS1' := Aside0.mk hS1
      have hS0' := Aside0.mk hS0
      have hI1' := Aside0.mk hI1
      have hI0' := Aside0.mk hI0
      obtain ⟨i07, hi07, _, hsz7, _⟩ := info_parts infoE
      obtain ⟨i08, hi08, _, hsz8, _⟩ := info_parts info3
      have n62 : IntKind.i64.wrap ((n : Int) + 62) = (n : Int) + 62 := by rw [i64_w]; have := hnb.out; unfold wrap64; omega
      have hcmp' := Aside0.mk hcmp
      have hkmp' := Aside0.mk hkmp
      have hb1' := Aside0.mk hX1b
      have hb0' := Aside0.mk hX0b
      have p1 : (0 : Int) ≤ (n : Int) + 64 := by omega
      have p2 : (n : Int) + 64 ≤ (out.length : Int) := by omega
      have p3 : (n : Int) ≤ (out.length : Int) := by omega
      have p4 : (n : Int) + 64 ≤ (ko.length : Int) := by omega
      have p5 : (n : Int) ≤ (ko.length : Int) := by omega
      have cut1 := cut_to (P := Tryd.prog) 45 44 .i64 Tryd.underlying45 hi07 A10 out.length c10 ((n : Int) + 64) p1 p2 k10.out.1
      have cut2 := cut_to (P := Tryd.prog) 45 44 .i64 Tryd.underlying45 hi07 A10 out.length c10 (n : Int) (Int.natCast_nonneg _) p3 k10.out.1
      have cut3 := cut_to (P := Tryd.prog) 22 3 .i64 Tryd.underlying22 hi08 A11 ko.length c11 ((n : Int) + 64) p1 p4 k11.out.1
      have cut4 := cut_to (P := Tryd.prog) 22 3 .i64 Tryd.underlying22 hi08 A11 ko.length c11 (n : Int) (Int.natCast_nonneg _) p5 k11.out.1
      rw [show ((n : Int) + 64).toNat = n + 64 by omega] at cut1 cut3
      rw [Int.toNat_natCast] at cut2 cut4
      rw [hN] at cut1 cut3
      clear hN
      have w72 : IntKind.i64.wrap ((X1 : Int) - (X0 : Int)) = (X1 : Int) - (X0 : Int) := by rw [i64_w]; unfold wrap64; omega
      have d73 : decide ((X1 : Int) - (X0 : Int) > 34) = false := decide_eq_false (by omega)
      have d73' : decide (34 < (X1 : Int) - (X0 : Int)) = false := decide_eq_false (by omega)
      have m82 : IntKind.i64.wrap (4 * ((n : Int) + 62)) = 4 * ((n : Int) + 62) := by rw [i64_w]; have := hnb.out; unfold wrap64; omega
      have t84 : Int.tdiv (4 * ((n : Int) + 62)) 8 = ((4 * (n + 62) / 8 : Nat) : Int) := by rw [Int.tdiv_eq_ediv_of_nonneg (by omega)]; omega
      have t84w : IntKind.i64.wrap (Int.tdiv (4 * ((n : Int) + 62)) 8) = Int.tdiv (4 * ((n : Int) + 62)) 8 := by rw [t84, i64_w]; have := hnb.out; unfold wrap64; omega
      have d84 : decide ((X1 : Int) < Int.tdiv (4 * ((n : Int) + 62)) 8) = false := decide_eq_false (by rw [t84]; omega)
      clear t84
      have w98 : IntKind.i64.wrap ((Y1 : Int) - (Y0 : Int)) = (Y1 : Int) - (Y0 : Int) := by rw [i64_w]; have := intsOf_len (ko.take n); have h2 := List.length_take (i := n) (l := ko); have := hnb.out; unfold wrap64; omega
      have d99 : decide ((Y1 : Int) - (Y0 : Int) > 10) = false := decide_eq_false (by omega)
      clear hY1b
      clear hcmp hkmp hX1 hX0 hY1 hY0 hS1 hS0 hI1 hI0 hX1b hX0b htk hkk henc hsz hsz7 hsz8 p1 p2 p3 p4 p5 hll hkl
      go_region_held3 (fun w' => Below wr.heap.size wr w') (first | assumption | (exact below_drew1 (Below.refl _ _))) (first | (go_at_call_of 42 (Value.slice A10 N c10); refine (hS1'.out _ (by assumption)).mono ?_; rintro e w9 ⟨rfl, hB⟩) | (go_at_call_of 42 (Value.slice A10 n c10); refine (hS0'.out _ (by assumption)).mono ?_; rintro e w9 ⟨rfl, hB⟩) | (go_at_call_of 17 (Value.slice A11 N c11); refine (hI1'.out _ (by assumption)).mono ?_; rintro e w9 ⟨A_, c_, rfl, hB⟩) | (go_at_call_of 17 (Value.slice A11 n c11); refine (hI0'.out _ (by assumption)).mono ?_; rintro e w9 ⟨A_, c_, rfl, hB⟩))
      all_goals
        have hbz := below_then hr.out hr.out.size hB
        have hGz := Aside0.mk (hG.below hbz)
        have hbz' := Aside0.mk hbz
        clear hS1' hS0' hI1' hI0' hcmp' hkmp' hb1' hb0' cut1 cut2 cut3 cut4 w72 d73 d73' m82 t84w d84 w98 d99 n62 k10 k11 hr hbz
        clear hi cb hLL' hKK' bF' bL' bH' bT' bs' bn' hnb q64 e64
        go_wp2_with (first | ((with_reducible refine gate_dst (N := 101) rfl ?_); refine Kd.R_make k44 (w0 := w9) w9.heap.size 44 ?hg (N := 101) ?hd 45 _ _ rfl 4097 ?hx ?hy Tryd.underlying45 (.agg #[(.int .i64 0), (.int .i64 0), (.int .i64 0), (.int .i64 0)]) 32 infoE rfl (by decide) (by decide) z44 (ok := fun _ => True) (okp := fun _ => True) (k44_mkM _ _ _ z44) (fun _ hk => hk) trivial (by decide) (by decide) (Below.refl _ _) (Nat.le_refl _) ?_; (case hd => rfl); (case hg => rfl); (case hx => rfl); (case hy => rfl); intro v13 w13 ho13 hb13 hg13 hn13; clear hg13 hn13))
        obtain ⟨L, hL⟩ : ∃ L, List.replicate (4097 : Int).toNat z44 = L := ⟨_, rfl⟩
        rw [hL] at ho13
        have hLl : L.length = 4097 := by rw [← hL]; exact List.length_replicate
        have hLe : ∀ c, c ∈ L → encB c = true := by
          intro c hc
          rw [← hL] at hc
          rw [(List.mem_replicate.1 hc).2]
          decide
        clear hL
        obtain ⟨A13, c13, rfl⟩ := Kd.R_slice ho13
        have k13 := Aside0.mk (Kd.R_reads' ho13).2
        have hG13 := Aside0.mk (hGz.out.below hb13)
        have hr13 := Aside0.mk (below_then hbz'.out hbz'.out.size hb13)
        have hE := codec_Encode.calls 0 A13 c13 L [] 4 w13 k13.out.2 k13.out.1 hG13.out (by rw [codec_Encode.f, if_pos (by omega)])
        have hdl : (L.drop 1).length = 4096 := by rw [List.length_drop, hLl]
        have hsz1 : codec_Size.f 0 L = some 0 := by
          show (codec_Encode.f 0 L).bind (fun bt187 => (some (bt187.1.length : Int))) = _
          rw [codec_Encode_res, encRes, if_pos (by omega)]
          rfl
        have hsz2 : codec_Size.f 0 (L.drop 1) = some ((claimsOf (L.drop 1)).length : Int) := by
          show (codec_Encode.f 0 (L.drop 1)).bind (fun bt187 => (some (bt187.1.length : Int))) = _
          rw [codec_Encode_res, encRes, if_neg (by omega), if_pos (List.all_eq_true.2 (fun c hc => hLe c (List.mem_of_mem_drop hc)))]
          rfl
        have hpos : 0 < (claimsOf (L.drop 1)).length := by
          rw [claimsOf, packL_length, List.length_append, codeBits, List.length_append, List.length_append]
          simp only [List.length_singleton]
          omega
        obtain ⟨Z, hZ⟩ : ∃ Z, (claimsOf (L.drop 1)).length = Z := ⟨_, rfl⟩
        rw [hZ] at hsz2 hpos
        have hcut := Kd.C_drop k13.out.2 (m := 1) (by omega) k13.out.1
        obtain ⟨i09, hi09, _, hsz9, _⟩ := info_parts infoE
        have cut9 := cut_from (P := Tryd.prog) 45 44 .i64 Tryd.underlying45 hi09 4 hsz9 A13 L.length c13 1 (by decide) (by omega)
        rw [show ((1 : Int).toNat) = 1 by decide] at cut9
        have hz1 : decide ((Z : Int) > 0) = true := decide_eq_true (by omega)
        have hz2 : decide (0 < Z) = true := decide_eq_true hpos
        have hcl : L.length - 1 ≤ c13 - 1 := by have := k13.out.1; omega
        have hdl2 : (L.drop 1).length = L.length - 1 := List.length_drop
        rw [hdl2] at hcut
        obtain ⟨A9, hA9⟩ : ∃ A9, (if c13 = 1 then A13 else A13.map (·.add (1 * 4))) = A9 := ⟨_, rfl⟩
        replace hcut : Kd.C k44 w13 (if c13 = 1 then A13 else A13.map (·.add (1 * 4))) (L.length - 1) (L.drop 1) := hcut
        rw [hA9] at hcut cut9
        have hcut' := Aside0.mk hcut
        have hsz1' := Aside0.mk hsz1
        have hsz2' := Aside0.mk hsz2
        have hcl' := Aside0.mk hcl
        have hdl2' := Aside0.mk hdl2
        clear hcut hsz1 hsz2 hcl hdl2 hdl hZ hLe hLl hpos ho13 hsz9 hA9
        refine hE.mono ?_
        clear hE
        rintro e w14 ⟨v14, rfl, hR14, hB14⟩
        replace hG13 := Aside0.mk (hG13.out.below hB14)
        replace hr13 := Aside0.mk (below_then hr13.out hr13.out.size hB14)
        replace k13 := Aside0.mk (⟨k13.out.1, Kd.C_below k13.out.2 hB14⟩ : L.length ≤ c13 ∧ Kd.C k44 w14 A13 L.length L)
        have hcut2 := Aside0.mk (Kd.C_below hcut'.out (below_then hb13 hb13.size hB14 |> fun h => (Below.refl w13.heap.size w13).trans hB14))
        clear hcut' hB14 hR14 hb13
        go_wp2_with (fail)
        refine (codec_Size.calls 0 A13 c13 L 0 w14 k13.out.2 k13.out.1 hG13.out hsz1'.out).mono ?_
        rintro e w15 ⟨rfl, hB15⟩
        replace hG13 := Aside0.mk (hG13.out.below hB15)
        replace hr13 := Aside0.mk (below_then hr13.out hr13.out.size hB15)
        replace hcut2 := Aside0.mk (Kd.C_below hcut2.out hB15)
        clear hB15 k13
        go_wp2_with (fail)
        have hS := codec_Size.calls 0 A9 (c13 - 1) (L.drop 1) Z w15 (by rw [hdl2'.out]; exact hcut2.out) (by rw [hdl2'.out]; exact hcl'.out) hG13.out hsz2'.out
        rw [hdl2'.out] at hS
        refine hS.mono ?_
        clear hS
        rintro e w16 ⟨rfl, hB16⟩
        replace hG13 := Aside0.mk (hG13.out.below hB16)
        replace hr13 := Aside0.mk (below_then hr13.out hr13.out.size hB16)
        clear hB16 hcut2 hsz1' hsz2' hcl' hdl2' cut9
        go_wp2_with (fail)
        refine (intervalmonlaw15_lives.calls w16 hG13.out).mono ?_
        rintro e w17 ⟨rfl, hB17⟩
        go_wp2
        go_ret
        exact ⟨rfl, below_then hr13.out hr13.out.size hB17⟩
    | succ m =>
      have cb : decide ((i : Int) < (n : Int) + 64) = true := decide_eq_true (by have := hi.out; omega)
      have cb2 : decide (i < n + 64) = true := decide_eq_true (by have := hi.out; omega)
      have hi1 : wrap64 ((i : Int) + 1) = ((i + 1 : Nat) : Int) := by have := hi.out; have := hnb.out; unfold wrap64; omega
      obtain ⟨x0_, x1_, x2_, x3_⟩ := hC.out.cl.cells
      go_upto_region 11 with (first | ((with_reducible refine gate_builtin (b := .append) (xs := #[.tmp 44, .tmp 46]) rfl ?_); at_builtin; refine Kd.R_append k44 (w0 := w) w.heap.size rfl (.tmp 44) (.tmp 46) 45 44 (.agg #[.int .i64 0, .int .i64 0, .int .i64 0, .int .i64 0]) 32 rfl Tryd.underlying45 infoE rfl (by decide) (by omega) u10 out x [.int .i64 x.f0, .int .i64 x.f1, .int .i64 x.f2, .int .i64 x.f3] (fun k => k ≠ o) (fun _ => False) rfl rfl (k44_mkM _ _ _ x) (fun _ hk => hk.elim) ?aF hC.out.own10 hC.out.bel hC.out.bel.size (by have := hi.out; have := hnb.out; omega) ?_; (case aF => intro k_ hk; have h2 := blk_lt hC.out.cl; omega); intro v7 w7 ho7 hb7 hg7 hat7; have hD := Aside0.mk (hC.out.app10 ho7 hb7 hg7); clear ho7 hb7 hg7 hat7))
      clear x0_ x1_ x2_ x3_
      obtain ⟨x0_, x1_, x2_, x3_⟩ := hD.out.cl.cells
      go_upto_region 12 with (first | ((with_reducible refine gate_builtin (b := .append) (xs := #[.tmp 48, .tmp 51]) rfl ?_); at_builtin; refine Kd.R_append (Kd.int .i64) (w0 := w) w.heap.size rfl (.tmp 48) (.tmp 51) 22 3 (.int .i64 0) 8 rfl Tryd.underlying22 info3 rfl (by decide) (by omega) u11 ko x.f0 [.int .i64 x.f0] (fun k => k ≠ o) (fun _ => False) rfl rfl rfl (fun _ hk => hk.elim) ?aF hD.out.own11 hD.out.bel hD.out.bel.size (by have := hi.out; have := hnb.out; omega) ?_; (case aF => intro k_ hk; have h2 := blk_lt hD.out.cl; omega); intro v8 w8 ho8 hb8 hg8 hat8; have hE := Aside0.mk (hD.out.app11 ho8 hb8 hg8); clear ho8 hb8 hg8 hat8))
      clear x0_ x1_ x2_ x3_ hD hC
      obtain ⟨x0_, x1_, x2_, x3_⟩ := hE.out.cl.cells
      have hof := blk_frozen hE.out.cl
      go_upto_region 13 with (fail)
      obtain ⟨F1, hF1⟩ : ∃ F1, wrap64 (x.f0 + s) = F1 := ⟨_, rfl⟩
      rw [hF1]
      replace hF1 := Aside0.mk hF1
      have hG1 : CN w (w8.setCell ⟨o, 0, none⟩ (.int .i64 F1)) o ⟨F1, x.f1, x.f2, x.f3⟩ v7 v8 (out ++ [x]) (ko ++ [x.f0]) := hE.out.set (show _ = _ by simpa using blk_set hE.out.cl 0 (.int .i64 F1))
      generalize w8.setCell ⟨o, 0, none⟩ (.int .i64 F1) = w9 at hG1 ⊢
      clear hE x0_ x1_ x2_ x3_ hof
      have hG1' := Aside0.mk hG1
      clear hG1
      obtain ⟨x0_, x1_, x2_, x3_⟩ := hG1'.out.cl.cells
      try simp only [] at x0_ x1_ x2_ x3_
      have hof := blk_frozen hG1'.out.cl
      go_upto_region 9 with (fail)
      obtain ⟨T1, hT1⟩ : ∃ T1, wrap64 (x.f1 + s) = T1 := ⟨_, rfl⟩
      rw [hT1]
      have hH : CN w (w9.setCell ⟨o, 1, none⟩ (.int .i64 T1)) o ⟨F1, T1, x.f2, x.f3⟩ v7 v8 (out ++ [x]) (ko ++ [x.f0]) := hG1'.out.set (show _ = _ by simpa using blk_set hG1'.out.cl 1 (.int .i64 T1))
      have hst : (⟨F1, T1, x.f2, x.f3⟩ : S44) = stepC s x := by rw [← hF1.out, ← hT1]; rfl
      rw [hst] at hH
      generalize w9.setCell ⟨o, 1, none⟩ (.int .i64 T1) = w10 at hH ⊢
      clear hG1' x0_ x1_ x2_ x3_ hof hst hT1 hF1
      have hH' := Aside0.mk hH
      clear hH
      go_wp2
      go_roundg m
      case measure => omega
      case rel => exact ⟨i + 1, stepC s x, out ++ [x], ko ++ [x.f0], by first | rfl | simp [*], hH', ⟨by have := hi.out; simp; omega⟩, ⟨by rw [List.append_assoc]; exact hL.out.1, by rw [List.append_assoc]; exact hL.out.2⟩⟩
end Go.Proofs.YtblbieenfghbdaaDoor.E
