/- The call of codec.Encode comes to what codec_Encode.f gives, in new memory. -/
import Derived.Test.YtblbieenfghbdaaDoorKf
namespace Go.Proofs.YtblbieenfghbdaaDoor.E
open Go.RowKit Go.Proofs.YtblbieenfghbdaaDoor.D Go.Proofs.YtblbieenfghbdaaDoorW.PrintWords Go.Proofs.YtblbieenfghbdaaDoorW.PrintLast Go.Proofs.YtblbieenfghbdaaDoorW.PrintMore
set_option linter.unusedVariables false
set_option linter.unusedSimpArgs false
/-- The bytes of a list of claims, or the error. -/
def codec_Encode.f (k : Nat) (l0 : List (S44)) : Option (List Int × Int) :=
  if 4096 < l0.length then some ([], 4) else if l0.all encB = true then some (claimsOf l0, 0) else some ([], 5)
theorem codec_Encode.mono (l0 : List S44) (k : Nat) : LeO (codec_Encode.f k l0) (codec_Encode.f (k + 1) l0) := LeO.refl _
/-- A claim's cells in a block. -/
def Clm (W : World) (o : Nat) (x : S44) : Prop := W.heap[o]? = some (.cells #[.int .i64 x.f0, .int .i64 x.f1, .int .i64 x.f2, .int .i64 x.f3] 44 (0, 0))
theorem Clm.cells {W : World} {o : Nat} {x : S44} (h : Clm W o x) : W.cell? ⟨o, 0, none⟩ = some (.int .i64 x.f0) ∧ W.cell? ⟨o, 1, none⟩ = some (.int .i64 x.f1) ∧ W.cell? ⟨o, 2, none⟩ = some (.int .i64 x.f2) ∧ W.cell? ⟨o, 3, none⟩ = some (.int .i64 x.f3) :=
  ⟨(blk_cell h 0).trans rfl, (blk_cell h 1).trans rfl, (blk_cell h 2).trans rfl, (blk_cell h 3).trans rfl⟩
theorem Clm.below {W W1 : World} {o : Nat} {x : S44} (h : Clm W o x) (hb : Below W.heap.size W W1) : Clm W1 o x := (hb.block o (blk_lt h)).trans h
/-- The writer, the trend and the claim before. -/
structure EN (w W : World) (g p o : Nat) (β : List Bool) (s : CSt) (x : S44) : Prop where
  wr : WrB w W g β
  tr : IsS104 w W p s.a s.b
  od : Clm W o x
  ho : w.heap.size ≤ o
  ln : s.ln = wrap64 (x.f1 - x.f0)
  lo : s.lo = x.f2
  wd : s.wd = wrap64 (x.f3 - x.f2)
/-- The writer, the trend, the claim before and the claim of a round. -/
structure EP (w W : World) (g p o q : Nat) (β : List Bool) (a b : Int) (x z : S44) : Prop where
  wr : WrB w W g β
  tr : IsS104 w W p a b
  od : Clm W o x
  cl : Clm W q z
theorem Clm.keepT {W W1 : World} {g o : Nat} {β : List Bool} {x : S44} {w : World} (h : Clm W o x) (hw : WrB w W g β) (hk : KeepT W W1 g) : Clm W1 o x := by
  obtain ⟨v, n, hb⟩ := hw.block
  exact hk.blk h hb (by decide) (by decide)
theorem EP.put {w W W1 : World} {g p o q : Nat} {β β' : List Bool} {a b : Int} {x z : S44} (h : EP w W g p o q β a b x z) (hw : WrB w W1 g β') (hk : KeepT W W1 g) : EP w W1 g p o q β' a b x z := by
  obtain ⟨v, n, hb⟩ := h.wr.block
  exact ⟨hw, ⟨hk.blk h.tr.1 hb (by decide) (by decide), h.tr.2⟩, h.od.keepT h.wr hk, h.cl.keepT h.wr hk⟩
theorem Clm.ne104 {W : World} {o p : Nat} {x : S44} {a b : Value} (h : Clm W o x) (hp : W.heap[p]? = some (.cells #[a, b] 104 (0, 0))) : o ≠ p := fun e => by
  have h2 : W.heap[o]? = _ := h
  rw [e, hp] at h2
  injection h2 with h2
  injection h2 with _ h2
  exact absurd h2 (by decide)
theorem EP.code {w W W1 : World} {g p o q : Nat} {β : List Bool} {a b a' b' : Int} {x z : S44} (h : EP w W g p o q β a b x z) (ht : IsS104 w W1 p a' b') (hk : KeepBut W W1 p none) (hb : Below w.heap.size w W1) : EP w W1 g p o q β a' b' x z :=
  ⟨h.wr.keepBut h.tr.1 (by decide) (by decide) hk hb, ht, hk.blk h.od (h.od.ne104 h.tr.1) (by simp), hk.blk h.cl (h.cl.ne104 h.tr.1) (by simp)⟩
/-- A claim is written over the claim before. -/
theorem EP.store {w W : World} {g p o q : Nat} {β : List Bool} {a b : Int} {x z : S44} (h : EP w W g p o q β a b x z) (ho : w.heap.size ≤ o) (z0 z1 z2 z3 : Int) :
    WrB w ((((W.setCell ⟨o, 0, none⟩ (.int .i64 z0)).setCell ⟨o, 1, none⟩ (.int .i64 z1)).setCell ⟨o, 2, none⟩ (.int .i64 z2)).setCell ⟨o, 3, none⟩ (.int .i64 z3)) g β ∧
    IsS104 w ((((W.setCell ⟨o, 0, none⟩ (.int .i64 z0)).setCell ⟨o, 1, none⟩ (.int .i64 z1)).setCell ⟨o, 2, none⟩ (.int .i64 z2)).setCell ⟨o, 3, none⟩ (.int .i64 z3)) p a b ∧
    Clm ((((W.setCell ⟨o, 0, none⟩ (.int .i64 z0)).setCell ⟨o, 1, none⟩ (.int .i64 z1)).setCell ⟨o, 2, none⟩ (.int .i64 z2)).setCell ⟨o, 3, none⟩ (.int .i64 z3)) o ⟨z0, z1, z2, z3⟩ := by
  have hk := (((((KeepBut.refl W o none).set_ 0 (.int .i64 z0)).set_ 1 (.int .i64 z1)).set_ 2 (.int .i64 z2)).set_ 3 (.int .i64 z3))
  have hb := below_set (below_set (below_set (below_set h.wr.bel ho (j := 0) (v := .int .i64 z0)) ho (j := 1) (v := .int .i64 z1)) ho (j := 2) (v := .int .i64 z2)) ho (j := 3) (v := .int .i64 z3)
  refine ⟨h.wr.keepBut h.od (by decide) (by decide) hk hb, ⟨hk.blk h.tr.1 (fun e => h.od.ne104 h.tr.1 e.symm) (by simp), h.tr.2⟩, ?_⟩
  have s0 : (W.setCell ⟨o, 0, none⟩ (.int .i64 z0)).heap[o]? = some (.cells #[.int .i64 z0, .int .i64 x.f1, .int .i64 x.f2, .int .i64 x.f3] 44 (0, 0)) := by simpa using blk_set h.od 0 (.int .i64 z0)
  have s1 : ((W.setCell ⟨o, 0, none⟩ (.int .i64 z0)).setCell ⟨o, 1, none⟩ (.int .i64 z1)).heap[o]? = some (.cells #[.int .i64 z0, .int .i64 z1, .int .i64 x.f2, .int .i64 x.f3] 44 (0, 0)) := by simpa using blk_set s0 1 (.int .i64 z1)
  have s2 : (((W.setCell ⟨o, 0, none⟩ (.int .i64 z0)).setCell ⟨o, 1, none⟩ (.int .i64 z1)).setCell ⟨o, 2, none⟩ (.int .i64 z2)).heap[o]? = some (.cells #[.int .i64 z0, .int .i64 z1, .int .i64 z2, .int .i64 x.f3] 44 (0, 0)) := by simpa using blk_set s1 2 (.int .i64 z2)
  exact (show _ = _ by simpa using blk_set s2 3 (.int .i64 z3))
theorem oneBits_length (s : CSt) (c : S44) : (oneBits s c).length ≤ 280 := by
  have h1 := codeBits_length (wrap64 (wrap64 (c.f0 - s.a) - s.b))
  have h2 := codeBits_length (wrap64 (wrap64 (c.f1 - c.f0) - s.ln))
  have h3 := codeBits_length (wrap64 (c.f2 - s.lo))
  have h4 := codeBits_length (wrap64 (wrap64 (c.f3 - c.f2) - s.wd))
  simp only [oneBits, List.length_append]
  omega
set_option maxHeartbeats 4000000 in
set_option maxRecDepth 100000 in
theorem codec_Encode.calls (k : Nat) (A0 : Option Addr) (c0 : Nat) (l0 : List (S44)) (r1 : List Int) (r2 : Int) (w : World) (hr0 : Kd.C k44 w A0 l0.length l0) (hc0 : l0.length ≤ c0) (hG : Glob w) (h : codec_Encode.f k l0 = some (r1, r2)) :
    Calls Tryd.prog 39 #[.slice A0 l0.length c0] w fun e w' => ∃ v0_ : Value, e = .returned (.tuple #[v0_, .int .i64 r2]) ∧ Kd.R (Kd.int .u8) 5 w' w.heap.size (fun _ => True) v0_ r1 ∧ Below w.heap.size w w' := by
  unfold codec_Encode.f at h
  have hlen : l0.length ≤ 9223372036854775807 := hr0.2.1
  by_cases hl : 4096 < l0.length
  · rw [if_pos hl] at h
    simp only [Option.some.injEq, Prod.mk.injEq] at h
    obtain ⟨rfl, rfl⟩ := h
    have c1 : decide ((l0.length : Int) > 4096) = true := decide_eq_true (by omega)
    have c2 : decide (l0.length > 4096) = true := decide_eq_true (by omega)
    go_enter Tryd.func39, Tryd.ntmps39
    go_wp2
    go_ret2
    exact ⟨_, rfl, Kd.R_nil _ _ _ _ (fun _ => True), Below.refl _ _⟩
  rw [if_neg hl] at h
  have c1 : decide ((l0.length : Int) > 4096) = false := decide_eq_false (by omega)
  have c2 : decide (l0.length > 4096) = false := decide_eq_false (by omega)
  have hl2 : l0.length ≤ 4096 := by omega
  have H := Aside0.mk h
  have hr0' := Aside0.mk hr0
  clear h hl hr0
  go_enter Tryd.func39, Tryd.ntmps39
  go_upto_region 4 with (fail)
  have hW : WrB w (w.alloc (.cells #[.slice none 0 0, .int .i64 0] 100)) w.heap.size [] :=
    ⟨.slice none 0 0, by simpa using heap_alloc_new w _, Nat.le_refl _, Kd.R_nil _ _ _ _ _, below_alloc (Below.refl _ _) _⟩
  generalize hg_ : w.heap.size = g at hW ⊢
  replace hg_ := Aside0.mk hg_
  generalize w.alloc (.cells #[.slice none 0 0, .int .i64 0] 100) = w1 at hW ⊢
  have hW1 := Aside0.mk hW
  clear hW
  go_upto_region 5 with (first | (go_at_call 63; refine (codec_put.calls g [] (l0.length : Int) w w1 hW1.out hG (by simp)).mono ?_; rintro e w2 ⟨rfl, hW2, hk2⟩))
  rw [List.nil_append] at hW2
  clear hW1 hk2
  have hT : IsS104 w (w2.alloc (.cells #[.int .i64 0, .int .i64 0] 104)) w2.heap.size 0 0 := ⟨by simpa using heap_alloc_new w2 _, hW2.bel.size⟩
  have hW3 := hW2.below (below_alloc (Below.refl _ _) (.cells #[.int .i64 0, .int .i64 0] 104))
  go_upto_region 6 with (fail)
  generalize w2.heap.size = p at hT ⊢
  generalize w2.alloc (.cells #[.int .i64 0, .int .i64 0] 104) = w3 at hT hW3 ⊢
  clear hW2
  have hE0 : EN w (w3.alloc (.cells #[.int .i64 0, .int .i64 0, .int .i64 0, .int .i64 0] 44)) g p w3.heap.size (codeBits (l0.length : Int)) CSt.zero ⟨0, 0, 0, 0⟩ :=
    ⟨hW3.below (below_alloc (Below.refl _ _) _), ⟨blk_alloc hT.1 _, hT.2⟩, (show _ = _ by simpa using heap_alloc_new w3 (.cells #[.int .i64 0, .int .i64 0, .int .i64 0, .int .i64 0] 44)), hW3.bel.size, by simp [CSt.zero, wrap64], rfl, by simp [CSt.zero, wrap64]⟩
  go_upto_region 7 with (fail)
  generalize w3.heap.size = o at hE0 ⊢
  generalize w3.alloc (.cells #[.int .i64 0, .int .i64 0, .int .i64 0, .int .i64 0] 44) = w4 at hE0 ⊢
  have hE := Aside0.mk hE0
  clear hE0 hT hW3
  have hcb := Aside0.mk (codeBits_length (l0.length : Int))
  obtain ⟨T, hT⟩ : ∃ T, codeBits (l0.length : Int) ++ claimBits CSt.zero l0 = T := ⟨_, rfl⟩
  replace hT := Aside0.mk hT
  have hT' := hT
  go_wp2
  go_loopg [8, 17] l0.length (fun kq v8 v17 w' => ∃ (i : Nat) (β : List Bool) (s : CSt) (x : S44), v17 = .int .i64 (i : Int) ∧ Aside0 (i + kq = l0.length) ∧ Aside0 (EN w w' g p o β s x) ∧ Aside0 (β ++ claimBits s (l0.drop i) = T) ∧ Aside0 (β.length ≤ 280 * (i + 1)) ∧ Aside0 ((l0.drop i).all encB = l0.all encB))
  case atStart => exact ⟨0, _, _, _, rfl, ⟨by omega⟩, hE, hT, ⟨by have := hcb.out; omega⟩, ⟨rfl⟩⟩
  case round =>
    clear hE hT hcb
    obtain ⟨i, β, s, x, rfl, hi, hE, hβ, hlen, hall⟩ := hrel
    cases gk with
    | zero =>
      have e1 : i = l0.length := by have := hi.out; omega
      have d1 : decide ((i : Int) < (l0.length : Int)) = false := decide_eq_false (by omega)
      have d2 : decide (i < l0.length) = false := decide_eq_false (by omega)
      have hβ2 : β = T := by
        have h := hβ.out
        rw [e1, List.drop_length, claimBits, List.append_nil] at h
        exact h
      have hal : l0.all encB = true := by rw [← hall.out, e1, List.drop_length]; rfl
      have h := H.out
      rw [if_pos hal] at h
      simp only [Option.some.injEq, Prod.mk.injEq] at h
      obtain ⟨hr1, rfl⟩ := h
      replace hr1 := Aside0.mk hr1
      replace e1 := Aside0.mk e1
      replace hβ2 := Aside0.mk hβ2
      clear hal
      go_wp2_with (fail)
      refine (bits_Writer_Done.calls g β w wr hE.out.wr (by have := hlen.out; have := e1.out; omega)).mono ?_
      rintro e w5 ⟨v, rfl, hR, hB⟩
      go_wp2
      go_ret2
      have hb := hE.out.wr.bel
      exact ⟨v, rfl, by rw [← hr1.out, claimsOf, hT'.out, ← hβ2.out]; exact Kd.R_lower hR hb.size, below_then hb hb.size hB⟩
    | succ m =>
      have p0 : (0 : Int) ≤ (i : Int) := by omega
      have q0 : (i : Int) < (l0.length : Int) := by have := hi.out; omega
      have d1 : decide ((i : Int) < (l0.length : Int)) = true := decide_eq_true q0
      have d2 : decide (i < l0.length) = true := decide_eq_true (by omega)
      have d3 : i < l0.length := by omega
      obtain ⟨ad, e, y0, y1, y2, y3⟩ := at_T44 (Kd.C_below hr0'.out hE.out.wr.bel) (i : Int) p0 q0
      subst e
      rw [Int.toNat_natCast] at y0 y1 y2 y3
      have hdrop : l0.drop i = rd_T44 l0 (i : Int) :: l0.drop (i + 1) := by
        rw [List.drop_eq_getElem_cons d3, rd_T44, Int.toNat_natCast, List.getD_eq_getElem?_getD, List.getElem?_eq_getElem d3]; rfl
      have hβ' := hβ.out
      have hall' := hall.out
      rw [hdrop, claimBits, ← List.append_assoc] at hβ'
      rw [hdrop, List.all_cons] at hall'
      obtain ⟨⟨z0, z1, z2, z3⟩, hc⟩ : ∃ c, rd_T44 l0 (i : Int) = c := ⟨_, rfl⟩
      rw [hc] at y0 y1 y2 y3 hβ' hall'
      simp only [] at y0 y1 y2 y3
      replace hβ' := Aside0.mk hβ'
      replace hall' := Aside0.mk hall'
      have hob := Aside0.mk (oneBits_length s ⟨z0, z1, z2, z3⟩)
      clear hc hdrop hβ hall
      have hi1 : wrap64 ((i : Int) + 1) = (i : Int) + 1 := by unfold wrap64; omega
      go_upto_region 10 with (fail)
      have hBa : Below wr.heap.size wr (wr.alloc (.cells #[.int .i64 z0, .int .i64 z1, .int .i64 z2, .int .i64 z3] 44)) := below_alloc (Below.refl _ _) _
      have hP0 : EP w (wr.alloc (.cells #[.int .i64 z0, .int .i64 z1, .int .i64 z2, .int .i64 z3] 44)) g p o wr.heap.size β s.a s.b x ⟨z0, z1, z2, z3⟩ :=
        ⟨hE.out.wr.below hBa, ⟨blk_alloc hE.out.tr.1 _, hE.out.tr.2⟩, hE.out.od.below hBa, (show _ = _ by simpa using heap_alloc_new wr (.cells #[.int .i64 z0, .int .i64 z1, .int .i64 z2, .int .i64 z3] 44))⟩
      have hln := Aside0.mk hE.out.ln
      have hlo := Aside0.mk hE.out.lo
      have hwd := Aside0.mk hE.out.wd
      have hho := hE.out.ho
      generalize wr.heap.size = q at hP0 ⊢
      generalize wr.alloc (.cells #[.int .i64 z0, .int .i64 z1, .int .i64 z2, .int .i64 z3] 44) = w5 at hP0 ⊢
      obtain ⟨q0_, q1_, q2_, q3_⟩ := hP0.cl.cells
      have hP := Aside0.mk hP0
      clear hP0 hBa y0 y1 y2 y3 hE
      go_wp2_with (fail)
      refine (codec_encodable.calls z0 z1 z2 z3 w5).mono ?_
      rintro e w6 ⟨rfl, hB6⟩
      have hP6 : EP w w6 g p o q β s.a s.b x ⟨z0, z1, z2, z3⟩ := ⟨hP.out.wr.below hB6, ⟨(hB6.block p (blk_lt hP.out.tr.1)).trans hP.out.tr.1, hP.out.tr.2⟩, hP.out.od.below hB6, hP.out.cl.below hB6⟩
      clear hP q0_ q1_ q2_ q3_ hB6 w5
      cases he : encB ⟨z0, z1, z2, z3⟩ with
      | false =>
        have h := H.out
        have hna : l0.all encB = false := by rw [← hall'.out, he]; rfl
        rw [if_neg (by rw [hna]; simp)] at h
        simp only [Option.some.injEq, Prod.mk.injEq] at h
        obtain ⟨rfl, rfl⟩ := h
        have hb := hP6.wr.bel
        clear hP6 he hna
        go_wp2
        go_ret2
        exact ⟨_, rfl, Kd.R_nil _ _ _ _ (fun _ => True), hb⟩
      | true =>
        replace he := Aside0.mk he
        obtain ⟨q0_, q1_, q2_, q3_⟩ := hP6.cl.cells
        have hP := Aside0.mk hP6
        clear hP6
        have hlb : β.length < 549755813000 := by have := hlen.out; omega
        go_wp2_with (fail)
        refine (codec_trend_code.calls p s.a s.b z0 (wrap64 (wrap64 (z0 - s.a) - s.b)) z0 (wrap64 (z0 - s.a)) w w6 hP.out.tr hP.out.wr.bel rfl).mono ?_
        rintro e w7 ⟨rfl, hT7, hB7, hK7⟩
        replace hP := Aside0.mk (hP.out.code hT7 hK7 hB7)
        clear hT7 hB7 hK7 q0_ q1_ q2_ q3_ w6
        go_wp2_with (fail)
        refine (codec_put.calls g β (wrap64 (wrap64 (z0 - s.a) - s.b)) w w7 hP.out.wr hG hlb).mono ?_
        rintro e w8 ⟨rfl, hW8, hk8⟩
        replace hP := Aside0.mk (hP.out.put hW8 hk8)
        clear hW8 hk8 w7
        obtain ⟨q0_, q1_, q2_, q3_⟩ := hP.out.cl.cells
        obtain ⟨x0_, x1_, x2_, x3_⟩ := hP.out.od.cells
        have hcl1 := codeBits_length (wrap64 (wrap64 (z0 - s.a) - s.b))
        go_wp2_with (fail)
        refine (codec_put.calls g (β ++ codeBits (wrap64 (wrap64 (z0 - s.a) - s.b))) (wrap64 (wrap64 (z1 - z0) - wrap64 (x.f1 - x.f0))) w w8 hP.out.wr hG (by rw [List.length_append]; have := hlen.out; omega)).mono ?_
        rintro e w9 ⟨rfl, hW8, hk8⟩
        replace hP := Aside0.mk (hP.out.put hW8 hk8)
        clear hW8 hk8 q0_ q1_ q2_ q3_ x0_ x1_ x2_ x3_ w8
        obtain ⟨q0_, q1_, q2_, q3_⟩ := hP.out.cl.cells
        obtain ⟨x0_, x1_, x2_, x3_⟩ := hP.out.od.cells
        go_wp2_with (fail)
        have hcl2 := codeBits_length (wrap64 (wrap64 (z1 - z0) - wrap64 (x.f1 - x.f0)))
        refine (codec_put.calls g (β ++ codeBits (wrap64 (wrap64 (z0 - s.a) - s.b)) ++ codeBits (wrap64 (wrap64 (z1 - z0) - wrap64 (x.f1 - x.f0)))) (wrap64 (z2 - x.f2)) w w9 hP.out.wr hG (by rw [List.length_append, List.length_append]; have := hlen.out; omega)).mono ?_
        rintro e w10 ⟨rfl, hW8, hk8⟩
        replace hP := Aside0.mk (hP.out.put hW8 hk8)
        clear hW8 hk8 q0_ q1_ q2_ q3_ x0_ x1_ x2_ x3_ w9
        obtain ⟨q0_, q1_, q2_, q3_⟩ := hP.out.cl.cells
        obtain ⟨x0_, x1_, x2_, x3_⟩ := hP.out.od.cells
        go_wp2_with (fail)
        have hcl3 := codeBits_length (wrap64 (z2 - x.f2))
        refine (codec_put.calls g (β ++ codeBits (wrap64 (wrap64 (z0 - s.a) - s.b)) ++ codeBits (wrap64 (wrap64 (z1 - z0) - wrap64 (x.f1 - x.f0))) ++ codeBits (wrap64 (z2 - x.f2))) (wrap64 (wrap64 (z3 - z2) - wrap64 (x.f3 - x.f2))) w w10 hP.out.wr hG (by rw [List.length_append, List.length_append, List.length_append]; have := hlen.out; omega)).mono ?_
        rintro e w11 ⟨rfl, hW8, hk8⟩
        replace hP := Aside0.mk (hP.out.put hW8 hk8)
        clear hW8 hk8 q0_ q1_ q2_ q3_ x0_ x1_ x2_ x3_ w10
        obtain ⟨q0_, q1_, q2_, q3_⟩ := hP.out.cl.cells
        obtain ⟨x0_, x1_, x2_, x3_⟩ := hP.out.od.cells
        have hof := blk_frozen hP.out.od
        go_upto_region 17 with (fail)
        obtain ⟨hS1, hS2, hS3⟩ := hP.out.store hho z0 z1 z2 z3
        generalize (((w11.setCell ⟨o, 0, none⟩ (.int .i64 z0)).setCell ⟨o, 1, none⟩ (.int .i64 z1)).setCell ⟨o, 2, none⟩ (.int .i64 z2)).setCell ⟨o, 3, none⟩ (.int .i64 z3) = w12 at hS1 hS2 hS3 ⊢
        have hfin : EN w w12 g p o (β ++ oneBits s ⟨z0, z1, z2, z3⟩) (s.next ⟨z0, z1, z2, z3⟩) ⟨z0, z1, z2, z3⟩ := by
          refine ⟨?_, hS2, hS3, hho, rfl, rfl, rfl⟩
          have e : oneBits s ⟨z0, z1, z2, z3⟩ = codeBits (wrap64 (wrap64 (z0 - s.a) - s.b)) ++ (codeBits (wrap64 (wrap64 (z1 - z0) - wrap64 (x.f1 - x.f0))) ++ (codeBits (wrap64 (z2 - x.f2)) ++ codeBits (wrap64 (wrap64 (z3 - z2) - wrap64 (x.f3 - x.f2))))) := by
            rw [oneBits, hln.out, hlo.out, hwd.out]
          rw [e, ← List.append_assoc, ← List.append_assoc, ← List.append_assoc]
          exact hS1
        have hfin' := Aside0.mk hfin
        clear hfin hS1 hS2 hS3 hP q0_ q1_ q2_ q3_ x0_ x1_ x2_ x3_ hof hcl1 hcl2 hcl3 hlb hln hlo hwd w11
        go_wp2
        go_roundg m
        case measure => omega
        case rel => exact ⟨i + 1, β ++ oneBits s ⟨z0, z1, z2, z3⟩, s.next ⟨z0, z1, z2, z3⟩, ⟨z0, z1, z2, z3⟩, by first | rfl | simp [*], ⟨by have := hi.out; omega⟩, hfin', hβ', ⟨by rw [List.length_append]; have := hob.out; have := hlen.out; omega⟩, ⟨by rw [← hall'.out, he.out, Bool.true_and]⟩⟩
end Go.Proofs.YtblbieenfghbdaaDoor.E
