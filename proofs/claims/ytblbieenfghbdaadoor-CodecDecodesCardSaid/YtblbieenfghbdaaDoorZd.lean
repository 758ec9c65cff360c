/- The call of law 15's CodecDecodes gives true, whatever it is handed. -/
import Derived.Test.YtblbieenfghbdaaDoorPq
import Derived.Test.YtblbieenfghbdaaDoorPy
import Derived.Test.YtblbieenfghbdaaDoorKk
namespace Go.Proofs.YtblbieenfghbdaaDoor.D
open Go.RowKit Go.Proofs.YtblbieenfghbdaaDoor.E Go.Proofs.YtblbieenfghbdaaDoorW.PrintWords Go.Proofs.YtblbieenfghbdaaDoorW.PrintLast Go.Proofs.YtblbieenfghbdaaDoorW.PrintMore
set_option linter.unusedVariables false
set_option linter.unusedSimpArgs false
theorem claimRes_len (b : List Int) (hb : AllB b) : (claimRes b).1.length ≤ 4096 := by
  cases h : parseClaims b with
  | none => rw [claimRes, h]; simp
  | some l => rw [claimRes, h]; exact (parse_claims_spec b l hb h).2.2
set_option maxHeartbeats 4000000 in
set_option maxRecDepth 100000 in
theorem intervalmonlaw15_CodecDecodes.calls (A0 : Option Addr) (c0 : Nat) (raw : List Int) (A1 : Option Addr) (c1 : Nat) (l : List Int) (a2 a3 : Int) (w : World) (hr0 : Kd.C (Kd.int .u8) w A0 raw.length raw) (hc0 : raw.length ≤ c0) (hr1 : Kd.C (Kd.int .i64) w A1 l.length l) (hc1 : l.length ≤ c1)
    (hb : AllB raw) (hI : ∀ x, x ∈ l → I64 x) (ha2 : I64 a2) (h30 : 0 ≤ a3) (h31 : a3 < 256) (hG : Glob w) :
    Calls Tryd.prog 9 #[.slice A0 raw.length c0, .slice A1 l.length c1, .int .i64 a2, .int .u8 a3] w fun e w' => e = .returned (.bool true) ∧ Below w.heap.size w w' := by
  have ff := Aside0.mk (few_take raw 40 (by decide))
  obtain ⟨few, hfew⟩ : ∃ few, raw.take 40 = few := ⟨_, rfl⟩
  rw [hfew] at ff
  have hfl : few.length ≤ 40 := by rw [← hfew, List.length_take]; omega
  have hfa : AllB few := fun x hx => hb x (List.mem_of_mem_take (hfew ▸ hx))
  go_enter Tryd.func9, Tryd.ntmps9
  go_wp2_with (fail)
  refine (intervalmonref15_Claims.calls A1 c1 l w hr1 hI).mono ?_
  rintro e w1 ⟨v1, cs, rfl, hR1, hce, hcl, hB1⟩
  obtain ⟨Aa, ca, rfl⟩ := Kd.R_slice hR1
  have ka := Aside0.mk (Kd.R_reads' hR1).2
  have hr := Aside0.mk hB1
  have hq1 := Aside0.mk hB1
  have hrw := Aside0.mk (Kd.C_below hr0 hB1)
  clear hR1 hB1 hr0 hr1
  obtain ⟨ea, da⟩ := claims_back hce (by omega)
  have hbl := claimsOf_len cs
  have hba := claimsOf_all cs
  obtain ⟨ke, fe⟩ := (ref_encode cs).rounds
  rw [ea] at fe
  generalize hb_ : claimsOf cs = b at fe hbl hba
  obtain ⟨t, ft, hta, htl⟩ := turned_some b a2 a3 hba (by omega) ha2 h30 h31
  obtain ⟨z, hz⟩ : ∃ z, b ++ [a3] = z := ⟨_, rfl⟩
  have hza : AllB z := hz ▸ AllB.app hba (fun x hx => by simp at hx; subst hx; exact ⟨h30, h31⟩)
  have hzl : z.length = b.length + 1 := by rw [← hz]; simp
  have hz' := Aside0.mk hz
  have fe' := Aside0.mk fe
  have ft' := Aside0.mk ft
  have hbl' := Aside0.mk hbl
  have htl' := Aside0.mk htl
  have hfl' := Aside0.mk hfl
  have hta' := Aside0.mk hta
  have hfa' := Aside0.mk hfa
  have hza' := Aside0.mk hza
  have hzl' := Aside0.mk hzl
  have hcl' := Aside0.mk hcl
  clear hz fe ft ea da hb_ hfew hbl htl hfl hba hta hfa hza hzl hcl hce
  go_wp2_with (fail)
  refine (intervalmonref15_Encode.calls ke Aa ca cs b 0 w1 ka.out.2 ka.out.1 fe'.out).mono ?_
  rintro e w2 ⟨v2, rfl, hR2, hB2⟩
  obtain ⟨A9, c9, rfl⟩ := Kd.R_slice hR2
  have hO9 := Aside0.mk hR2
  have k9 := Aside0.mk (Kd.R_reads' hR2).2
  have hB2' := Aside0.mk hB2
  replace hr := Aside0.mk (below_then hr.out hr.out.size hB2)
  replace hrw := Aside0.mk (Kd.C_below hrw.out hB2)
  clear hR2 hB2 ka fe'
  go_wp2_with (fail)
  refine (intervalmonref01_Few.calls A0 c0 raw 40 few w2 hrw.out hc0 ff.out).mono ?_
  rintro e w5 ⟨v5, rfl, hR5, hB5⟩
  obtain ⟨A30, c30, rfl⟩ := Kd.R_slice hR5
  have hF := Aside0.mk (Kd.R_new' hR5 (Kd.R_lt hO9.out))
  replace hO9 := Aside0.mk (Kd.R_below hO9.out hB5)
  replace k9 := Aside0.mk (⟨k9.out.1, Kd.C_below k9.out.2 hB5⟩ : b.length ≤ c9 ∧ Kd.C (Kd.int .u8) w5 A9 b.length b)
  replace hB2' := Aside0.mk (below_then hB2'.out hB2'.out.size hB5)
  replace hr := Aside0.mk (below_then hr.out hr.out.size hB5)
  clear hR5 hB5 hrw ff
  go_wp2_with (fail)
  refine (intervalmonlaw15_turned.calls A9 c9 b a2 a3 t w5 k9.out.2 k9.out.1 ft'.out).mono ?_
  rintro e w6 ⟨v6, rfl, hR6, hB6⟩
  obtain ⟨A34, c34, rfl⟩ := Kd.R_slice hR6
  have hT := Aside0.mk (Kd.R_new' hR6 (Kd.R_lt hO9.out))
  replace hO9 := Aside0.mk (Kd.R_below hO9.out hB6)
  replace hF := Aside0.mk (Kd.R_below hF.out hB6)
  replace hB2' := Aside0.mk (below_then hB2'.out hB2'.out.size hB6)
  replace hr := Aside0.mk (below_then hr.out hr.out.size hB6)
  clear hR6 hB6 k9 ft'
  go_upto_region 3 with (first | ((with_reducible refine gate_builtin (b := .append) (xs := #[.tmp 29, .tmp 31]) rfl ?_); at_builtin; refine Kd.R_append (Kd.int .u8) (w0 := w1) w1.heap.size rfl (.tmp 29) (.tmp 31) 23 5 (.int .u8 0) 1 rfl Tryd.underlying23 info5 rfl (by decide) (by omega) (.slice A9 b.length c9) b a3 [.int .u8 a3] (fun _ => True) (fun _ => False) rfl rfl rfl (fun _ hk => hk.elim) (fun _ _ => trivial) hO9.out hB2'.out hB2'.out.size (by have := hbl'.out; have := hcl'.out; omega) ?_; intro v7 w7 ho7 hb7 hg7 hat7; rw [hz'.out] at ho7; obtain ⟨A32, c32, rfl⟩ := Kd.R_slice ho7))
  have hK7 : Kept w6 w7 (fun k => some k = (Value.slice A9 b.length c9).ownBlock) := (Kept.refl w6 _).of_grown hg7 (fun k e => .inl e.symm)
  have kF := (Kd.R_reads' (Kd.R_kept hF.out hK7 (fun k hk e => hk.2 e))).2
  have kT := (Kd.R_reads' (Kd.R_kept hT.out hK7 (fun k hk e => hk.2 e))).2
  have kX := (Kd.R_reads' ho7).2
  replace hr := below_then hq1.out hq1.out.size hb7
  clear hK7 hF hT ho7 hb7 hg7 hat7 hO9 hB2' hq1
  have hBa : Below w7.heap.size w7 (w7.alloc (.cells #[.slice A30 few.length c30, .slice A34 t.length c34, .slice A32 z.length c32] 23)) := below_alloc (Below.refl _ _) _
  have y0 : Bytes (w7.alloc (.cells #[.slice A30 few.length c30, .slice A34 t.length c34, .slice A32 z.length c32] 23)) A30 c30 few := ⟨Kd.C_below kF.2 hBa, kF.1, hfa'.out, by have := hfl'.out; omega⟩
  have y1 : Bytes (w7.alloc (.cells #[.slice A30 few.length c30, .slice A34 t.length c34, .slice A32 z.length c32] 23)) A34 c34 t := ⟨Kd.C_below kT.2 hBa, kT.1, hta'.out, by have := hbl'.out; have := hcl'.out; have := htl'.out; omega⟩
  have y2 : Bytes (w7.alloc (.cells #[.slice A30 few.length c30, .slice A34 t.length c34, .slice A32 z.length c32] 23)) A32 c32 z := ⟨Kd.C_below kX.2 hBa, kX.1, hza'.out, by have := hbl'.out; have := hcl'.out; have := hzl'.out; omega⟩
  have hr0 := Aside0.mk (below_then hr hr.size hBa)
  have hP : (w7.alloc (.cells #[.slice A30 few.length c30, .slice A34 t.length c34, .slice A32 z.length c32] 23)).heap[w7.heap.size]? = some (.cells #[.slice A30 few.length c30, .slice A34 t.length c34, .slice A32 z.length c32] 23 (0, 0)) := by simpa using heap_alloc_new w7 _
  have hyy : ∀ i : Int, 0 ≤ i → i < 3 → ∃ A c l, (w7.alloc (.cells #[.slice A30 few.length c30, .slice A34 t.length c34, .slice A32 z.length c32] 23)).cell? ⟨w7.heap.size, i.toNat, none⟩ = some (.slice A l.length c) ∧ Bytes (w7.alloc (.cells #[.slice A30 few.length c30, .slice A34 t.length c34, .slice A32 z.length c32] 23)) A c l := by
    intro i h0 h3
    have hi : i = 0 ∨ i = 1 ∨ i = 2 := by omega
    rcases hi with rfl | rfl | rfl
    · exact ⟨A30, c30, few, (blk_cell hP 0).trans rfl, y0⟩
    · exact ⟨A34, c34, t, (blk_cell hP 1).trans rfl, y1⟩
    · exact ⟨A32, c32, z, (blk_cell hP 2).trans rfl, y2⟩
  have hyy' := Aside0.mk hyy
  clear hyy y0 y1 y2 hP hBa kF kT kX hr
  generalize hq : w7.heap.size = q at hyy' ⊢
  clear hq
  generalize (w7.alloc (.cells #[.slice A30 few.length c30, .slice A34 t.length c34, .slice A32 z.length c32] 23)) = w8 at hyy' hr0 ⊢
  go_wp2
  have hrw := Aside0.mk (Below.refl w8.heap.size w8)
  go_loopg [12] 3 (fun kq v12 w' => ∃ i : Int, v12 = .int .i64 i ∧ Aside0 (0 ≤ i ∧ i + (kq : Int) = 3) ∧ Aside0 (Below w8.heap.size w8 w'))
  case atStart => exact ⟨0, rfl, ⟨by omega⟩, hrw⟩
  case round =>
    clear hrw
    obtain ⟨i, rfl, hi, hw⟩ := hrel
    cases gk with
    | zero =>
      have cb : decide (i < 3) = false := decide_eq_false (by have := hi.out; omega)
      go_wp2_with (fail)
      refine (intervalmonlaw15_lives.calls wr ((hG.below hr0.out).below hw.out)).mono ?_
      rintro e w10 ⟨rfl, hB10⟩
      go_wp2
      go_ret
      exact ⟨rfl, below_then hr0.out hr0.out.size (below_then hw.out hw.out.size hB10)⟩
    | succ m =>
      have cb : decide (i < 3) = true := decide_eq_true (by have := hi.out; omega)
      have i0 : 0 ≤ i := by have := hi.out; omega
      have i3 : i < 3 := by have := hi.out; omega
      obtain ⟨A, c, l, hcell, hby⟩ := hyy'.out i i0 i3
      have hcell' := pw_cell_below hw.out hcell
      clear hcell
      obtain ⟨hCl, hcl, hal, hll⟩ := hby
      obtain ⟨x, ee, hres⟩ : ∃ x ee, claimRes l = (x, ee) := ⟨_, _, rfl⟩
      have hxl : x.length ≤ 4096 := by have := claimRes_len l hal; rw [hres] at this; exact this
      obtain ⟨p1, q1⟩ := (read_claims l hal (by omega)).rounds
      obtain ⟨p2, q2⟩ := (ref_claims l hal (by omega)).rounds
      obtain ⟨rr, hs, hsi⟩ := same_claims x x (by omega)
      obtain rfl : rr = true := hsi.2 rfl
      obtain ⟨p3, q3⟩ := hs.rounds
      rw [hres] at q1 q2
      have q1' := Aside0.mk q1
      have q2' := Aside0.mk q2
      have q3' := Aside0.mk q3
      have hCl' := Aside0.mk hCl
      have hi1 : wrap64 (i + 1) = i + 1 := by unfold wrap64; omega
      have hx0 : Aside0 (x.length ≤ 4096) := ⟨hxl⟩
      clear hres q1 q2 q3 hal hCl hll hxl hs hsi
      go_wp2_with (fail)
      refine (codec_Decode.calls p1 A c l x ee wr (Kd.C_below hCl'.out hw.out) hcl ((hG.below hr0.out).below hw.out) q1'.out).mono ?_
      rintro e w9 ⟨v9, rfl, hR8, hB8⟩
      obtain ⟨A8, c8, rfl⟩ := Kd.R_slice hR8
      have k8 := Aside0.mk (Kd.R_reads' hR8)
      replace hcell' := pw_cell_below hB8 hcell'
      clear hR8
      replace hw := Aside0.mk (below_then hw.out hw.out.size hB8)
      clear hB8
      go_wp2_with (fail)
      refine (intervalmonref15_Decode.calls p2 A c l x ee w9 (Kd.C_below hCl'.out hw.out) hcl q2'.out).mono ?_
      rintro e w10 ⟨v10, rfl, hR9, hB9⟩
      obtain ⟨A15, c15, rfl⟩ := Kd.R_slice hR9
      have k15 := Aside0.mk (Kd.R_reads' hR9)
      have k8 := Aside0.mk (⟨k8.out.2.1, Kd.C_below k8.out.2.2 hB9⟩ : x.length ≤ c8 ∧ Kd.C k44 w10 A8 x.length x)
      replace hw := Aside0.mk (below_then hw.out hw.out.size hB9)
      clear hR9 hB9 hcell'
      go_wp2_with (fail)
      refine (intervalmonref15_Same.calls p3 A8 c8 x A15 c15 x true w10 k8.out.2 k8.out.1 k15.out.2.2 k15.out.2.1 q3'.out).mono ?_
      rintro e w11 ⟨rfl, hd⟩
      replace hw := Aside0.mk (below_then hw.out hw.out.size hd.below)
      clear hd k8 k15
      go_wp2
      go_roundg m
      case measure => omega
      case rel => exact ⟨i + 1, by first | rfl | simp [*], ⟨by have := hi.out; omega⟩, hw⟩
end Go.Proofs.YtblbieenfghbdaaDoor.D
