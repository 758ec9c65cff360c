/- The call of law 15's CodecInts gives true, whatever it is handed. -/
import Derived.Test.YtblbieenfghbdaaDoorKl
import Derived.Test.YtblbieenfghbdaaDoorPj
namespace Go.Proofs.YtblbieenfghbdaaDoor.D
open Go.RowKit Go.Proofs.YtblbieenfghbdaaDoorW.PrintWords Go.Proofs.YtblbieenfghbdaaDoorW.PrintLast Go.Proofs.YtblbieenfghbdaaDoorW.PrintMore
set_option linter.unusedVariables false
set_option linter.unusedSimpArgs false
theorem ints_take (l : List Int) (m : Nat) (hm : m < 1000000) : intervalmonref01_Ints.f l (m : Int) = some (l.take m) := by
  have e : (mn (l.length : Int) (m : Int)).toNat = min l.length m := by simp only [mn]; split <;> omega
  have e0 : 0 ≤ mn (l.length : Int) (m : Int) := by simp only [mn]; split <;> omega
  have e1 : mn (l.length : Int) (m : Int) ≤ (l.length : Int) := by simp only [mn]; split <;> omega
  rw [intervalmonref01_Ints.f, if_pos e0, if_pos e1, e, if_pos (by simp only [List.length_nil, List.length_take]; omega), List.nil_append]
  congr 1
  rw [Nat.min_comm, ← List.take_take, List.take_length]
theorem few_take (l : List Int) (m : Nat) (hm : m < 1000000) : intervalmonref01_Few.f l (m : Int) = some (l.take m) := by
  have e : (mn (l.length : Int) (m : Int)).toNat = min l.length m := by simp only [mn]; split <;> omega
  have e0 : 0 ≤ mn (l.length : Int) (m : Int) := by simp only [mn]; split <;> omega
  have e1 : mn (l.length : Int) (m : Int) ≤ (l.length : Int) := by simp only [mn]; split <;> omega
  rw [intervalmonref01_Few.f, if_pos e0, if_pos e1, e, if_pos (by simp only [List.length_nil, List.length_take]; omega), List.nil_append]
  congr 1
  rw [Nat.min_comm, ← List.take_take, List.take_length]
theorem around_some (a m : Int) (h : I64 a) (hm : 0 < m) : ∃ r, intervalmonref01_Around.f a m = some r ∧ 0 ≤ r ∧ r < m := by
  unfold I64 at h
  rw [intervalmonref01_Around.f]
  by_cases c : a < 0
  · rw [if_pos c, if_neg (by omega)]
    have e : wrap64 (-wrap64 (a + 1)) = -(a + 1) := by unfold wrap64; omega
    rw [e]
    exact ⟨_, rfl, Int.tmod_nonneg _ (by omega), Int.tmod_lt_of_pos _ hm⟩
  · rw [if_neg c, if_neg (by omega)]
    exact ⟨_, rfl, Int.tmod_nonneg _ (by omega), Int.tmod_lt_of_pos _ hm⟩
theorem turned_some (b : List Int) (a c : Int) (hb : AllB b) (hl : b.length < 1000000) (ha : I64 a) (hc0 : 0 ≤ c) (hc1 : c < 256) :
    ∃ t, intervalmonlaw15_turned.f b a c = some t ∧ AllB t ∧ t.length = b.length := by
  rw [intervalmonlaw15_turned.f, few_take b b.length hl, Option.bind_some, List.take_length]
  by_cases h0 : (b.length : Int) > 0
  · rw [if_pos h0]
    obtain ⟨r, hr, r0, r1⟩ := around_some a (b.length : Int) ha (by omega)
    rw [hr, Option.bind_some, if_pos r0, if_pos r1]
    refine ⟨_, rfl, fun x hx => ?_, by simp⟩
    rcases List.mem_or_eq_of_mem_set hx with h | h
    · exact hb x h
    · subst h; exact ⟨hc0, hc1⟩
  · rw [if_neg h0]
    exact ⟨b, rfl, hb, rfl⟩
theorem intsOf_len (l : List Int) : 8 * (intsOf l).length ≤ 70 * (l.length + 1) + 7 := by
  have hp := (packL_packed (codeBits (l.length : Int) ++ trendBits 0 0 l)).length
  have h70 := trendBits_le l 0 0
  have hc70 := codeBits_length (l.length : Int)
  rw [List.length_append] at hp
  simp only [padN] at hp
  simp only [intsOf]
  omega
theorem intsOf_allB (l : List Int) : AllB (intsOf l) := (packL_packed _).1
theorem intsRes_len (bs : List Int) (hb : AllB bs) : (intsRes bs).1.length ≤ 8 * bs.length := by
  cases h : parseInts bs with
  | none => simp [intsRes, h]
  | some l => have := (parse_spec bs l hb h).2.2; simpa [intsRes, h] using this
/-- A slice of bytes that is good to read. -/
def Bytes (W : World) (A : Option Addr) (c : Nat) (l : List Int) : Prop := Kd.C (Kd.int .u8) W A l.length l ∧ l.length ≤ c ∧ AllB l ∧ l.length < 10000
set_option maxHeartbeats 2000000 in
set_option maxRecDepth 100000 in
theorem intervalmonlaw15_CodecInts.calls (A0 : Option Addr) (c0 : Nat) (l0 : List Int) (A1 : Option Addr) (c1 : Nat) (raw : List Int) (a2 a3 : Int) (w : World) (hr0 : Kd.C (Kd.int .i64) w A0 l0.length l0) (hc0 : l0.length ≤ c0) (hr1 : Kd.C (Kd.int .u8) w A1 raw.length raw) (hc1 : raw.length ≤ c1)
    (hI : ∀ x, x ∈ l0 → I64 x) (hb : AllB raw) (ha2 : I64 a2) (h30 : 0 ≤ a3) (h31 : a3 < 256) (hG : Glob w) :
    Calls Tryd.prog 3 #[.slice A0 l0.length c0, .slice A1 raw.length c1, .int .i64 a2, .int .u8 a3] w fun e w' => e = .returned (.bool true) ∧ Below w.heap.size w w' := by
  obtain ⟨n, hn⟩ : ∃ n, l0.take 20 = n := ⟨_, rfl⟩
  have hnl : n.length ≤ 20 := by rw [← hn, List.length_take]; omega
  have hnI : ∀ x, x ∈ n → I64 x := fun x hx => hI x (List.mem_of_mem_take (hn ▸ hx))
  have fn := Aside0.mk (ints_take l0 20 (by decide))
  rw [hn] at fn
  obtain ⟨b, hbb⟩ : ∃ b, intsOf n = b := ⟨_, rfl⟩
  have hbl := intsOf_len n
  have hba := intsOf_allB n
  rw [hbb] at hbl hba
  have fb : Aside0 (codec_Ints.f 0 n = some b) := ⟨by rw [codec_Ints.f, if_pos (by omega), ← hbb]; rfl⟩
  obtain ⟨kr, fr⟩ := (ref_ints n hnI (by omega)).rounds
  rw [hbb] at fr
  obtain ⟨ks, fs⟩ := (sameBytes_ev b b (by omega)).rounds
  rw [decide_eq_true rfl] at fs
  have ff := Aside0.mk (few_take raw 40 (by decide))
  obtain ⟨few, hfew⟩ : ∃ few, raw.take 40 = few := ⟨_, rfl⟩
  rw [hfew] at ff
  have hfl : few.length ≤ 40 := by rw [← hfew, List.length_take]; omega
  have hfa : AllB few := fun x hx => hb x (List.mem_of_mem_take (hfew ▸ hx))
  obtain ⟨t, ft, hta, htl⟩ := turned_some b a2 a3 hba (by omega) ha2 h30 h31
  have hres : intsRes b = (n, 0) := by rw [← hbb, intsRes, parse_ints n hnI (by omega)]
  obtain ⟨kz, fz⟩ := (read_ints b hba (by omega)).rounds
  rw [hres] at fz
  obtain ⟨ky, fy⟩ := (sameInts_ev n n (by omega)).rounds
  rw [decide_eq_true rfl] at fy
  have fr' := Aside0.mk fr
  have fs' := Aside0.mk fs
  have ft' := Aside0.mk ft
  have fz' := Aside0.mk fz
  have fy' := Aside0.mk fy
  have hbl' := Aside0.mk hbl
  have htl' := Aside0.mk htl
  have hfl' := Aside0.mk hfl
  have hba' := Aside0.mk hba
  have hta' := Aside0.mk hta
  have hfa' := Aside0.mk hfa
  have hnl' := Aside0.mk hnl
  clear fr fs ft fz fy hres hn hbb hfew hnI hbl htl hfl hba hta hfa hnl
  go_enter Tryd.func3, Tryd.ntmps3
  go_wp2_with (fail)
  refine (intervalmonref01_Ints.calls A0 c0 l0 20 n w hr0 hc0 fn.out).mono ?_
  rintro e w1 ⟨v1, rfl, hR1, hB1⟩
  obtain ⟨A9, c9, rfl⟩ := Kd.R_slice hR1
  have k9 := Aside0.mk (Kd.R_reads' hR1)
  have hG1 := Aside0.mk (hG.below hB1)
  clear hR1
  go_wp2_with (fail)
  refine (codec_Ints.calls 0 A9 c9 n b w1 k9.out.2.2 k9.out.2.1 hG1.out fb.out).mono ?_
  rintro e w2 ⟨v2, rfl, hR2, hB2⟩
  obtain ⟨A10, c10, rfl⟩ := Kd.R_slice hR2
  have k10 := Aside0.mk (Kd.R_reads' hR2)
  clear hR2
  have k9 := Aside0.mk (⟨k9.out.2.1, Kd.C_below k9.out.2.2 hB2⟩ : n.length ≤ c9 ∧ Kd.C (Kd.int .i64) w2 A9 n.length n)
  have hr := Aside0.mk (below_then hB1 hB1.size hB2)
  have hr1 := Aside0.mk hr1
  clear hB1 hB2
  go_wp2_with (fail)
  refine (intervalmonref15_Ints.calls kr A9 c9 n b w2 k9.out.2 k9.out.1 fr'.out).mono ?_
  rintro e w3 ⟨v3, rfl, hR3, hB3⟩
  obtain ⟨A25, c25, rfl⟩ := Kd.R_slice hR3
  have k25 := Aside0.mk (Kd.R_reads' hR3)
  clear hR3
  go_wp2_with (fail)
  refine (intervalmonref01_SameBytes.calls ks A10 c10 b A25 c25 b true w3 (Kd.C_below k10.out.2.2 hB3) k10.out.2.1 k25.out.2.2 k25.out.2.1 fs'.out).mono ?_
  rintro e w4 ⟨rfl, hd⟩
  have hB4 := below_then hB3 hB3.size hd.below
  have k9 := Aside0.mk (⟨k9.out.1, Kd.C_below k9.out.2 hB4⟩ : n.length ≤ c9 ∧ Kd.C (Kd.int .i64) w4 A9 n.length n)
  have k10 := Aside0.mk (⟨k10.out.2.1, Kd.C_below k10.out.2.2 hB4⟩ : b.length ≤ c10 ∧ Kd.C (Kd.int .u8) w4 A10 b.length b)
  replace hr := Aside0.mk (below_then hr.out hr.out.size hB4)
  clear k25 hB3 hd hB4
  go_wp2_with (fail)
  refine (intervalmonref01_Few.calls A1 c1 raw 40 few w4 (Kd.C_below hr1.out hr.out) hc1 ff.out).mono ?_
  rintro e w5 ⟨v5, rfl, hR5, hB5⟩
  obtain ⟨A30, c30, rfl⟩ := Kd.R_slice hR5
  have k30 := Aside0.mk (Kd.R_reads' hR5)
  clear hR5
  go_wp2_with (fail)
  refine (intervalmonlaw15_turned.calls A10 c10 b a2 a3 t w5 (Kd.C_below k10.out.2 hB5) k10.out.1 ft'.out).mono ?_
  rintro e w6 ⟨v6, rfl, hR6, hB6⟩
  obtain ⟨A34, c34, rfl⟩ := Kd.R_slice hR6
  have k34 := Aside0.mk (Kd.R_reads' hR6)
  clear hR6
  have hB56 := below_then hB5 hB5.size hB6
  have hBa : Below w6.heap.size w6 (w6.alloc (.cells #[.slice A10 b.length c10, .slice A30 few.length c30, .slice A34 t.length c34] 23)) := below_alloc (Below.refl _ _) _
  have y0 : Bytes (w6.alloc (.cells #[.slice A10 b.length c10, .slice A30 few.length c30, .slice A34 t.length c34] 23)) A10 c10 b := ⟨Kd.C_below (Kd.C_below k10.out.2 hB56) hBa, k10.out.1, hba'.out, by have := hbl'.out; have := hnl'.out; omega⟩
  have y1 : Bytes (w6.alloc (.cells #[.slice A10 b.length c10, .slice A30 few.length c30, .slice A34 t.length c34] 23)) A30 c30 few := ⟨Kd.C_below (Kd.C_below k30.out.2.2 hB6) hBa, k30.out.2.1, hfa'.out, by have := hfl'.out; omega⟩
  have y2 : Bytes (w6.alloc (.cells #[.slice A10 b.length c10, .slice A30 few.length c30, .slice A34 t.length c34] 23)) A34 c34 t := ⟨Kd.C_below k34.out.2.2 hBa, k34.out.2.1, hta'.out, by have := hbl'.out; have := hnl'.out; have := htl'.out; omega⟩
  have k9 := Aside0.mk (⟨k9.out.1, Kd.C_below (Kd.C_below k9.out.2 hB56) hBa⟩ : n.length ≤ c9 ∧ Kd.C (Kd.int .i64) (w6.alloc (.cells #[.slice A10 b.length c10, .slice A30 few.length c30, .slice A34 t.length c34] 23)) A9 n.length n)
  replace hr := Aside0.mk (below_then hr.out hr.out.size (below_then hB56 hB56.size hBa))
  have hP : (w6.alloc (.cells #[.slice A10 b.length c10, .slice A30 few.length c30, .slice A34 t.length c34] 23)).heap[w6.heap.size]? = some (.cells #[.slice A10 b.length c10, .slice A30 few.length c30, .slice A34 t.length c34] 23 (0, 0)) := by simpa using heap_alloc_new w6 _
  have hyy : ∀ i : Int, 0 ≤ i → i < 3 → ∃ A c l, (w6.alloc (.cells #[.slice A10 b.length c10, .slice A30 few.length c30, .slice A34 t.length c34] 23)).cell? ⟨w6.heap.size, i.toNat, none⟩ = some (.slice A l.length c) ∧ Bytes (w6.alloc (.cells #[.slice A10 b.length c10, .slice A30 few.length c30, .slice A34 t.length c34] 23)) A c l := by
    intro i h0 h3
    have hi : i = 0 ∨ i = 1 ∨ i = 2 := by omega
    rcases hi with rfl | rfl | rfl
    · exact ⟨A10, c10, b, (blk_cell hP 0).trans rfl, y0⟩
    · exact ⟨A30, c30, few, (blk_cell hP 1).trans rfl, y1⟩
    · exact ⟨A34, c34, t, (blk_cell hP 2).trans rfl, y2⟩
  have hyy' := Aside0.mk hyy
  have y0' := Aside0.mk y0
  clear hyy y0 y1 y2 hP hBa hB56 hB5 hB6 k30 k34 k10
  go_upto_region 6 with (fail)
  generalize hq : w6.heap.size = q at hyy' ⊢
  clear hq
  generalize w6.alloc (.cells #[.slice A10 b.length c10, .slice A30 few.length c30, .slice A34 t.length c34] 23) = w7 at hyy' y0' k9 hr ⊢
  go_wp2
  have hrw := Aside0.mk (Below.refl w7.heap.size w7)
  go_loopg [12] 3 (fun kq v12 w' => ∃ i : Int, v12 = .int .i64 i ∧ Aside0 (0 ≤ i ∧ i + (kq : Int) = 3) ∧ Aside0 (Below w7.heap.size w7 w'))
  case atStart => exact ⟨0, rfl, ⟨by omega⟩, hrw⟩
  case round =>
    clear hrw
    obtain ⟨i, rfl, hi, hw⟩ := hrel
    cases gk with
    | zero =>
      have cb : decide (i < 3) = false := decide_eq_false (by have := hi.out; omega)
      go_wp2_with (fail)
      refine (codec_ReadInts.calls kz A10 c10 b n 0 wr (Kd.C_below y0'.out.1 hw.out) y0'.out.2.1 ((hG.below hr.out).below hw.out) fz'.out).mono ?_
      rintro e w8 ⟨v8, rfl, hR8, hB8⟩
      obtain ⟨A8, c8, rfl⟩ := Kd.R_slice hR8
      have k8 := Aside0.mk (Kd.R_reads' hR8)
      clear hR8
      replace hw := Aside0.mk (below_then hw.out hw.out.size hB8)
      clear hB8
      go_wp2_with (fail)
      refine (intervalmonref01_SameInts.calls ky A8 c8 n A9 c9 n true w8 k8.out.2.2 k8.out.2.1 (Kd.C_below k9.out.2 hw.out) k9.out.1 fy'.out).mono ?_
      rintro e w9 ⟨rfl, hd⟩
      replace hw := Aside0.mk (below_then hw.out hw.out.size hd.below)
      clear hd k8
      go_wp2_with (fail)
      refine (intervalmonlaw15_lives.calls w9 ((hG.below hr.out).below hw.out)).mono ?_
      rintro e w10 ⟨rfl, hB10⟩
      go_wp2
      go_ret
      exact ⟨rfl, below_then hr.out hr.out.size (below_then hw.out hw.out.size hB10)⟩
    | succ m =>
      have cb : decide (i < 3) = true := decide_eq_true (by have := hi.out; omega)
      have i0 : 0 ≤ i := by have := hi.out; omega
      have i3 : i < 3 := by have := hi.out; omega
      obtain ⟨A, c, l, hcell, hby⟩ := hyy'.out i i0 i3
      have hcell' := pw_cell_below hw.out hcell
      clear hcell
      obtain ⟨hCl, hcl, hal, hll⟩ := hby
      obtain ⟨x, ee, hres⟩ : ∃ x ee, intsRes l = (x, ee) := ⟨_, _, rfl⟩
      have hxl : x.length < 100000 := by have := intsRes_len l hal; rw [hres] at this; simp only at this; omega
      obtain ⟨p1, q1⟩ := (read_ints l hal (by omega)).rounds
      obtain ⟨p2, q2⟩ := (ref_read_ints l hal (by omega)).rounds
      obtain ⟨p3, q3⟩ := (sameInts_ev x x (by omega)).rounds
      rw [hres] at q1 q2
      rw [decide_eq_true rfl] at q3
      have q1' := Aside0.mk q1
      have q2' := Aside0.mk q2
      have q3' := Aside0.mk q3
      have hCl' := Aside0.mk hCl
      have hi1 : wrap64 (i + 1) = i + 1 := by unfold wrap64; omega
      have hx0 : Aside0 (x.length < 100000) := ⟨hxl⟩
      clear hres q1 q2 q3 hal hCl hll hxl
      go_wp2_with (fail)
      refine (codec_ReadInts.calls p1 A c l x ee wr (Kd.C_below hCl'.out hw.out) hcl ((hG.below hr.out).below hw.out) q1'.out).mono ?_
      rintro e w8 ⟨v8, rfl, hR8, hB8⟩
      obtain ⟨A8, c8, rfl⟩ := Kd.R_slice hR8
      have k8 := Aside0.mk (Kd.R_reads' hR8)
      replace hcell' := pw_cell_below hB8 hcell'
      clear hR8
      replace hw := Aside0.mk (below_then hw.out hw.out.size hB8)
      clear hB8
      go_wp2_with (fail)
      refine (intervalmonref15_ReadInts.calls p2 A c l x ee w8 (Kd.C_below hCl'.out hw.out) hcl q2'.out).mono ?_
      rintro e w9 ⟨v9, rfl, hR9, hB9⟩
      obtain ⟨A15, c15, rfl⟩ := Kd.R_slice hR9
      have k15 := Aside0.mk (Kd.R_reads' hR9)
      have k8 := Aside0.mk (⟨k8.out.2.1, Kd.C_below k8.out.2.2 hB9⟩ : x.length ≤ c8 ∧ Kd.C (Kd.int .i64) w9 A8 x.length x)
      replace hw := Aside0.mk (below_then hw.out hw.out.size hB9)
      clear hR9 hB9 hcell'
      go_wp2_with (fail)
      refine (intervalmonref01_SameInts.calls p3 A8 c8 x A15 c15 x true w9 k8.out.2 k8.out.1 k15.out.2.2 k15.out.2.1 q3'.out).mono ?_
      rintro e w11 ⟨rfl, hd⟩
      replace hw := Aside0.mk (below_then hw.out hw.out.size hd.below)
      clear hd k8 k15
      go_wp2
      go_roundg m
      case measure => omega
      case rel => exact ⟨i + 1, by first | rfl | simp [*], ⟨by have := hi.out; omega⟩, hw⟩
end Go.Proofs.YtblbieenfghbdaaDoor.D
