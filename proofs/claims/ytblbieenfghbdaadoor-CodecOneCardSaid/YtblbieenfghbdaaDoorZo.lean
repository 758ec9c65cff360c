/- The call of law 15's CodecOne gives true, whatever it is handed. -/
import Derived.Test.YtblbieenfghbdaaDoorHa
import Derived.Test.YtblbieenfghbdaaDoorPo
namespace Go.Proofs.YtblbieenfghbdaaDoor.D
open Go.RowKit Go.Proofs.YtblbieenfghbdaaDoor.E Go.Proofs.YtblbieenfghbdaaDoorW.PrintWords Go.Proofs.YtblbieenfghbdaaDoorW.PrintLast Go.Proofs.YtblbieenfghbdaaDoorW.PrintMore
set_option linter.unusedVariables false
set_option linter.unusedSimpArgs false
theorem claimRes_cases (b : List Int) (hb : AllB b) : (∃ l, claimRes b = (l, 0) ∧ l.length ≤ 4096 ∧ (∀ c, c ∈ l → encB c = true) ∧ claimsOf l = b ∧ codec_Encode.f 0 l = some (b, 0)) ∨ claimRes b = ([], 2) := by
  cases h : parseClaims b with
  | none => exact .inr (by rw [claimRes, h])
  | some l =>
    obtain ⟨h1, h2, h3⟩ := parse_claims_spec b l hb h
    refine .inl ⟨l, by rw [claimRes, h], h3, h1, h2.symm, ?_⟩
    rw [codec_Encode.f, if_neg (by omega), if_pos (List.all_eq_true.2 h1), ← h2]
theorem intsRes_cases (b : List Int) (hb : AllB b) : (∃ l, intsRes b = (l, 0) ∧ l.length ≤ 8 * b.length ∧ intsOf l = b) ∨ intsRes b = ([], 2) := by
  cases h : parseInts b with
  | none => exact .inr (by rw [intsRes, h])
  | some l =>
    obtain ⟨h1, h2, h3⟩ := parse_spec b l hb h
    exact .inl ⟨l, by rw [intsRes, h], h3, h2.symm⟩
set_option maxHeartbeats 4000000 in
set_option maxRecDepth 100000 in
theorem intervalmonlaw15_CodecOne.calls (A0 : Option Addr) (c0 : Nat) (raw : List Int) (w : World) (hr0 : Kd.C (Kd.int .u8) w A0 raw.length raw) (hc0 : raw.length ≤ c0) (hb : AllB raw) (hG : Glob w) :
    Calls Tryd.prog 11 #[.slice A0 raw.length c0] w fun e w' => e = .returned (.bool true) ∧ Below w.heap.size w w' := by
  obtain ⟨b, hbb⟩ : ∃ b, raw.take 30 = b := ⟨_, rfl⟩
  have hbl : b.length ≤ 30 := by rw [← hbb, List.length_take]; omega
  have hba : AllB b := fun x hx => hb x (List.mem_of_mem_take (hbb ▸ hx))
  have ff := Aside0.mk (few_take raw 30 (by decide))
  rw [hbb] at ff
  obtain ⟨kd, fd⟩ := (read_claims b hba (by omega)).rounds
  obtain ⟨ki, fi⟩ := (read_ints b hba (by omega)).rounds
  obtain ⟨ks, fs⟩ := (sameBytes_ev b b (by omega)).rounds
  rw [decide_eq_true rfl] at fs
  have hcc := claimRes_cases b hba
  have hic := intsRes_cases b hba
  obtain ⟨cl, ec, hcr⟩ : ∃ cl ec, claimRes b = (cl, ec) := ⟨_, _, rfl⟩
  obtain ⟨il, ei, hir⟩ : ∃ il ei, intsRes b = (il, ei) := ⟨_, _, rfl⟩
  rw [hcr] at fd hcc
  rw [hir] at fi hic
  have fd' := Aside0.mk fd
  have fi' := Aside0.mk fi
  have fs' := Aside0.mk fs
  have hcc' := Aside0.mk hcc
  have hic' := Aside0.mk hic
  have hbl' := Aside0.mk hbl
  clear fd fi fs hcc hic hcr hir hbb hbl hba
  go_enter Tryd.func11, Tryd.ntmps11
  go_wp2_with (fail)
  refine (intervalmonref01_Few.calls A0 c0 raw 30 b w hr0 hc0 ff.out).mono ?_
  rintro e w1 ⟨v1, rfl, hR1, hB1⟩
  obtain ⟨A3, c3, rfl⟩ := Kd.R_slice hR1
  have k3 := Aside0.mk (Kd.R_reads' hR1)
  have hG1 := Aside0.mk (hG.below hB1)
  have hr := Aside0.mk hB1
  clear hR1 hB1
  go_wp2_with (fail)
  refine (codec_Decode.calls kd A3 c3 b cl ec w1 k3.out.2.2 k3.out.2.1 hG1.out fd'.out).mono ?_
  rintro e w2 ⟨v2, rfl, hR2, hB2⟩
  obtain ⟨A4, c4, rfl⟩ := Kd.R_slice hR2
  have k4 := Aside0.mk (Kd.R_reads' hR2)
  have k3 := Aside0.mk (⟨k3.out.2.1, Kd.C_below k3.out.2.2 hB2⟩ : b.length ≤ c3 ∧ Kd.C (Kd.int .u8) w2 A3 b.length b)
  replace hr := Aside0.mk (below_then hr.out hr.out.size hB2)
  clear hR2 hB2 hG1
  have hd : ∀ W : World, Below w.heap.size w W → Kd.C (Kd.int .u8) W A3 b.length b → (il.length : Int) = il.length → True := fun _ _ _ _ => trivial
  clear hd
  rcases hcc'.out with ⟨l, hl, hl4, hle, hlb, hlf⟩ | hl
  · simp only [Prod.mk.injEq] at hl
    obtain ⟨rfl, rfl⟩ := hl
    have hlf' := Aside0.mk hlf
    clear hcc' hl4 hle hlb hlf
    go_wp2_with (fail)
    refine (codec_Encode.calls 0 A4 c4 cl b 0 w2 k4.out.2.2 k4.out.2.1 (hG.below hr.out) hlf'.out).mono ?_
    rintro e w3 ⟨v3, rfl, hR3, hB3⟩
    obtain ⟨A6, c6, rfl⟩ := Kd.R_slice hR3
    have k6 := Aside0.mk (Kd.R_reads' hR3)
    replace k3 := Aside0.mk (⟨k3.out.1, Kd.C_below k3.out.2 hB3⟩ : b.length ≤ c3 ∧ Kd.C (Kd.int .u8) w3 A3 b.length b)
    replace hr := Aside0.mk (below_then hr.out hr.out.size hB3)
    clear hR3 hB3 k4
    go_wp2_with (fail)
    refine (intervalmonref01_SameBytes.calls ks A6 c6 b A3 c3 b true w3 k6.out.2.2 k6.out.2.1 k3.out.2 k3.out.1 fs'.out).mono ?_
    rintro e w4 ⟨rfl, hd⟩
    replace k3 := Aside0.mk (⟨k3.out.1, Kd.C_below k3.out.2 hd.below⟩ : b.length ≤ c3 ∧ Kd.C (Kd.int .u8) w4 A3 b.length b)
    replace hr := Aside0.mk (below_then hr.out hr.out.size hd.below)
    clear hd k6
    go_wp2_with (fail)
    refine (codec_ReadInts.calls ki A3 c3 b il ei w4 k3.out.2 k3.out.1 (hG.below hr.out) fi'.out).mono ?_
    rintro e w5 ⟨v5, rfl, hR5, hB5⟩
    obtain ⟨A8, c8, rfl⟩ := Kd.R_slice hR5
    have k8 := Aside0.mk (Kd.R_reads' hR5)
    replace k3 := Aside0.mk (⟨k3.out.1, Kd.C_below k3.out.2 hB5⟩ : b.length ≤ c3 ∧ Kd.C (Kd.int .u8) w5 A3 b.length b)
    replace hr := Aside0.mk (below_then hr.out hr.out.size hB5)
    clear hR5 hB5
    rcases hic'.out with ⟨l, hl, hl4, hlb⟩ | hl
    · simp only [Prod.mk.injEq] at hl
      obtain ⟨rfl, rfl⟩ := hl
      have fb : Aside0 (codec_Ints.f 0 il = some b) := ⟨by rw [codec_Ints.f, if_pos (by have := hbl'.out; omega), ← hlb]; rfl⟩
      clear hic' hl4 hlb
      go_wp2_with (fail)
      refine (codec_Ints.calls 0 A8 c8 il b w5 k8.out.2.2 k8.out.2.1 (hG.below hr.out) fb.out).mono ?_
      rintro e w6 ⟨v6, rfl, hR6, hB6⟩
      obtain ⟨A9, c9, rfl⟩ := Kd.R_slice hR6
      have k9 := Aside0.mk (Kd.R_reads' hR6)
      replace k3 := Aside0.mk (⟨k3.out.1, Kd.C_below k3.out.2 hB6⟩ : b.length ≤ c3 ∧ Kd.C (Kd.int .u8) w6 A3 b.length b)
      replace hr := Aside0.mk (below_then hr.out hr.out.size hB6)
      clear hR6 hB6
      go_wp2_with (fail)
      refine (intervalmonref01_SameBytes.calls ks A9 c9 b A3 c3 b true w6 k9.out.2.2 k9.out.2.1 k3.out.2 k3.out.1 fs'.out).mono ?_
      rintro e w7 ⟨rfl, hd⟩
      replace hr := Aside0.mk (below_then hr.out hr.out.size hd.below)
      clear hd
      go_wp2_with (fail)
      refine (intervalmonlaw15_lives.calls w7 (hG.below hr.out)).mono ?_
      rintro e w8 ⟨rfl, hB8⟩
      go_wp2
      go_ret
      exact ⟨rfl, below_then hr.out hr.out.size hB8⟩
    · simp only [Prod.mk.injEq] at hl
      obtain ⟨rfl, rfl⟩ := hl
      clear hic'
      go_wp2_with (fail)
      refine (intervalmonlaw15_lives.calls w5 (hG.below hr.out)).mono ?_
      rintro e w8 ⟨rfl, hB8⟩
      go_wp2
      go_ret
      exact ⟨rfl, below_then hr.out hr.out.size hB8⟩
  · simp only [Prod.mk.injEq] at hl
    obtain ⟨rfl, rfl⟩ := hl
    clear hcc'
    go_wp2_with (fail)
    refine (codec_ReadInts.calls ki A3 c3 b il ei w2 k3.out.2 k3.out.1 (hG.below hr.out) fi'.out).mono ?_
    rintro e w5 ⟨v5, rfl, hR5, hB5⟩
    obtain ⟨A8, c8, rfl⟩ := Kd.R_slice hR5
    have k8 := Aside0.mk (Kd.R_reads' hR5)
    replace k3 := Aside0.mk (⟨k3.out.1, Kd.C_below k3.out.2 hB5⟩ : b.length ≤ c3 ∧ Kd.C (Kd.int .u8) w5 A3 b.length b)
    replace hr := Aside0.mk (below_then hr.out hr.out.size hB5)
    clear hR5 hB5
    rcases hic'.out with ⟨l, hl, hl4, hlb⟩ | hl
    · simp only [Prod.mk.injEq] at hl
      obtain ⟨rfl, rfl⟩ := hl
      have fb : Aside0 (codec_Ints.f 0 il = some b) := ⟨by rw [codec_Ints.f, if_pos (by have := hbl'.out; omega), ← hlb]; rfl⟩
      clear hic' hl4 hlb
      go_wp2_with (fail)
      refine (codec_Ints.calls 0 A8 c8 il b w5 k8.out.2.2 k8.out.2.1 (hG.below hr.out) fb.out).mono ?_
      rintro e w6 ⟨v6, rfl, hR6, hB6⟩
      obtain ⟨A9, c9, rfl⟩ := Kd.R_slice hR6
      have k9 := Aside0.mk (Kd.R_reads' hR6)
      replace k3 := Aside0.mk (⟨k3.out.1, Kd.C_below k3.out.2 hB6⟩ : b.length ≤ c3 ∧ Kd.C (Kd.int .u8) w6 A3 b.length b)
      replace hr := Aside0.mk (below_then hr.out hr.out.size hB6)
      clear hR6 hB6
      go_wp2_with (fail)
      refine (intervalmonref01_SameBytes.calls ks A9 c9 b A3 c3 b true w6 k9.out.2.2 k9.out.2.1 k3.out.2 k3.out.1 fs'.out).mono ?_
      rintro e w7 ⟨rfl, hd⟩
      replace hr := Aside0.mk (below_then hr.out hr.out.size hd.below)
      clear hd
      go_wp2_with (fail)
      refine (intervalmonlaw15_lives.calls w7 (hG.below hr.out)).mono ?_
      rintro e w8 ⟨rfl, hB8⟩
      go_wp2
      go_ret
      exact ⟨rfl, below_then hr.out hr.out.size hB8⟩
    · simp only [Prod.mk.injEq] at hl
      obtain ⟨rfl, rfl⟩ := hl
      clear hic'
      go_wp2_with (fail)
      refine (intervalmonlaw15_lives.calls w5 (hG.below hr.out)).mono ?_
      rintro e w8 ⟨rfl, hB8⟩
      go_wp2
      go_ret
      exact ⟨rfl, below_then hr.out hr.out.size hB8⟩
end Go.Proofs.YtblbieenfghbdaaDoor.D
