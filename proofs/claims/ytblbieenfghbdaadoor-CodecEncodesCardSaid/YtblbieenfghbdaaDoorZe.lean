/- The call of law 15's CodecEncodes gives true, whatever it is handed. -/
import Derived.Test.YtblbieenfghbdaaDoorPk
import Derived.Test.YtblbieenfghbdaaDoorKk
import Derived.Test.YtblbieenfghbdaaDoorExC0
namespace Go.Proofs.YtblbieenfghbdaaDoor.D
open Go.RowKit Go.Proofs.YtblbieenfghbdaaDoor.E Go.Proofs.YtblbieenfghbdaaDoorW.PrintWords Go.Proofs.YtblbieenfghbdaaDoorW.PrintLast Go.Proofs.YtblbieenfghbdaaDoorW.PrintMore
set_option linter.unusedVariables false
set_option linter.unusedSimpArgs false
theorem take3 (raw : List S44) : ∃ j : Int, (if (3 : Int) < (raw.length : Int) then (3 : Int) else (raw.length : Int)) = j ∧ 0 ≤ j ∧ j ≤ raw.length ∧ j ≤ 3 := by
  by_cases h : (3 : Int) < (raw.length : Int)
  · exact ⟨3, if_pos h, by omega, by omega, by omega⟩
  · exact ⟨_, if_neg h, by omega, by omega, by omega⟩
set_option maxHeartbeats 4000000 in
set_option maxRecDepth 100000 in
theorem intervalmonlaw15_CodecEncodes.calls (A0 : Option Addr) (c0 : Nat) (l : List Int) (A1 : Option Addr) (c1 : Nat) (raw : List S44) (w : World) (hr0 : Kd.C (Kd.int .i64) w A0 l.length l) (hc0 : l.length ≤ c0) (hr1 : Kd.C k44 w A1 raw.length raw) (hc1 : raw.length ≤ c1) (hl : ∀ x, x ∈ l → I64 x) (hG : Glob w) :
    Calls Tryd.prog 7 #[.slice A0 l.length c0, .slice A1 raw.length c1] w fun e w' => e = .returned (.bool true) ∧ Below w.heap.size w w' := by
  obtain ⟨j, hj, j0, j1, j3⟩ := take3 raw
  obtain ⟨r, hrr⟩ : ∃ r, raw.take j.toNat = r := ⟨_, rfl⟩
  have hrl : r.length = j.toNat := by rw [← hrr, List.length_take]; omega
  have hC : ∀ W, Below w.heap.size w W → Kd.C k44 W A1 j.toNat r := fun W hB => by
    have := Kd.C_take (Kd.C_below hr1 hB) (m := j.toNat) (by omega)
    rw [hrr, hrl] at this
    exact this
  obtain ⟨i07, hi07, _, hsz7, _⟩ := info_parts infoC
  have hcut := cut_to (P := Tryd.prog) 45 44 .i64 Tryd.underlying45 hi07 A1 raw.length c1 j j0 j1 hc1
  clear hsz7
  go_enter Tryd.func7, Tryd.ntmps7
  go_wp2_with (fail)
  refine (intervalmonref15_Claims.calls A0 c0 l w hr0 hl).mono ?_
  rintro e w1 ⟨v1, a, rfl, hR1, ha, hla, hB1⟩
  have hO := Aside0.mk hR1
  have hr := Aside0.mk hB1
  have hA := Aside0.mk (hC w1 hB1)
  clear hR1 hB1 hr0 hr1 ha
  obtain ⟨Aa, ca, rfl⟩ := Kd.R_slice hO.out
  have hl12 : a.length + j.toNat ≤ 12 := by omega
  have hA' := Aside0.mk hA.out
  clear hC hA hc1 hrr j1
  go_wp2_with (first | ((with_reducible refine gate_builtin (b := .append) (xs := #[.tmp 12, .tmp 17]) rfl ?_); at_builtin; refine Kd.R_append_rows k44 (w0 := w) w.heap.size rfl (.tmp 12) (.tmp 17) 45 44 (.agg #[.int .i64 0, .int .i64 0, .int .i64 0, .int .i64 0]) 32 rfl Tryd.underlying45 infoC rfl (by decide) (by omega) (.slice Aa a.length ca) a r A1 j.toNat c1 (fun _ => True) (fun _ => False) rfl rfl hO.out hA'.out (fun x cs h => (k44_open h).symm ▸ k44_mkM _ _ _ x) (fun _ h => h.elim) (fun _ _ => trivial) hr.out hr.out.size (by omega) ?_; intro v2 w2 ho hb hg hat))
  replace hr := Aside0.mk hb
  obtain ⟨Ab, cb, rfl⟩ := Kd.R_slice ho
  have kb := Aside0.mk (Kd.R_reads' ho).2
  have hbl : (a ++ r).length ≤ 12 := by rw [List.length_append]; omega
  clear ho hb hg hat hO hA'
  generalize a ++ r = b at kb hbl ⊢
  have hnl : b.length = b.length := rfl
  clear hnl
  obtain ⟨k1, f1⟩ := (ref_encode b).rounds
  obtain ⟨x, e_, hx⟩ : ∃ x e_, encRes b = (x, e_) := ⟨_, _, rfl⟩
  have f0 : codec_Encode.f 0 b = some (x, e_) := by rw [codec_Encode_res, hx]
  rw [hx] at f1
  have fS : codec_Size.f 0 b = some (x.length : Int) := by
    show (codec_Encode.f 0 b).bind (fun bt187 => (some (bt187.1.length : Int))) = _
    rw [f0]
    rfl
  have hxl : x.length ≤ 1000 := by
    have h1 := claimsOf_len b
    rw [encRes] at hx
    split at hx
    · simp only [Prod.mk.injEq] at hx
      rw [← hx.1]; simp
    · split at hx
      · simp only [Prod.mk.injEq] at hx
        rw [← hx.1]; omega
      · simp only [Prod.mk.injEq] at hx
        rw [← hx.1]; simp
  obtain ⟨ks, fs⟩ := (sameBytes_ev x x (by omega)).rounds
  rw [decide_eq_true rfl] at fs
  have f0' := Aside0.mk f0
  have f1' := Aside0.mk f1
  have fS' := Aside0.mk fS
  have fs' := Aside0.mk fs
  have hbl' := Aside0.mk hbl
  have hxl' := Aside0.mk hxl
  clear f0 f1 fS fs hx hbl hxl
  refine (codec_Encode.calls 0 Ab cb b x e_ w2 kb.out.2 kb.out.1 (hG.below hr.out) f0'.out).mono ?_
  rintro e w3 ⟨v3, rfl, hR3, hB3⟩
  obtain ⟨Ax, cx, rfl⟩ := Kd.R_slice hR3
  have kx := Aside0.mk (Kd.R_reads' hR3).2
  replace kb := Aside0.mk (⟨kb.out.1, Kd.C_below kb.out.2 hB3⟩ : b.length ≤ cb ∧ Kd.C k44 w3 Ab b.length b)
  replace hr := Aside0.mk (below_then hr.out hr.out.size hB3)
  clear hR3 hB3
  go_wp2_with (fail)
  refine (intervalmonref15_Encode.calls k1 Ab cb b x e_ w3 kb.out.2 kb.out.1 f1'.out).mono ?_
  rintro e w4 ⟨v4, rfl, hR4, hB4⟩
  obtain ⟨Ay, cy, rfl⟩ := Kd.R_slice hR4
  have ky := Aside0.mk (Kd.R_reads' hR4).2
  replace kb := Aside0.mk (⟨kb.out.1, Kd.C_below kb.out.2 hB4⟩ : b.length ≤ cb ∧ Kd.C k44 w4 Ab b.length b)
  replace kx := Aside0.mk (⟨kx.out.1, Kd.C_below kx.out.2 hB4⟩ : x.length ≤ cx ∧ Kd.C (Kd.int .u8) w4 Ax x.length x)
  replace hr := Aside0.mk (below_then hr.out hr.out.size hB4)
  clear hR4 hB4
  go_wp2_with (fail)
  refine (intervalmonref01_SameBytes.calls ks Ax cx x Ay cy x true w4 kx.out.2 kx.out.1 ky.out.2 ky.out.1 fs'.out).mono ?_
  rintro e w5 ⟨rfl, hd⟩
  replace kb := Aside0.mk (⟨kb.out.1, Kd.C_below kb.out.2 hd.below⟩ : b.length ≤ cb ∧ Kd.C k44 w5 Ab b.length b)
  replace hr := Aside0.mk (below_then hr.out hr.out.size hd.below)
  clear hd kx ky
  go_wp2_with (fail)
  refine (codec_Size.calls 0 Ab cb b (x.length : Int) w5 kb.out.2 kb.out.1 (hG.below hr.out) fS'.out).mono ?_
  rintro e w6 ⟨rfl, hB6⟩
  replace hr := Aside0.mk (below_then hr.out hr.out.size hB6)
  clear hB6 kb
  go_wp2_with (fail)
  refine (intervalmonlaw15_lives.calls w6 (hG.below hr.out)).mono ?_
  rintro e w9 ⟨rfl, hB8⟩
  go_wp2
  go_ret
  exact ⟨rfl, below_then hr.out hr.out.size hB8⟩
end Go.Proofs.YtblbieenfghbdaaDoor.D
