/- The call of law 15's CodecRound gives true, whatever it is handed. -/
import Derived.Test.YtblbieenfghbdaaDoorPy
import Derived.Test.YtblbieenfghbdaaDoorKk
namespace Go.Proofs.YtblbieenfghbdaaDoor.D
open Go.RowKit Go.Proofs.YtblbieenfghbdaaDoor.E Go.Proofs.YtblbieenfghbdaaDoorW.PrintWords Go.Proofs.YtblbieenfghbdaaDoorW.PrintLast Go.Proofs.YtblbieenfghbdaaDoorW.PrintMore
set_option linter.unusedVariables false
set_option linter.unusedSimpArgs false
set_option maxHeartbeats 4000000 in
set_option maxRecDepth 100000 in
theorem intervalmonlaw15_CodecRound.calls (A0 : Option Addr) (c0 : Nat) (l : List Int) (A1 : Option Addr) (c1 : Nat) (m : List Int) (w : World) (hr0 : Kd.C (Kd.int .i64) w A0 l.length l) (hc0 : l.length ≤ c0) (hr1 : Kd.C (Kd.int .i64) w A1 m.length m) (hc1 : m.length ≤ c1) (hl : ∀ x, x ∈ l → I64 x) (hm : ∀ x, x ∈ m → I64 x) (hG : Glob w) :
    Calls Tryd.prog 10 #[.slice A0 l.length c0, .slice A1 m.length c1] w fun e w' => e = .returned (.bool true) ∧ Below w.heap.size w w' := by
  go_enter Tryd.func10, Tryd.ntmps10
  go_wp2_with (fail)
  refine (intervalmonref15_Claims.calls A0 c0 l w hr0 hl).mono ?_
  rintro e w1 ⟨v1, a, rfl, hR1, ha, hla, hB1⟩
  obtain ⟨Aa, ca, rfl⟩ := Kd.R_slice hR1
  have ka := Aside0.mk (Kd.R_reads' hR1).2
  have hr := Aside0.mk hB1
  have hM := Aside0.mk (Kd.C_below hr1 hB1)
  clear hR1 hB1 hr0 hr1
  go_wp2_with (fail)
  refine (intervalmonref15_Claims.calls A1 c1 m w1 hM.out hm).mono ?_
  rintro e w2 ⟨v2, b, rfl, hR2, hb, hlb, hB2⟩
  obtain ⟨Ab, cb, rfl⟩ := Kd.R_slice hR2
  have kb := Aside0.mk (Kd.R_reads' hR2).2
  replace ka := Aside0.mk (⟨ka.out.1, Kd.C_below ka.out.2 hB2⟩ : a.length ≤ ca ∧ Kd.C k44 w2 Aa a.length a)
  replace hr := Aside0.mk (below_then hr.out hr.out.size hB2)
  clear hR2 hB2 hM
  obtain ⟨ea, da⟩ := claims_back ha (by omega)
  obtain ⟨eb, db⟩ := claims_back hb (by omega)
  have lca := claimsOf_len a
  have lcb := claimsOf_len b
  obtain ⟨kd, fd⟩ := (read_claims (claimsOf a) (claimsOf_all a) (by omega)).rounds
  rw [da] at fd
  obtain ⟨r1, v1, i1⟩ := same_claims a a (by omega)
  obtain ⟨r2, v2, i2⟩ := same_claims a b (by omega)
  obtain ⟨k1, f1⟩ := v1.rounds
  obtain ⟨k2, f2⟩ := v2.rounds
  obtain rfl : r1 = true := i1.2 rfl
  obtain ⟨ks, fs⟩ := (sameBytes_ev (claimsOf a) (claimsOf b) (by omega)).rounds
  have hsame : decide (claimsOf a = claimsOf b) = r2 := by
    cases r2 with
    | true => rw [i2.1 rfl]; exact decide_eq_true rfl
    | false => exact decide_eq_false (fun h => by have := i2.2 (claims_inj ha hb (by omega) (by omega) h); cases this)
  rw [hsame] at fs
  have xa : codec_Encode.f 0 a = some (claimsOf a, 0) := by rw [codec_Encode_res, ea]
  have xb : codec_Encode.f 0 b = some (claimsOf b, 0) := by rw [codec_Encode_res, eb]
  generalize hx : claimsOf a = x at fd fs xa lca
  generalize hy : claimsOf b = y at fs xb lcb
  have xa' := Aside0.mk xa
  have xb' := Aside0.mk xb
  have fd' := Aside0.mk fd
  have fs' := Aside0.mk fs
  have f1' := Aside0.mk f1
  have f2' := Aside0.mk f2
  have lca' := Aside0.mk lca
  have lcb' := Aside0.mk lcb
  have hla' := Aside0.mk hla
  have hlb' := Aside0.mk hlb
  clear xa xb fd fs f1 f2 lca lcb hla hlb hx hy hsame i1 i2 v1 v2 ea eb da db ha hb
  go_wp2_with (fail)
  refine (codec_Encode.calls 0 Aa ca a x 0 w2 ka.out.2 ka.out.1 (hG.below hr.out) xa'.out).mono ?_
  rintro e w3 ⟨v3, rfl, hR3, hB3⟩
  obtain ⟨Ax, cx, rfl⟩ := Kd.R_slice hR3
  have kx := Aside0.mk (Kd.R_reads' hR3).2
  replace ka := Aside0.mk (⟨ka.out.1, Kd.C_below ka.out.2 hB3⟩ : a.length ≤ ca ∧ Kd.C k44 w3 Aa a.length a)
  replace kb := Aside0.mk (⟨kb.out.1, Kd.C_below kb.out.2 hB3⟩ : b.length ≤ cb ∧ Kd.C k44 w3 Ab b.length b)
  replace hr := Aside0.mk (below_then hr.out hr.out.size hB3)
  clear hR3 hB3
  go_wp2_with (fail)
  refine (codec_Encode.calls 0 Ab cb b y 0 w3 kb.out.2 kb.out.1 (hG.below hr.out) xb'.out).mono ?_
  rintro e w4 ⟨v4, rfl, hR4, hB4⟩
  obtain ⟨Ay, cy, rfl⟩ := Kd.R_slice hR4
  have ky := Aside0.mk (Kd.R_reads' hR4).2
  replace ka := Aside0.mk (⟨ka.out.1, Kd.C_below ka.out.2 hB4⟩ : a.length ≤ ca ∧ Kd.C k44 w4 Aa a.length a)
  replace kb := Aside0.mk (⟨kb.out.1, Kd.C_below kb.out.2 hB4⟩ : b.length ≤ cb ∧ Kd.C k44 w4 Ab b.length b)
  replace kx := Aside0.mk (⟨kx.out.1, Kd.C_below kx.out.2 hB4⟩ : x.length ≤ cx ∧ Kd.C (Kd.int .u8) w4 Ax x.length x)
  replace hr := Aside0.mk (below_then hr.out hr.out.size hB4)
  clear hR4 hB4
  go_wp2_with (fail)
  refine (codec_Decode.calls kd Ax cx x a 0 w4 kx.out.2 kx.out.1 (hG.below hr.out) fd'.out).mono ?_
  rintro e w5 ⟨v5, rfl, hR5, hB5⟩
  obtain ⟨Ac, cc, rfl⟩ := Kd.R_slice hR5
  have kc := Aside0.mk (Kd.R_reads' hR5).2
  replace ka := Aside0.mk (⟨ka.out.1, Kd.C_below ka.out.2 hB5⟩ : a.length ≤ ca ∧ Kd.C k44 w5 Aa a.length a)
  replace kb := Aside0.mk (⟨kb.out.1, Kd.C_below kb.out.2 hB5⟩ : b.length ≤ cb ∧ Kd.C k44 w5 Ab b.length b)
  replace kx := Aside0.mk (⟨kx.out.1, Kd.C_below kx.out.2 hB5⟩ : x.length ≤ cx ∧ Kd.C (Kd.int .u8) w5 Ax x.length x)
  replace ky := Aside0.mk (⟨ky.out.1, Kd.C_below ky.out.2 hB5⟩ : y.length ≤ cy ∧ Kd.C (Kd.int .u8) w5 Ay y.length y)
  replace hr := Aside0.mk (below_then hr.out hr.out.size hB5)
  clear hR5 hB5
  go_wp2_with (fail)
  refine (intervalmonref15_Same.calls k1 Aa ca a Ac cc a true w5 ka.out.2 ka.out.1 kc.out.2 kc.out.1 f1'.out).mono ?_
  rintro e w6 ⟨rfl, hd⟩
  replace ka := Aside0.mk (⟨ka.out.1, Kd.C_below ka.out.2 hd.below⟩ : a.length ≤ ca ∧ Kd.C k44 w6 Aa a.length a)
  replace kb := Aside0.mk (⟨kb.out.1, Kd.C_below kb.out.2 hd.below⟩ : b.length ≤ cb ∧ Kd.C k44 w6 Ab b.length b)
  replace kx := Aside0.mk (⟨kx.out.1, Kd.C_below kx.out.2 hd.below⟩ : x.length ≤ cx ∧ Kd.C (Kd.int .u8) w6 Ax x.length x)
  replace ky := Aside0.mk (⟨ky.out.1, Kd.C_below ky.out.2 hd.below⟩ : y.length ≤ cy ∧ Kd.C (Kd.int .u8) w6 Ay y.length y)
  replace hr := Aside0.mk (below_then hr.out hr.out.size hd.below)
  clear hd kc
  go_wp2_with (fail)
  refine (intervalmonref01_SameBytes.calls ks Ax cx x Ay cy y r2 w6 kx.out.2 kx.out.1 ky.out.2 ky.out.1 fs'.out).mono ?_
  rintro e w7 ⟨rfl, hd⟩
  replace ka := Aside0.mk (⟨ka.out.1, Kd.C_below ka.out.2 hd.below⟩ : a.length ≤ ca ∧ Kd.C k44 w7 Aa a.length a)
  replace kb := Aside0.mk (⟨kb.out.1, Kd.C_below kb.out.2 hd.below⟩ : b.length ≤ cb ∧ Kd.C k44 w7 Ab b.length b)
  replace hr := Aside0.mk (below_then hr.out hr.out.size hd.below)
  clear hd kx ky
  go_wp2_with (fail)
  refine (intervalmonref15_Same.calls k2 Aa ca a Ab cb b r2 w7 ka.out.2 ka.out.1 kb.out.2 kb.out.1 f2'.out).mono ?_
  rintro e w8 ⟨rfl, hd⟩
  replace hr := Aside0.mk (below_then hr.out hr.out.size hd.below)
  clear hd ka kb fs' f2'
  cases r2 with
  | true =>
    go_wp2_with (fail)
    refine (intervalmonlaw15_lives.calls w8 (hG.below hr.out)).mono ?_
    rintro e w9 ⟨rfl, hB8⟩
    go_wp2
    go_ret
    exact ⟨rfl, below_then hr.out hr.out.size hB8⟩
  | false =>
    go_wp2_with (fail)
    refine (intervalmonlaw15_lives.calls w8 (hG.below hr.out)).mono ?_
    rintro e w9 ⟨rfl, hB8⟩
    go_wp2
    go_ret
    exact ⟨rfl, below_then hr.out hr.out.size hB8⟩
end Go.Proofs.YtblbieenfghbdaaDoor.D
