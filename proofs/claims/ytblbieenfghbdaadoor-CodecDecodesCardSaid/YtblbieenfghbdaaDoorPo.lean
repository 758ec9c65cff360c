/- The plain law of codec.Decode: it comes to what parseClaims tells. -/
import Derived.Test.YtblbieenfghbdaaDoorKd
import Derived.Test.YtblbieenfghbdaaDoorHa
namespace Go.Proofs.YtblbieenfghbdaaDoor.E
open Go.RowKit Go.Proofs.YtblbieenfghbdaaDoor.D Go.Proofs.YtblbieenfghbdaaDoorW.PrintWords Go.Proofs.YtblbieenfghbdaaDoorW.PrintLast Go.Proofs.YtblbieenfghbdaaDoorW.PrintMore
set_option linter.unusedVariables false
set_option linter.unusedSimpArgs false
/-- Four numbers of a source. -/
def get4 (k : Nat) (f0 : List Int) (f1 f2 : Int) (bad : Bool) : Option (Int × Int × Int × Int × Int × Int × Bool) :=
  (codec_source_get.f k f0 f1 f2 bad).bind fun r1 => (codec_source_get.f k f0 r1.2.1 r1.2.2.1 r1.2.2.2).bind fun r2 =>
    (codec_source_get.f k f0 r2.2.1 r2.2.2.1 r2.2.2.2).bind fun r3 => (codec_source_get.f k f0 r3.2.1 r3.2.2.1 r3.2.2.2).bind fun r4 => some (r1.1, r2.1, r3.1, r4.1, r4.2.1, r4.2.2.1, r4.2.2.2)
theorem dec_step (k : Nat) (f0 : List Int) (m : Nat) (f1 f2 : Int) (bad : Bool) (a b : Int) (x : S44) (out : List S44) :
    codec_Decode.l0 k f0 (m + 1) f1 f2 bad a b x out = (get4 k f0 f1 f2 bad).bind fun g => if encB (nextC a b x g.1 g.2.1 g.2.2.1 g.2.2.2.1) = true then
      codec_Decode.l0 k f0 m g.2.2.2.2.1 g.2.2.2.2.2.1 g.2.2.2.2.2.2 (wrap64 (a + wrap64 (b + g.1))) (wrap64 (b + g.1)) (nextC a b x g.1 g.2.1 g.2.2.1 g.2.2.2.1) (out ++ [nextC a b x g.1 g.2.1 g.2.2.1 g.2.2.2.1]) else some ([], 2) := by
  rw [codec_Decode.l0, get4]
  simp only [Option.bind_assoc, Option.bind_some]
/-- A source reads on. -/
theorem good_get (bs : List Int) (hb : AllB bs) (hl : bs.length < 100000000) (R : List Bool) (hR : R.length ≤ 8 * bs.length) (hd : (unpack bs).drop (8 * bs.length - R.length) = R) :
    (∀ n S, get1 R = some (n, S) → Ev (fun k => codec_source_get.f k bs ((8 * bs.length - R.length : Nat) : Int) 0 false) (n, ((8 * bs.length - S.length : Nat) : Int), 0, false) ∧ S.length ≤ 8 * bs.length ∧ (unpack bs).drop (8 * bs.length - S.length) = S) ∧
    (get1 R = none → ∃ n e b', ∃ p' : Nat, p' ≤ 8 * bs.length ∧ (b' = true ∨ e ≠ 0) ∧ Ev (fun k => codec_source_get.f k bs ((8 * bs.length - R.length : Nat) : Int) 0 false) (n, (p' : Int), e, b')) := by
  have hul := unpack_length bs
  obtain ⟨g1, g2⟩ := src_get bs hb hl (8 * bs.length - R.length) (by omega) false
  rw [hd] at g1 g2
  constructor
  · intro n S h
    rw [get1] at h
    obtain ⟨⟨c, sh, T⟩, hg, h⟩ := Option.bind_eq_some_iff.1 h
    simp only [] at h
    cases sh with
    | true => rw [if_pos rfl] at h; cases h
    | false =>
      rw [if_neg (by simp)] at h
      simp only [Option.some.injEq, Prod.mk.injEq] at h
      obtain ⟨rfl, rfl⟩ := h
      have hE := g1 c false T hg
      obtain ⟨i, hi6, hu, hle, hn, hbb, hSl, hSd⟩ := getP_some hg
      refine ⟨hE, by omega, ?_⟩
      have e1 : (unpack bs).drop (8 * bs.length - T.length) = ((unpack bs).drop (8 * bs.length - R.length)).drop (i + 1 + wN i) := by
        rw [List.drop_drop]
        congr 1
        omega
      rw [e1, hd, ← hSd]
  · intro h
    rw [get1] at h
    cases hg : getP R with
    | none =>
      obtain ⟨n, e, b', p', hp', he, hE⟩ := g2 hg
      exact ⟨n, e, b', p', hp', .inr he, hE⟩
    | some g =>
      obtain ⟨c, sh, T⟩ := g
      rw [hg, Option.bind_some] at h
      simp only [] at h
      cases sh with
      | false => rw [if_neg (by simp)] at h; cases h
      | true => exact ⟨c, 0, false || true, _, by omega, .inl rfl, g1 c true T hg⟩
/-- A failed source reads four numbers and has failed. -/
theorem four_failed (bs : List Int) (hb : AllB bs) (hl : bs.length < 100000000) (p : Nat) (hp : p ≤ 8 * bs.length) (e : Int) (bad : Bool) (hf : bad = true ∨ e ≠ 0) :
    ∃ n1 n2 n3 n4 e' b', ∃ p' : Nat, p' ≤ 8 * bs.length ∧ (b' = true ∨ e' ≠ 0) ∧ Ev (fun k => get4 k bs (p : Int) e bad) (n1, n2, n3, n4, (p' : Int), e', b') := by
  obtain ⟨n1, e1, b1, p1, hp1, hf1, hE1⟩ := src_failed bs hb hl p hp e bad hf
  obtain ⟨n2, e2, b2, p2, hp2, hf2, hE2⟩ := src_failed bs hb hl p1 hp1 e1 b1 hf1
  obtain ⟨n3, e3, b3, p3, hp3, hf3, hE3⟩ := src_failed bs hb hl p2 hp2 e2 b2 hf2
  obtain ⟨n4, e4, b4, p4, hp4, hf4, hE4⟩ := src_failed bs hb hl p3 hp3 e3 b3 hf3
  exact ⟨n1, n2, n3, n4, e4, b4, p4, hp4, hf4, Ev.bind hE1 (Ev.bind hE2 (Ev.bind hE3 (Ev.bind hE4 (Ev.now _))))⟩
theorem four_good (bs : List Int) (hb : AllB bs) (hl : bs.length < 100000000) (R : List Bool) (hR : R.length ≤ 8 * bs.length) (hd : (unpack bs).drop (8 * bs.length - R.length) = R) :
    (∀ c1 c2 c3 c4 S, rd4 R = some (c1, c2, c3, c4, S) → Ev (fun k => get4 k bs ((8 * bs.length - R.length : Nat) : Int) 0 false) (c1, c2, c3, c4, ((8 * bs.length - S.length : Nat) : Int), 0, false) ∧ S.length ≤ 8 * bs.length ∧ (unpack bs).drop (8 * bs.length - S.length) = S) ∧
    (rd4 R = none → ∃ n1 n2 n3 n4 e' b', ∃ p' : Nat, p' ≤ 8 * bs.length ∧ (b' = true ∨ e' ≠ 0) ∧ Ev (fun k => get4 k bs ((8 * bs.length - R.length : Nat) : Int) 0 false) (n1, n2, n3, n4, (p' : Int), e', b')) := by
  obtain ⟨a1, a2⟩ := good_get bs hb hl R hR hd
  rw [rd4]
  cases h1 : get1 R with
  | none =>
    refine ⟨fun c1 c2 c3 c4 S h => (by cases h), fun _ => ?_⟩
    obtain ⟨n1, e1, b1, p1, hp1, hf1, hE1⟩ := a2 h1
    obtain ⟨n2, e2, b2, p2, hp2, hf2, hE2⟩ := src_failed bs hb hl p1 hp1 e1 b1 hf1
    obtain ⟨n3, e3, b3, p3, hp3, hf3, hE3⟩ := src_failed bs hb hl p2 hp2 e2 b2 hf2
    obtain ⟨n4, e4, b4, p4, hp4, hf4, hE4⟩ := src_failed bs hb hl p3 hp3 e3 b3 hf3
    exact ⟨n1, n2, n3, n4, e4, b4, p4, hp4, hf4, Ev.bind hE1 (Ev.bind hE2 (Ev.bind hE3 (Ev.bind hE4 (Ev.now _))))⟩
  | some g1 =>
    obtain ⟨n1, S1⟩ := g1
    obtain ⟨hE1, hS1, hd1⟩ := a1 n1 S1 h1
    obtain ⟨b1, b2⟩ := good_get bs hb hl S1 hS1 hd1
    rw [Option.bind_some]
    cases h2 : get1 S1 with
    | none =>
      refine ⟨fun c1 c2 c3 c4 S h => (by simp only [h2] at h; cases h), fun _ => ?_⟩
      obtain ⟨n2, e2, b2_, p2, hp2, hf2, hE2⟩ := b2 h2
      obtain ⟨n3, e3, b3, p3, hp3, hf3, hE3⟩ := src_failed bs hb hl p2 hp2 e2 b2_ hf2
      obtain ⟨n4, e4, b4, p4, hp4, hf4, hE4⟩ := src_failed bs hb hl p3 hp3 e3 b3 hf3
      exact ⟨n1, n2, n3, n4, e4, b4, p4, hp4, hf4, Ev.bind hE1 (Ev.bind hE2 (Ev.bind hE3 (Ev.bind hE4 (Ev.now _))))⟩
    | some g2 =>
      obtain ⟨n2, S2⟩ := g2
      obtain ⟨hE2, hS2, hd2⟩ := b1 n2 S2 h2
      obtain ⟨c1_, c2_⟩ := good_get bs hb hl S2 hS2 hd2
      cases h3 : get1 S2 with
      | none =>
        refine ⟨fun c1 c2 c3 c4 S h => (by simp only [h2, Option.bind_some, h3] at h; cases h), fun _ => ?_⟩
        obtain ⟨n3, e3, b3, p3, hp3, hf3, hE3⟩ := c2_ h3
        obtain ⟨n4, e4, b4, p4, hp4, hf4, hE4⟩ := src_failed bs hb hl p3 hp3 e3 b3 hf3
        exact ⟨n1, n2, n3, n4, e4, b4, p4, hp4, hf4, Ev.bind hE1 (Ev.bind hE2 (Ev.bind hE3 (Ev.bind hE4 (Ev.now _))))⟩
      | some g3 =>
        obtain ⟨n3, S3⟩ := g3
        obtain ⟨hE3, hS3, hd3⟩ := c1_ n3 S3 h3
        obtain ⟨d1, d2⟩ := good_get bs hb hl S3 hS3 hd3
        cases h4 : get1 S3 with
        | none =>
          refine ⟨fun c1 c2 c3 c4 S h => (by simp only [h2, Option.bind_some, h3, h4] at h; cases h), fun _ => ?_⟩
          obtain ⟨n4, e4, b4, p4, hp4, hf4, hE4⟩ := d2 h4
          exact ⟨n1, n2, n3, n4, e4, b4, p4, hp4, hf4, Ev.bind hE1 (Ev.bind hE2 (Ev.bind hE3 (Ev.bind hE4 (Ev.now _))))⟩
        | some g4 =>
          obtain ⟨n4, S4⟩ := g4
          obtain ⟨hE4, hS4, hd4⟩ := d1 n4 S4 h4
          refine ⟨fun c1 c2 c3 c4 S h => ?_, fun h => (by simp only [h2, Option.bind_some, h3, h4] at h; cases h)⟩
          simp only [h2, Option.bind_some, h3, h4, Option.some.injEq, Prod.mk.injEq] at h
          obtain ⟨rfl, rfl, rfl, rfl, rfl⟩ := h
          exact ⟨Ev.bind hE1 (Ev.bind hE2 (Ev.bind hE3 (Ev.bind hE4 (Ev.now _)))), hS4, hd4⟩
theorem e_failed (bs : List Int) (p e : Int) (bad : Bool) (out : List S44) (hf : bad = true ∨ e ≠ 0) : Ev (fun k => codec_Decode.e k bs p e bad out) ([], 2) := by
  refine Ev.congr (fun k => ?_) (Ev.now _)
  rw [codec_Decode.e]
  cases bad with
  | true => rw [if_pos rfl]
  | false =>
    have he : e ≠ 0 := by rcases hf with h | h; cases h; exact h
    rw [if_neg (by decide), bits_Reader_End.f, if_neg he, Option.bind_some, if_neg he]
theorem dec_failed (bs : List Int) (hb : AllB bs) (hl : bs.length < 100000000) : ∀ (m p : Nat) (e : Int) (bad : Bool) (a b : Int) (x : S44) (out : List S44), p ≤ 8 * bs.length → (bad = true ∨ e ≠ 0) →
    Ev (fun k => codec_Decode.l0 k bs m (p : Int) e bad a b x out) ([], 2)
  | 0, p, e, bad, a, b, x, out, hp, hf => e_failed bs p e bad out hf
  | m + 1, p, e, bad, a, b, x, out, hp, hf => by
    obtain ⟨n1, n2, n3, n4, e', b', p', hp', hf', hE⟩ := four_failed bs hb hl p hp e bad hf
    refine Ev.congr (fun k => dec_step k bs m _ _ _ _ _ _ _) ?_
    refine Ev.bind hE ?_
    by_cases c : encB (nextC a b x n1 n2 n3 n4) = true
    · exact Ev.congr (fun k => if_pos c) (dec_failed bs hb hl m p' e' b' _ _ _ _ hp' hf')
    · exact Ev.congr (fun k => if_neg c) (Ev.now _)
/-- The state behind a claim, as the coder has it. -/
def stOf (a b : Int) (x : S44) : CSt := ⟨a, b, wrap64 (x.f1 - x.f0), x.f2, wrap64 (x.f3 - x.f2)⟩
theorem next_made (a b : Int) (x : S44) (c1 c2 c3 c4 : Int) : nextC a b x c1 c2 c3 c4 = made (stOf a b x) c1 c2 c3 c4 := by
  apply SC.ext
  · rfl
  · simp only [nextC, made, stOf]
    generalize wrap64 (a + wrap64 (b + c1)) = F
    unfold wrap64
    omega
  · rfl
  · simp only [nextC, made, stOf]
    generalize wrap64 (x.f2 + c3) = F
    unfold wrap64
    omega
theorem st_next (a b : Int) (x : S44) (c1 c2 c3 c4 : Int) (ha : I64 a) : (stOf a b x).next (made (stOf a b x) c1 c2 c3 c4) = stOf (wrap64 (a + wrap64 (b + c1))) (wrap64 (b + c1)) (made (stOf a b x) c1 c2 c3 c4) := by
  have e : wrap64 (wrap64 (a + wrap64 (b + c1)) - a) = wrap64 (b + c1) := by unfold I64 at ha; unfold wrap64; omega
  simp only [CSt.next, stOf, made, e]
theorem dec_reads (bs : List Int) (hb : AllB bs) (hl : bs.length < 100000000) : ∀ (m : Nat) (R : List Bool) (a b : Int) (x : S44) (out : List S44), R.length ≤ 8 * bs.length → (unpack bs).drop (8 * bs.length - R.length) = R → I64 a →
    Ev (fun k => codec_Decode.l0 k bs m ((8 * bs.length - R.length : Nat) : Int) 0 false a b x out) (match rdClaims m R (stOf a b x) with
      | some (l, S) => if fills S = true then (out ++ l, 0) else ([], 2)
      | none => ([], 2))
  | 0, R, a, b, x, out, hR, hd, ha => by
    obtain ⟨e, hEe, hiff⟩ := rd_end bs hb hl (8 * bs.length - R.length) (by omega)
    rw [hd] at hiff
    simp only [rdClaims, List.append_nil]
    have h0 : ∀ k, codec_Decode.l0 k bs 0 ((8 * bs.length - R.length : Nat) : Int) 0 false a b x out = (bits_Reader_End.f k bs ((8 * bs.length - R.length : Nat) : Int) 0).bind fun e => if e.1 = 0 then some (out, 0) else some ([], 2) := fun k => by
      rw [codec_Decode.l0, codec_Decode.e, if_neg (by decide)]
    refine Ev.congr h0 (Ev.bind hEe ?_)
    by_cases hf : fills R = true
    · rw [if_pos hf]
      exact Ev.congr (fun k => if_pos (hiff.2 hf)) (Ev.now _)
    · rw [if_neg hf]
      exact Ev.congr (fun k => if_neg (fun h => hf (hiff.1 h))) (Ev.now _)
  | m + 1, R, a, b, x, out, hR, hd, ha => by
    obtain ⟨g1, g2⟩ := four_good bs hb hl R hR hd
    refine Ev.congr (fun k => dec_step k bs m _ _ _ _ _ _ _) ?_
    cases h4 : rd4 R with
    | none =>
      obtain ⟨n1, n2, n3, n4, e', b', p', hp', hf', hE⟩ := g2 h4
      rw [rdClaims, h4, Option.bind_none]
      refine Ev.bind hE ?_
      by_cases c : encB (nextC a b x n1 n2 n3 n4) = true
      · exact Ev.congr (fun k => if_pos c) (dec_failed bs hb hl m p' e' b' _ _ _ _ hp' hf')
      · exact Ev.congr (fun k => if_neg c) (Ev.now _)
    | some g =>
      obtain ⟨c1, c2, c3, c4, S⟩ := g
      obtain ⟨hE, hS, hdS⟩ := g1 c1 c2 c3 c4 S h4
      refine Ev.bind hE ?_
      simp only []
      rw [next_made, rdClaims, h4, Option.bind_some]
      simp only []
      by_cases c : encB (made (stOf a b x) c1 c2 c3 c4) = true
      · rw [if_pos c, st_next a b x c1 c2 c3 c4 ha]
        refine Ev.congr (fun k => if_pos c) ?_
        have ih := dec_reads bs hb hl m S (wrap64 (a + wrap64 (b + c1))) (wrap64 (b + c1)) (made (stOf a b x) c1 c2 c3 c4) (out ++ [made (stOf a b x) c1 c2 c3 c4]) hS hdS (I64.wrap _)
        cases hr : rdClaims m S (stOf (wrap64 (a + wrap64 (b + c1))) (wrap64 (b + c1)) (made (stOf a b x) c1 c2 c3 c4)) with
        | none =>
          rw [hr] at ih
          rw [Option.bind_none]
          exact ih
        | some s =>
          obtain ⟨l', S'⟩ := s
          rw [hr] at ih
          rw [Option.bind_some]
          simp only [List.append_assoc, List.singleton_append] at ih ⊢
          exact ih
      · rw [if_neg c]
        exact Ev.congr (fun k => if_neg c) (Ev.now _)
/-- What Decode gives. -/
def claimRes (bs : List Int) : List S44 × Int := match parseClaims bs with
  | some l => (l, 0)
  | none => ([], 2)
theorem read_claims (bs : List Int) (hb : AllB bs) (hl : bs.length < 1000000) : Ev (fun k => codec_Decode.f k bs) (claimRes bs) := by
  have hul := unpack_length bs
  obtain ⟨g1, g2⟩ := src_get bs hb (by omega) 0 (by omega) false
  rw [List.drop_zero] at g1 g2
  refine Ev.congr (f := fun k => (codec_source_get.f k bs ((0 : Nat) : Int) 0 false).bind fun r => if r.1 < 0 then some ([], 2) else if 4096 < r.1 then some ([], 2) else codec_Decode.l0 k bs r.1.toNat r.2.1 r.2.2.1 r.2.2.2 0 0 ⟨0, 0, 0, 0⟩ []) (fun k => ?_) ?_
  · rw [codec_Decode.f, if_pos (by omega)]
    rfl
  have hfail : ∀ (n e : Int) (b' : Bool) (p' : Nat), p' ≤ 8 * bs.length → (b' = true ∨ e ≠ 0) → Ev (fun k => if n < 0 then some (([] : List S44), (2 : Int)) else if 4096 < n then some ([], 2) else codec_Decode.l0 k bs n.toNat (p' : Int) e b' 0 0 ⟨0, 0, 0, 0⟩ []) ([], 2) := by
    intro n e b' p' hp' hf
    by_cases c1 : n < 0
    · exact Ev.congr (fun k => if_pos c1) (Ev.now _)
    refine Ev.congr (fun k => if_neg c1) ?_
    by_cases c2 : 4096 < n
    · exact Ev.congr (fun k => if_pos c2) (Ev.now _)
    exact Ev.congr (fun k => if_neg c2) (dec_failed bs hb (by omega) n.toNat p' e b' 0 0 _ [] hp' hf)
  cases hg : getP (unpack bs) with
  | none =>
    have hres : claimRes bs = ([], 2) := by simp only [claimRes, parseClaims, hg, Option.bind_none]
    rw [hres]
    obtain ⟨n, e, b', p', hp', he, hEv⟩ := g2 hg
    exact Ev.bind hEv (hfail n e b' p' hp' (.inr he))
  | some g =>
    obtain ⟨n, sh, T⟩ := g
    have hEv := g1 n sh T hg
    rw [Bool.false_or] at hEv
    cases sh with
    | true =>
      have hres : claimRes bs = ([], 2) := by simp only [claimRes, parseClaims, hg, Option.bind_some, true_or, if_true]
      rw [hres]
      exact Ev.bind hEv (hfail n 0 true _ (by omega) (.inl rfl))
    | false =>
      refine Ev.bind hEv ?_
      simp only []
      by_cases c1 : n < 0
      · have hres : claimRes bs = ([], 2) := by simp only [claimRes, parseClaims, hg, Option.bind_some, c1, true_or, or_true, if_true]
        rw [hres]
        exact Ev.congr (fun k => if_pos c1) (Ev.now _)
      by_cases c2 : 4096 < n
      · have hres : claimRes bs = ([], 2) := by simp only [claimRes, parseClaims, hg, Option.bind_some, c2, or_true, if_true]
        rw [hres]
        refine Ev.congr (fun k => if_neg c1) ?_
        exact Ev.congr (fun k => if_pos c2) (Ev.now _)
      refine Ev.congr (fun k => if_neg c1) ?_
      refine Ev.congr (fun k => if_neg c2) ?_
      obtain ⟨i, hi6, hu, hle, hn, hbb, hSl, hSd⟩ := getP_some hg
      rw [hul] at hle hSl
      have hdT : (unpack bs).drop (8 * bs.length - T.length) = T := by
        rw [hSd]
        congr 1
        rw [List.length_drop, hul]
        omega
      have h := dec_reads bs hb (by omega) n.toNat T 0 0 ⟨0, 0, 0, 0⟩ [] (by omega) hdT (by unfold I64; omega)
      have hpi : parseClaims bs = (rdClaims n.toNat T CSt.zero).bind fun s => if fills s.2 = true then some s.1 else none := by
        rw [parseClaims, hg, Option.bind_some, if_neg (by simp only [Bool.false_eq_true, false_or]; omega)]
      have hz : stOf 0 0 ⟨0, 0, 0, 0⟩ = CSt.zero := by simp [stOf, CSt.zero, wrap64]
      rw [hz] at h
      have hres : claimRes bs = (match rdClaims n.toNat T CSt.zero with
        | some (l, S) => if fills S = true then ([] ++ l, 0) else ([], 2)
        | none => ([], 2)) := by
        rw [claimRes, hpi]
        cases rdClaims n.toNat T CSt.zero with
        | none => rfl
        | some s =>
          obtain ⟨l, S⟩ := s
          rw [Option.bind_some]
          simp only [List.nil_append]
          by_cases hf : fills S = true
          · rw [if_pos hf, if_pos hf]
          · rw [if_neg hf, if_neg hf]
      rw [hres]
      exact h
end Go.Proofs.YtblbieenfghbdaaDoor.E
