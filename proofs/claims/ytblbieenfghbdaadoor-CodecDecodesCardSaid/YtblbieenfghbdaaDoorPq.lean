/- The plain law of the reference's Decode: it gives what codec.Decode gives. -/
import Derived.Test.YtblbieenfghbdaaDoorPk
import Derived.Test.YtblbieenfghbdaaDoorPo
import Derived.Test.YtblbieenfghbdaaDoorKo
namespace Go.Proofs.YtblbieenfghbdaaDoor.E
open Go.RowKit Go.Proofs.YtblbieenfghbdaaDoor.D Go.Proofs.YtblbieenfghbdaaDoorW.PrintWords Go.Proofs.YtblbieenfghbdaaDoorW.PrintLast Go.Proofs.YtblbieenfghbdaaDoorW.PrintMore
set_option linter.unusedVariables false
set_option linter.unusedSimpArgs false
/-- As many claims, encodable or not. -/
def rdAll : Nat → List Bool → CSt → Option (List SC × List Bool)
  | 0, R, _ => some ([], R)
  | m + 1, R, s => (rd4 R).bind fun g => (rdAll m g.2.2.2.2 (s.next (made s g.1 g.2.1 g.2.2.1 g.2.2.2.1))).bind fun r => some (made s g.1 g.2.1 g.2.2.1 g.2.2.2.1 :: r.1, r.2)
theorem rdAll_claims : ∀ (m : Nat) (R : List Bool) (s : CSt), rdClaims m R s = (rdAll m R s).bind fun r => if r.1.all encB = true then some r else none
  | 0, R, s => by simp [rdClaims, rdAll]
  | m + 1, R, s => by
    rw [rdClaims, rdAll]
    cases h4 : rd4 R with
    | none => rfl
    | some g =>
      simp only [Option.bind_some]
      by_cases c : encB (made s g.1 g.2.1 g.2.2.1 g.2.2.2.1) = true
      · rw [if_pos c, rdAll_claims m]
        cases rdAll m g.2.2.2.2 (s.next (made s g.1 g.2.1 g.2.2.1 g.2.2.2.1)) with
        | none => rfl
        | some r =>
          simp only [Option.bind_some, List.all_cons, c, Bool.true_and]
          by_cases d : r.1.all encB = true
          · rw [if_pos d, if_pos d]; rfl
          · rw [if_neg d, if_neg d]; rfl
      · rw [if_neg c]
        cases rdAll m g.2.2.2.2 (s.next (made s g.1 g.2.1 g.2.2.1 g.2.2.2.1)) with
        | none => rfl
        | some r =>
          simp only [Option.bind_some, List.all_cons]
          have c' : encB (made s g.1 g.2.1 g.2.2.1 g.2.2.2.1) = false := by cases h : encB (made s g.1 g.2.1 g.2.2.1 g.2.2.2.1) with
            | true => exact absurd h c
            | false => rfl
          exact (if_neg (by rw [c', Bool.false_and]; decide)).symm
theorem rdAll_length : ∀ (m : Nat) (R : List Bool) (s : CSt) (l : List SC) (S : List Bool), rdAll m R s = some (l, S) → l.length = m
  | 0, R, s, l, S, h => by simp only [rdAll, Option.some.injEq, Prod.mk.injEq] at h; rw [← h.1]; rfl
  | m + 1, R, s, l, S, h => by
    rw [rdAll] at h
    obtain ⟨g, _, h⟩ := Option.bind_eq_some_iff.1 h
    obtain ⟨⟨l', S'⟩, hr, h⟩ := Option.bind_eq_some_iff.1 h
    simp only [Option.some.injEq, Prod.mk.injEq] at h
    rw [← h.1, List.length_cons, rdAll_length m _ _ l' S' hr]
theorem ref_get1 (L : List Bool) (hL : L.length < 1000000000) (p : Nat) (hp : p ≤ L.length) :
    (∀ n S, get1 (L.drop p) = some (n, S) → Ev (fun k => intervalmonref15_Read.f k L (p : Int) 0) (n, true, ((L.length - S.length : Nat) : Int), 0) ∧ S.length ≤ L.length ∧ L.drop (L.length - S.length) = S) ∧
    (get1 (L.drop p) = none → ∃ n p' e, Ev (fun k => intervalmonref15_Read.f k L (p : Int) 0) (n, false, p', e)) := by
  obtain ⟨g1, g2⟩ := ref_read L hL p hp
  cases hg : getP (L.drop p) with
  | none =>
    refine ⟨fun n S h => (by rw [get1, hg] at h; cases h), fun _ => g2 hg⟩
  | some g =>
    obtain ⟨n, sh, T⟩ := g
    have hEv := g1 n sh T hg
    obtain ⟨i, hi6, hu, hle, hn, hbb, hSl, hSd⟩ := getP_some hg
    rw [List.length_drop] at hle hSl
    have hdT : L.drop (L.length - T.length) = T := by
      rw [hSd, List.drop_drop]
      congr 1
      rw [List.length_drop]
      omega
    cases sh with
    | true =>
      refine ⟨fun n' S h => (by rw [get1, hg, Option.bind_some, if_pos rfl] at h; cases h), fun _ => ⟨n, _, _, hEv⟩⟩
    | false =>
      refine ⟨fun n' S h => ?_, fun h => (by rw [get1, hg, Option.bind_some, if_neg (by simp)] at h; cases h)⟩
      rw [get1, hg, Option.bind_some, if_neg (by simp)] at h
      simp only [Option.some.injEq, Prod.mk.injEq] at h
      obtain ⟨rfl, rfl⟩ := h
      exact ⟨hEv, by omega, hdT⟩
theorem four_step (L : List Bool) (xs : List Int) (i : Int) (p p' : Int) (n : Int) (res : List Int × Bool × Int × Int) (hi : i < 4) (hx : xs.length < 100)
    (h : Ev (fun k => intervalmonref15_Read.f k L p 0) (n, true, p', 0)) (k : Ev (fun k => intervalmonref15_four.l0 k (xs ++ [n]) (wrap64 (i + 1)) L p' 0) res) :
    Ev (fun k => intervalmonref15_four.l0 k xs i L p 0) res := by
  refine Ev.step (f := fun k => (intervalmonref15_Read.f k L p 0).bind fun bt191 => (if bt191.2.1 = true then (if xs.length < 17592186044416 then (intervalmonref15_four.l0 k (xs ++ [bt191.1]) (wrap64 (i + 1)) L bt191.2.2.1 bt191.2.2.2) else (none)) else (some (([] : List Int), false, bt191.2.2.1, bt191.2.2.2)))) (fun k => ?_) ?_
  · rw [intervalmonref15_four.l0, if_pos hi]
  · refine Ev.bind h ?_
    refine Ev.congr (fun k => if_pos rfl) ?_
    exact Ev.congr (fun k => if_pos (by omega)) k
theorem four_stop (L : List Bool) (xs : List Int) (i : Int) (p p' e n : Int) (hi : i < 4)
    (h : Ev (fun k => intervalmonref15_Read.f k L p 0) (n, false, p', e)) : Ev (fun k => intervalmonref15_four.l0 k xs i L p 0) ([], false, p', e) := by
  refine Ev.step (f := fun k => (intervalmonref15_Read.f k L p 0).bind fun bt191 => (if bt191.2.1 = true then (if xs.length < 17592186044416 then (intervalmonref15_four.l0 k (xs ++ [bt191.1]) (wrap64 (i + 1)) L bt191.2.2.1 bt191.2.2.2) else (none)) else (some (([] : List Int), false, bt191.2.2.1, bt191.2.2.2)))) (fun k => ?_) ?_
  · rw [intervalmonref15_four.l0, if_pos hi]
  · refine Ev.bind h ?_
    exact Ev.congr (fun k => if_neg (by simp)) (Ev.now _)
theorem ref_four (L : List Bool) (hL : L.length < 1000000000) (p : Nat) (hp : p ≤ L.length) :
    (∀ c1 c2 c3 c4 S, rd4 (L.drop p) = some (c1, c2, c3, c4, S) → Ev (fun k => intervalmonref15_four.f k L (p : Int) 0) ([c1, c2, c3, c4], true, ((L.length - S.length : Nat) : Int), 0) ∧ S.length ≤ L.length ∧ L.drop (L.length - S.length) = S) ∧
    (rd4 (L.drop p) = none → ∃ p' e, Ev (fun k => intervalmonref15_four.f k L (p : Int) 0) ([], false, p', e)) := by
  have w1 : wrap64 (0 + 1) = 1 := by unfold wrap64; omega
  have w2 : wrap64 (1 + 1) = 2 := by unfold wrap64; omega
  have w3 : wrap64 (2 + 1) = 3 := by unfold wrap64; omega
  have w4 : wrap64 (3 + 1) = 4 := by unfold wrap64; omega
  obtain ⟨a1, b1⟩ := ref_get1 L hL p hp
  cases h1 : get1 (L.drop p) with
  | none =>
    obtain ⟨n, p', e, hE⟩ := b1 h1
    exact ⟨fun c1 c2 c3 c4 S h => (by rw [rd4, h1] at h; cases h), fun _ => ⟨p', e, four_stop L [] 0 _ _ _ _ (by decide) hE⟩⟩
  | some g1 =>
  obtain ⟨n1, S1⟩ := g1
  obtain ⟨e1, l1, d1⟩ := a1 n1 S1 h1
  obtain ⟨a2, b2⟩ := ref_get1 L hL (L.length - S1.length) (by omega)
  rw [d1] at a2 b2
  cases h2 : get1 S1 with
  | none =>
    obtain ⟨n, p', e, hE⟩ := b2 h2
    refine ⟨fun c1 c2 c3 c4 S h => (by rw [rd4, h1, Option.bind_some, h2] at h; cases h), fun _ => ⟨p', e, ?_⟩⟩
    refine four_step L [] 0 _ _ _ _ (by decide) (by decide) e1 ?_
    rw [w1]
    exact four_stop L _ 1 _ _ _ _ (by decide) hE
  | some g2 =>
  obtain ⟨n2, S2⟩ := g2
  obtain ⟨e2, l2, d2⟩ := a2 n2 S2 h2
  obtain ⟨a3, b3⟩ := ref_get1 L hL (L.length - S2.length) (by omega)
  rw [d2] at a3 b3
  cases h3 : get1 S2 with
  | none =>
    obtain ⟨n, p', e, hE⟩ := b3 h3
    refine ⟨fun c1 c2 c3 c4 S h => (by rw [rd4, h1, Option.bind_some, h2, Option.bind_some, h3] at h; cases h), fun _ => ⟨p', e, ?_⟩⟩
    refine four_step L [] 0 _ _ _ _ (by decide) (by decide) e1 ?_
    rw [w1]
    refine four_step L _ 1 _ _ _ _ (by decide) (by simp) e2 ?_
    rw [w2]
    exact four_stop L _ 2 _ _ _ _ (by decide) hE
  | some g3 =>
  obtain ⟨n3, S3⟩ := g3
  obtain ⟨e3, l3, d3⟩ := a3 n3 S3 h3
  obtain ⟨a4, b4⟩ := ref_get1 L hL (L.length - S3.length) (by omega)
  rw [d3] at a4 b4
  cases h4 : get1 S3 with
  | none =>
    obtain ⟨n, p', e, hE⟩ := b4 h4
    refine ⟨fun c1 c2 c3 c4 S h => (by rw [rd4, h1, Option.bind_some, h2, Option.bind_some, h3, Option.bind_some, h4] at h; cases h), fun _ => ⟨p', e, ?_⟩⟩
    refine four_step L [] 0 _ _ _ _ (by decide) (by decide) e1 ?_
    rw [w1]
    refine four_step L _ 1 _ _ _ _ (by decide) (by simp) e2 ?_
    rw [w2]
    refine four_step L _ 2 _ _ _ _ (by decide) (by simp) e3 ?_
    rw [w3]
    exact four_stop L _ 3 _ _ _ _ (by decide) hE
  | some g4 =>
  obtain ⟨n4, S4⟩ := g4
  obtain ⟨e4, l4, d4⟩ := a4 n4 S4 h4
  refine ⟨fun c1 c2 c3 c4 S h => ?_, fun h => (by rw [rd4, h1, Option.bind_some, h2, Option.bind_some, h3, Option.bind_some, h4] at h; cases h)⟩
  rw [rd4, h1, Option.bind_some, h2, Option.bind_some, h3, Option.bind_some, h4, Option.bind_some] at h
  simp only [Option.some.injEq, Prod.mk.injEq] at h
  obtain ⟨rfl, rfl, rfl, rfl, rfl⟩ := h
  refine ⟨?_, l4, d4⟩
  refine four_step L [] 0 _ _ _ _ (by decide) (by decide) e1 ?_
  rw [w1]
  refine four_step L _ 1 _ _ _ _ (by decide) (by simp) e2 ?_
  rw [w2]
  refine four_step L _ 2 _ _ _ _ (by decide) (by simp) e3 ?_
  rw [w3]
  refine four_step L _ 3 _ _ _ _ (by decide) (by simp) e4 ?_
  rw [w4]
  refine Ev.step (fun k => ?_) (Ev.now _)
  rw [intervalmonref15_four.l0, if_neg (by decide)]
  rfl
theorem nextR_made (s : Int) (x : S44) (c1 c2 c3 c4 : Int) : nextR s x c1 c2 c3 c4 = made (stOf x.f0 s x) c1 c2 c3 c4 := rfl
theorem refdec_loop (L : List Bool) (hL : L.length < 1000000000) (x0 : List Int) : ∀ (m p : Nat) (s : Int) (x : S44) (out : List S44), p ≤ L.length → I64 x.f0 →
    (∀ l S res, rdAll m (L.drop p) (stOf x.f0 s x) = some (l, S) → Ev (fun k => intervalmonref15_Decode.e k x0 (out ++ l)) res → Ev (fun k => intervalmonref15_Decode.l0 k L x0 m (p : Int) 0 s x out) res) ∧
    (rdAll m (L.drop p) (stOf x.f0 s x) = none → Ev (fun k => intervalmonref15_Decode.l0 k L x0 m (p : Int) 0 s x out) ([], 2))
  | 0, p, s, x, out, hp, hx => by
    refine ⟨fun l S res h hE => ?_, fun h => (by cases h)⟩
    simp only [rdAll, Option.some.injEq, Prod.mk.injEq] at h
    obtain ⟨rfl, rfl⟩ := h
    rw [List.append_nil] at hE
    exact hE
  | m + 1, p, s, x, out, hp, hx => by
    obtain ⟨g1, g2⟩ := ref_four L hL p hp
    cases h4 : rd4 (L.drop p) with
    | none =>
      refine ⟨fun l S res h => (by rw [rdAll, h4] at h; cases h), fun h => ?_⟩
      obtain ⟨p', e, hEv⟩ := g2 h4
      refine Ev.bind hEv ?_
      exact Ev.congr (fun k => if_neg (by simp)) (Ev.now _)
    | some g =>
      obtain ⟨c1, c2, c3, c4, T⟩ := g
      obtain ⟨hEv, hTl, hdT⟩ := g1 c1 c2 c3 c4 T h4
      obtain ⟨y, hy⟩ : ∃ y, made (stOf x.f0 s x) c1 c2 c3 c4 = y := ⟨_, rfl⟩
      have hy0 : y.f0 = wrap64 (x.f0 + wrap64 (s + c1)) := by rw [← hy]; rfl
      have hst : (stOf x.f0 s x).next y = stOf y.f0 (wrap64 (s + c1)) y := by
        rw [← hy, st_next _ _ _ _ _ _ _ hx]
        rfl
      obtain ⟨ih1, ih2⟩ := refdec_loop L hL x0 m (L.length - T.length) (wrap64 (s + c1)) y (out ++ [y]) (by omega) (by rw [hy0]; exact I64.wrap _)
      rw [hdT] at ih1 ih2
      have go : ∀ res, Ev (fun k => intervalmonref15_Decode.l0 k L x0 m ((L.length - T.length : Nat) : Int) 0 (wrap64 (s + c1)) y (out ++ [y])) res → Ev (fun k => intervalmonref15_Decode.l0 k L x0 (m + 1) (p : Int) 0 s x out) res := by
        intro res h
        refine Ev.bind hEv ?_
        refine Ev.congr (fun k => if_pos rfl) ?_
        refine Ev.congr (fun k => if_pos rfl) ?_
        refine Ev.congr (fun k => ?_) h
        show intervalmonref15_Decode.l0 k L x0 m ((L.length - T.length : Nat) : Int) 0 (wrap64 (s + c1)) (nextR s x c1 c2 c3 c4) (out ++ [nextR s x c1 c2 c3 c4]) = _
        rw [nextR_made, hy]
      refine ⟨fun l S res h hE => ?_, fun h => ?_⟩
      · rw [rdAll, h4, Option.bind_some] at h
        simp only [] at h
        rw [hy, hst] at h
        obtain ⟨⟨l', S'⟩, hr, h⟩ := Option.bind_eq_some_iff.1 h
        simp only [Option.some.injEq, Prod.mk.injEq] at h
        obtain ⟨rfl, rfl⟩ := h
        refine go res (ih1 l' S' res hr ?_)
        rw [List.append_assoc, List.singleton_append]
        exact hE
      · rw [rdAll, h4, Option.bind_some] at h
        simp only [] at h
        rw [hy, hst] at h
        refine go _ (ih2 ?_)
        cases hr : rdAll m T (stOf y.f0 (wrap64 (s + c1)) y) with
        | none => rfl
        | some r => rw [hr] at h; cases h
theorem ref_claims (bs : List Int) (hb : AllB bs) (hl : bs.length < 100000) : Ev (fun k => intervalmonref15_Decode.f k bs) (claimRes bs) := by
  have hul := unpack_length bs
  obtain ⟨g1, g2⟩ := ref_read (unpack bs) (by omega) 0 (by omega)
  rw [List.drop_zero] at g1 g2
  refine Ev.bind (ref_unpack bs hb (by omega)) ?_
  cases hg : getP (unpack bs) with
  | none =>
    have hres : claimRes bs = ([], 2) := by simp only [claimRes, parseClaims, hg, Option.bind_none]
    rw [hres]
    obtain ⟨n, p', e, hEv⟩ := g2 hg
    refine Ev.bind hEv ?_
    exact Ev.congr (fun k => if_neg (by simp)) (Ev.now _)
  | some g =>
    obtain ⟨n, sh, T⟩ := g
    have hEv := g1 n sh T hg
    refine Ev.bind hEv ?_
    cases sh with
    | true =>
      have hres : claimRes bs = ([], 2) := by simp only [claimRes, parseClaims, hg, Option.bind_some, true_or, if_true]
      rw [hres]
      exact Ev.congr (fun k => if_neg (by simp)) (Ev.now _)
    | false =>
      refine Ev.congr (fun k => if_pos (by simp)) ?_
      simp only []
      by_cases c1 : n < 0
      · have hres : claimRes bs = ([], 2) := by simp only [claimRes, parseClaims, hg, Option.bind_some, c1, true_or, or_true, if_true]
        rw [hres]
        exact Ev.congr (fun k => if_pos c1) (Ev.now _)
      by_cases c2 : 4096 < n
      · have hres : claimRes bs = ([], 2) := by simp only [claimRes, parseClaims, hg, Option.bind_some, c2, or_true, if_true]
        rw [hres]
        refine Ev.congr (fun k => if_neg c1) ?_
        exact Ev.congr (fun k => if_pos c2) (Ev.now _)
      refine Ev.congr (fun k => if_neg c1) ?_
      refine Ev.congr (fun k => if_neg c2) ?_
      obtain ⟨hI, j, hj, hjl, hjS, hcf, hct⟩ := getP_spec _ n false T hg
      obtain ⟨i, hi6, hu, hle, hn, hbb, hSl, hSd⟩ := getP_some hg
      rw [hul] at hle hSl
      have hdT : (unpack bs).drop ((unpack bs).length - T.length) = T := by
        rw [hSd]
        congr 1
        rw [List.length_drop]
        omega
      obtain ⟨l1, l2⟩ := refdec_loop (unpack bs) (by omega) bs n.toNat ((unpack bs).length - T.length) 0 ⟨0, 0, 0, 0⟩ [] (by omega) (by unfold I64; simp)
      rw [hdT] at l1 l2
      have hz : stOf (0 : Int) 0 ⟨0, 0, 0, 0⟩ = CSt.zero := by simp [stOf, CSt.zero, wrap64]
      have hpi : parseClaims bs = (rdClaims n.toNat T CSt.zero).bind fun s => if fills s.2 = true then some s.1 else none := by
        rw [parseClaims, hg, Option.bind_some, if_neg (by simp only [Bool.false_eq_true, false_or]; omega)]
      simp only [hz] at l1 l2
      have hra := rdAll_claims n.toNat T CSt.zero
      cases hr : rdAll n.toNat T CSt.zero with
      | none =>
        have hres : claimRes bs = ([], 2) := by rw [claimRes, hpi, hra, hr]; rfl
        rw [hres]
        exact l2 hr
      | some s =>
        obtain ⟨l, S⟩ := s
        rw [hr, Option.bind_some] at hra
        have hll := rdAll_length _ _ _ _ _ hr
        refine l1 l S _ hr ?_
        rw [List.nil_append]
        refine Ev.bind (ref_encode l) ?_
        by_cases ha : l.all encB = true
        · rw [if_pos ha] at hra
          have henc : encRes l = (claimsOf l, 0) := by rw [encRes, if_neg (by omega), if_pos ha]
          rw [henc]
          refine Ev.congr (fun k => if_pos rfl) ?_
          obtain ⟨h1, h2, h3⟩ := rdClaims_spec _ T CSt.zero l S hra CSt.zero_ok
          have htail := tail_iff (bs := bs) (β := codeBits (l.length : Int) ++ claimBits CSt.zero l) (S := S) hb (by rw [hcf rfl, h3, List.append_assoc, h1, Int.toNat_of_nonneg (by omega)])
          have hcl := claimsOf_len l
          refine Ev.bind (sameBytes_ev (claimsOf l) bs (by omega)) ?_
          by_cases hf : fills S = true
          · have hres : claimRes bs = (l, 0) := by rw [claimRes, hpi, hra, Option.bind_some]; simp only [hf, if_true]
            rw [hres]
            exact Ev.congr (fun k => if_pos (decide_eq_true (htail.2 hf).symm)) (Ev.now _)
          · have hres : claimRes bs = ([], 2) := by rw [claimRes, hpi, hra, Option.bind_some]; simp only [hf]; rfl
            rw [hres]
            exact Ev.congr (fun k => if_neg (by rw [decide_eq_true_eq]; exact fun h => hf (htail.1 h.symm))) (Ev.now _)
        · rw [if_neg ha] at hra
          have henc : encRes l = ([], 5) := by rw [encRes, if_neg (by omega), if_neg ha]
          rw [henc]
          have hres : claimRes bs = ([], 2) := by rw [claimRes, hpi, hra]; rfl
          rw [hres]
          exact Ev.congr (fun k => if_neg (by decide)) (Ev.now _)
end Go.Proofs.YtblbieenfghbdaaDoor.E
