/- The plain law of the reference's Encode: it gives what codec.Encode gives. -/
import Derived.Test.YtblbieenfghbdaaDoorKj
import Derived.Test.YtblbieenfghbdaaDoorPm
import Derived.Test.YtblbieenfghbdaaDoorExD0
import Derived.Test.YtblbieenfghbdaaDoorHa
namespace Go.Proofs.YtblbieenfghbdaaDoor.E
open Go.RowKit Go.Proofs.YtblbieenfghbdaaDoor.D Go.Proofs.YtblbieenfghbdaaDoorW.PrintWords Go.Proofs.YtblbieenfghbdaaDoorW.PrintLast Go.Proofs.YtblbieenfghbdaaDoorW.PrintMore
set_option linter.unusedVariables false
set_option linter.unusedSimpArgs false
/-- The differences of a list. -/
def dif : Int → List Int → List Int
  | _, [] => []
  | a, n :: l => wrap64 (n - a) :: dif n l
theorem dif_len : ∀ (l : List Int) (a : Int), (dif a l).length = l.length
  | [], a => rfl
  | n :: l, a => by rw [dif, List.length_cons, dif_len l, List.length_cons]
theorem dif_i64 : ∀ (l : List Int) (a x : Int), x ∈ dif a l → I64 x
  | [], a, x, h => by cases h
  | n :: l, a, x, h => by
    rw [dif, List.mem_cons] at h
    rcases h with h | h
    · subst h; exact I64.wrap _
    · exact dif_i64 l _ x h
theorem ref_diff (l : List Int) (hI : ∀ x, x ∈ l → I64 x) (hl : l.length < 1099511627776) : Ev (fun k => intervalmonref15_Differences.f k l) (dif 0 l) := by
  have hrI : ∀ q : Nat, q < l.length → I64 (rd l (q : Int)) := fun q hq => by
    rw [rd, Int.toNat_natCast, List.getD_eq_getElem?_getD, List.getElem?_eq_getElem hq]
    exact hI _ (List.getElem_mem hq)
  have key : ∀ (post : List Int) (p : Nat) (out : List Int) (a : Int), l.drop p = post → out.length = p → (p = 0 → a = 0) → (1 ≤ p → a = rd l ((p : Int) - 1)) →
      Ev (fun k => intervalmonref15_Differences.l0 k l out (p : Int)) (out ++ dif a post) := by
    intro post
    induction post with
    | nil =>
      intro p out a e ho h0 h1
      refine Ev.step (fun k => ?_) (Ev.now _)
      have := List.drop_eq_nil_iff.1 e
      rw [intervalmonref15_Differences.l0, if_neg (by omega), dif, List.append_nil]
    | cons n post ih =>
      intro p out a e ho h0 h1
      obtain ⟨hpl, hr, hd⟩ := drop_cons e
      have hn : I64 n := by rw [← hr]; exact hrI p hpl
      have hw : wrap64 ((p : Int) + 1) = ((p + 1 : Nat) : Int) := by rw [wrap_in _ (by omega) (by omega)]; omega
      have h := ih (p + 1) (out ++ [wrap64 (n - a)]) n hd (by simp [ho]) (fun h => by omega) (fun _ => by rw [show ((p + 1 : Nat) : Int) - 1 = (p : Int) by omega, hr])
      rw [List.append_assoc, List.singleton_append] at h
      rw [dif]
      refine Ev.step (fun k => ?_) h
      have hol : out.length < 17592186044416 := by omega
      rw [intervalmonref15_Differences.l0, if_pos (show (p : Int) < (l.length : Int) by omega), if_pos (show (0 : Int) ≤ (p : Int) by omega), hr, hw]
      rcases (by omega : p = 0 ∨ 1 ≤ p) with hp | hp
      · rw [if_neg (show ¬ (p : Int) > 0 by omega), if_pos hol, h0 hp, Int.sub_zero, hn.eq]
      · rw [if_pos (show (p : Int) > 0 by omega), wrap_in ((p : Int) - 1) (by omega) (by omega), if_pos (show (0 : Int) ≤ (p : Int) - 1 by omega), if_pos (show (p : Int) - 1 < (l.length : Int) by omega), if_pos hol, ← h1 hp]
  exact key l 0 [] 0 rfl rfl (fun _ => rfl) (fun h => by omega)
/-- The codes of four lists, one of each in turn. -/
def z4 : List Int → List Int → List Int → List Int → List Bool
  | a :: A, b :: B, c :: C, d :: D => codeBits a ++ (codeBits b ++ (codeBits c ++ codeBits d)) ++ z4 A B C D
  | _, _, _, _ => []
def lenOf (c : S44) : Int := wrap64 (c.f1 - c.f0)
def widOf (c : S44) : Int := wrap64 (c.f3 - c.f2)
theorem claim_z4 : ∀ (l : List S44) (s : CSt), claimBits s l = z4 (sec s.a s.b (l.map (·.f0))) (dif s.ln (l.map lenOf)) (dif s.lo (l.map (·.f2))) (dif s.wd (l.map widOf))
  | [], s => rfl
  | c :: l, s => by
    rw [claimBits, claim_z4 l (s.next c)]
    rfl
theorem z4_nil (B C D : List Int) : z4 [] B C D = [] := by cases B <;> cases C <;> cases D <;> rfl
theorem enc1_end (l : List S44) (F L O W : List Int) (out : List Bool) (p : Nat) (k : Nat) (h : ¬ (p : Int) < (l.length : Int)) : intervalmonref15_Encode.l1 (k + 1) l F L O W out (p : Int) = (intervalmonref14_Pack.f k out).bind fun t156 => some (t156, 0) := by
  rw [intervalmonref15_Encode.l1, if_neg h]
theorem enc1_step (l : List S44) (F L O W : List Int) (out A B C D : List Bool) (p : Nat) (k : Nat) (q0 : (p : Int) < (l.length : Int)) (q2 : (p : Int) < (F.length : Int)) (q3 : (p : Int) < (L.length : Int)) (q4 : (p : Int) < (O.length : Int)) (q5 : (p : Int) < (W.length : Int))
    (ka : intervalmonref15_Code.f k (rd F (p : Int)) = some A) (kb : intervalmonref15_Code.f k (rd L (p : Int)) = some B) (kc : intervalmonref15_Code.f k (rd O (p : Int)) = some C) (kd : intervalmonref15_Code.f k (rd W (p : Int)) = some D)
    (l1 : out.length + A.length < 140737488355328) (l2 : (out ++ A).length + B.length < 140737488355328) (l3 : (out ++ A ++ B).length + C.length < 140737488355328) (l4 : (out ++ A ++ B ++ C).length + D.length < 140737488355328) (hw : wrap64 ((p : Int) + 1) = ((p + 1 : Nat) : Int)) :
    intervalmonref15_Encode.l1 (k + 1) l F L O W out (p : Int) = intervalmonref15_Encode.l1 k l F L O W (out ++ A ++ B ++ C ++ D) ((p + 1 : Nat) : Int) := by
  have q1 : (0 : Int) ≤ (p : Int) := Int.natCast_nonneg p
  rw [intervalmonref15_Encode.l1, if_pos q0, if_pos q1, if_pos q2, ka, Option.bind_some, if_pos l1, Option.bind_some, if_pos q3, kb, Option.bind_some, if_pos l2, Option.bind_some, if_pos q4, kc, Option.bind_some, if_pos l3, Option.bind_some, if_pos q5, kd, Option.bind_some, if_pos l4, hw]
theorem drop_some {L : List Int} {p : Nat} (h : p < L.length) : ∃ b, L.drop p = b :: L.drop (p + 1) ∧ rd L (p : Int) = b ∧ b ∈ L := by
  refine ⟨L[p], List.drop_eq_getElem_cons h, ?_, List.getElem_mem h⟩
  rw [rd, Int.toNat_natCast, List.getD_eq_getElem?_getD, List.getElem?_eq_getElem h]; rfl
theorem enc1_lens {out A B C D : List Bool} {p : Nat} (hp : p ≤ 4096) (ho : out.length ≤ 280 * (p + 1)) (ca : A.length ≤ 70) (cb : B.length ≤ 70) (cc : C.length ≤ 70) (cd : D.length ≤ 70) :
    out.length + A.length < 140737488355328 ∧ (out ++ A).length + B.length < 140737488355328 ∧ (out ++ A ++ B).length + C.length < 140737488355328 ∧ (out ++ A ++ B ++ C).length + D.length < 140737488355328 ∧ (out ++ A ++ B ++ C ++ D).length ≤ 280 * (p + 1 + 1) := by
  simp only [List.length_append]
  omega
theorem five_le {a b c d e n : Nat} (h : a + b + c + d + e + 1 ≤ n) : ∃ k, n = k + 1 ∧ a ≤ k ∧ b ≤ k ∧ c ≤ k ∧ d ≤ k ∧ e ≤ k := ⟨n - 1, by omega⟩
theorem ref_enc1 (l : List S44) (F L O W : List Int) (hn : l.length ≤ 4096) (hF : F.length = l.length) (hL : L.length = l.length) (hO : O.length = l.length) (hW : W.length = l.length)
    (iF : ∀ x, x ∈ F → I64 x) (iL : ∀ x, x ∈ L → I64 x) (iO : ∀ x, x ∈ O → I64 x) (iW : ∀ x, x ∈ W → I64 x) :
    ∀ (d p : Nat) (out : List Bool), p + d = l.length → out.length ≤ 280 * (p + 1) →
      Ev (fun k => intervalmonref15_Encode.l1 k l F L O W out (p : Int)) (packL (out ++ z4 (F.drop p) (L.drop p) (O.drop p) (W.drop p)), 0) := by
  intro d
  induction d with
  | zero =>
    intro p out hp ho
    have e : F.drop p = [] := List.drop_eq_nil_of_le (by omega)
    rw [e, z4_nil, List.append_nil]
    have hq : ¬ (p : Int) < (l.length : Int) := by omega
    have hol : out.length < 1099511627776 := by omega
    exact Ev.step (fun k => enc1_end l F L O W out p k hq) (Ev.bind (ref_pack out hol) (Ev.now _))
  | succ d ih =>
    intro p out hp ho
    have hpl : p < l.length := by omega
    obtain ⟨a, ea, ra, ma⟩ := drop_some (L := F) (p := p) (by omega)
    obtain ⟨b, eb, rb, mb⟩ := drop_some (L := L) (p := p) (by omega)
    obtain ⟨c, ec, rc, mc⟩ := drop_some (L := O) (p := p) (by omega)
    obtain ⟨d', ed, rd_, md⟩ := drop_some (L := W) (p := p) (by omega)
    obtain ⟨l1, l2, l3, l4, l5⟩ := enc1_lens (p := p) (out := out) (by omega) ho (codeBits_length a) (codeBits_length b) (codeBits_length c) (codeBits_length d')
    have ih' := ih (p + 1) (out ++ codeBits a ++ codeBits b ++ codeBits c ++ codeBits d') (by omega) l5
    have hw : wrap64 ((p : Int) + 1) = ((p + 1 : Nat) : Int) := by rw [wrap_in _ (by omega) (by omega)]; omega
    obtain ⟨Ka, ka⟩ := ref_code a (iF a ma)
    obtain ⟨Kb, kb⟩ := ref_code b (iL b mb)
    obtain ⟨Kc, kc⟩ := ref_code c (iO c mc)
    obtain ⟨Kd, kd⟩ := ref_code d' (iW d' md)
    obtain ⟨Ki, ki⟩ := ih'
    have q0 : (p : Int) < (l.length : Int) := by omega
    have q2 : (p : Int) < (F.length : Int) := by omega
    have q3 : (p : Int) < (L.length : Int) := by omega
    have q4 : (p : Int) < (O.length : Int) := by omega
    have q5 : (p : Int) < (W.length : Int) := by omega
    rw [ea, eb, ec, ed, z4]
    have e5 : out ++ codeBits a ++ codeBits b ++ codeBits c ++ codeBits d' ++ z4 (F.drop (p + 1)) (L.drop (p + 1)) (O.drop (p + 1)) (W.drop (p + 1)) = out ++ (codeBits a ++ (codeBits b ++ (codeBits c ++ codeBits d')) ++ z4 (F.drop (p + 1)) (L.drop (p + 1)) (O.drop (p + 1)) (W.drop (p + 1))) := by simp only [List.append_assoc]
    rw [← e5]
    refine ⟨Ka + Kb + Kc + Kd + Ki + 1, fun n hn => ?_⟩
    obtain ⟨k, rfl, h1, h2, h3, h4, h5⟩ := five_le hn
    have hs := enc1_step l F L O W out (codeBits a) (codeBits b) (codeBits c) (codeBits d') p k q0 q2 q3 q4 q5 (by rw [ra]; exact ka k h1) (by rw [rb]; exact kb k h2) (by rw [rc]; exact kc k h3) (by rw [rd_]; exact kd k h4) l1 l2 l3 l4 hw
    simp only []
    rw [hs]
    exact ki k h5
theorem take_map {f : S44 → Int} {l : List S44} {p : Nat} (h : p < l.length) : (l.map f).take p ++ [f l[p]] = (l.map f).take (p + 1) := by
  rw [List.take_succ_eq_append_getElem (by simpa using h)]
  simp
theorem encodable_ev (c : S44) : Ev (fun k => intervalmonref15_Encodable.f k c.f0 c.f1 c.f2 c.f3) (encB c) :=
  Ev.of (fun k => intervalmonref15_Encodable.mono c.f0 c.f1 c.f2 c.f3 k) (ref_encodable c.f0 c.f1 c.f2 c.f3)
theorem ref_encode (l : List S44) : Ev (fun k => intervalmonref15_Encode.f k l) (encRes l) := by
  by_cases h4 : 4096 < l.length
  · rw [encRes, if_pos h4]
    refine Ev.congr (fun k => ?_) (Ev.now _)
    rw [intervalmonref15_Encode.f, if_pos (by omega)]
  · rw [encRes, if_neg h4]
    have hn : l.length ≤ 4096 := by omega
    have key : ∀ (d p : Nat), p + d = l.length → (∀ c, c ∈ l.take p → encB c = true) →
        Ev (fun k => intervalmonref15_Encode.l0 k l ((l.map (·.f0)).take p) ((l.map lenOf).take p) ((l.map (·.f2)).take p) ((l.map widOf).take p) (p : Int)) (if l.all encB = true then (claimsOf l, 0) else ([], 5)) := by
      intro d
      induction d with
      | zero =>
        intro p hp hall
        have hpl : p = l.length := by omega
        have hal : ∀ c, c ∈ l → encB c = true := fun c hc => hall c (by rw [hpl, List.take_length]; exact hc)
        rw [if_pos (List.all_eq_true.2 hal)]
        have hm : ∀ f : S44 → Int, (l.map f).take p = l.map f := fun f => List.take_of_length_le (by rw [List.length_map]; omega)
        rw [hm, hm, hm, hm]
        have i0 : ∀ x, x ∈ l.map (·.f0) → I64 x := fun x hx => by
          obtain ⟨c, hc, rfl⟩ := List.mem_map.1 hx
          exact (encB_i64 (hal c hc)).1
        have i1 : ∀ x, x ∈ l.map lenOf → I64 x := fun x hx => by
          obtain ⟨c, hc, rfl⟩ := List.mem_map.1 hx
          exact I64.wrap _
        have i2 : ∀ x, x ∈ l.map (·.f2) → I64 x := fun x hx => by
          obtain ⟨c, hc, rfl⟩ := List.mem_map.1 hx
          exact (encB_i64 (hal c hc)).2.2.1
        have i3 : ∀ x, x ∈ l.map widOf → I64 x := fun x hx => by
          obtain ⟨c, hc, rfl⟩ := List.mem_map.1 hx
          exact I64.wrap _
        have hcl := codeBits_length (l.length : Int)
        refine Ev.step (f := fun k => (intervalmonref15_Second.f k (l.map (·.f0))).bind fun t141 => ((intervalmonref15_Differences.f k (l.map lenOf)).bind fun t144 => ((intervalmonref15_Differences.f k (l.map (·.f2))).bind fun t147 => ((intervalmonref15_Differences.f k (l.map widOf)).bind fun t150 => ((intervalmonref15_Code.f k (l.length : Int)).bind fun t153 => (intervalmonref15_Encode.l1 k l t141 t144 t147 t150 t153 ((0 : Nat) : Int))))))) (fun k => ?_) ?_
        · rw [intervalmonref15_Encode.l0, if_neg (by omega)]
          rfl
        · refine Ev.bind (ref_second _ i0 (by rw [List.length_map]; omega)) ?_
          refine Ev.bind (ref_diff _ i1 (by rw [List.length_map]; omega)) ?_
          refine Ev.bind (ref_diff _ i2 (by rw [List.length_map]; omega)) ?_
          refine Ev.bind (ref_diff _ i3 (by rw [List.length_map]; omega)) ?_
          refine Ev.bind (ref_code (l.length : Int) (by unfold I64; omega)) ?_
          have h := ref_enc1 l (sec 0 0 (l.map (·.f0))) (dif 0 (l.map lenOf)) (dif 0 (l.map (·.f2))) (dif 0 (l.map widOf)) hn (by rw [sec_len, List.length_map]) (by rw [dif_len, List.length_map]) (by rw [dif_len, List.length_map]) (by rw [dif_len, List.length_map])
            (sec_i64 _ _ _) (dif_i64 _ _) (dif_i64 _ _) (dif_i64 _ _) l.length 0 (codeBits (l.length : Int)) (by omega) (by omega)
          rw [List.drop_zero] at h
          rw [List.drop_zero, List.drop_zero, List.drop_zero] at h
          have hz := claim_z4 l CSt.zero
          have e : claimsOf l = packL (codeBits (l.length : Int) ++ z4 (sec 0 0 (l.map (·.f0))) (dif 0 (l.map lenOf)) (dif 0 (l.map (·.f2))) (dif 0 (l.map widOf))) := by rw [claimsOf, hz]; rfl
          rw [e]
          exact h
      | succ d ih =>
        intro p hp hall
        have hpl : p < l.length := by omega
        have hw : wrap64 ((p : Int) + 1) = ((p + 1 : Nat) : Int) := by rw [wrap_in _ (by omega) (by omega)]; omega
        refine Ev.step (f := fun k => (intervalmonref15_Encodable.f k (l[p]).f0 (l[p]).f1 (l[p]).f2 (l[p]).f3).bind fun t122 => (if t122 = true then (if ((l.map (·.f0)).take p).length < 17592186044416 then (if ((l.map lenOf).take p).length < 17592186044416 then (if ((l.map (·.f2)).take p).length < 17592186044416 then (if ((l.map widOf).take p).length < 17592186044416 then (intervalmonref15_Encode.l0 k l ((l.map (·.f0)).take p ++ [(l[p]).f0]) ((l.map lenOf).take p ++ [wrap64 ((l[p]).f1 - (l[p]).f0)]) ((l.map (·.f2)).take p ++ [(l[p]).f2]) ((l.map widOf).take p ++ [wrap64 ((l[p]).f3 - (l[p]).f2)]) ((p + 1 : Nat) : Int)) else (none)) else (none)) else (none)) else (none)) else (some (([] : List Int), 5)))) (fun k => ?_) ?_
        · rw [intervalmonref15_Encode.l0, if_pos (by omega), if_pos (by omega), rdT_at hpl, hw]
        · refine Ev.bind (encodable_ev l[p]) ?_
          cases he : encB l[p] with
          | false =>
            rw [if_neg (by rw [List.all_eq_true]; intro h; rw [h _ (List.getElem_mem hpl)] at he; cases he)]
            exact Ev.congr (fun k => if_neg (by simp)) (Ev.now _)
          | true =>
            refine Ev.congr (fun k => if_pos rfl) ?_
            refine Ev.congr (fun k => if_pos (by rw [List.length_take, List.length_map]; omega)) ?_
            refine Ev.congr (fun k => if_pos (by rw [List.length_take, List.length_map]; omega)) ?_
            refine Ev.congr (fun k => if_pos (by rw [List.length_take, List.length_map]; omega)) ?_
            refine Ev.congr (fun k => if_pos (by rw [List.length_take, List.length_map]; omega)) ?_
            have h := ih (p + 1) (by omega) (fun c hc => by
              rw [List.take_succ_eq_append_getElem hpl] at hc
              rcases List.mem_append.1 hc with hc | hc
              · exact hall c hc
              · rw [List.mem_singleton] at hc; subst hc; exact he)
            rw [← take_map (f := (·.f0)) hpl, ← take_map (f := lenOf) hpl, ← take_map (f := (·.f2)) hpl, ← take_map (f := widOf) hpl] at h
            exact h
    refine Ev.congr (fun k => ?_) (key l.length 0 (by omega) (fun c hc => by simp at hc))
    rw [intervalmonref15_Encode.f, if_neg (by omega)]
    rfl
end Go.Proofs.YtblbieenfghbdaaDoor.E
