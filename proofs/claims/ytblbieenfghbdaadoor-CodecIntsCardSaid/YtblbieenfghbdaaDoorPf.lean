/- The plain laws of the reference's writers (ref14, ref15): the codes, the packing, the second differences come to codeBits, packL, trendBits. -/
import Derived.Test.YtblbieenfghbdaaDoorPi
namespace Go.Proofs.YtblbieenfghbdaaDoor.D
open Go.RowKit Go.Proofs.YtblbieenfghbdaaDoorW.PrintWords Go.Proofs.YtblbieenfghbdaaDoorW.PrintLast Go.Proofs.YtblbieenfghbdaaDoorW.PrintMore
set_option linter.unusedVariables false
set_option linter.unusedSimpArgs false
theorem ref_unary (i : Nat) (hi : i ≤ 5) : Ev (fun k => intervalmonref14_Unary.f k (i : Int)) (List.replicate i true ++ [false]) := by
  have key : ∀ (d j : Nat), j + d = i → Ev (fun k => intervalmonref14_Unary.l0 k (i : Int) (List.replicate j true) (j : Int)) (List.replicate i true ++ [false]) := by
    intro d
    induction d with
    | zero =>
      intro j hj
      have : j = i := by omega
      subst this
      refine Ev.step (fun k => ?_) (Ev.now _)
      rw [intervalmonref14_Unary.l0, if_neg (by omega), List.length_replicate, if_pos (by omega)]
    | succ d ih =>
      intro j hj
      refine Ev.step (fun k => ?_) (ih (j + 1) (by omega))
      rw [intervalmonref14_Unary.l0, if_pos (by omega), if_pos (by omega), List.length_replicate, if_pos (by omega), List.replicate_succ', wrap_in _ (by omega) (by omega)]
      rfl
  exact key i 0 (by omega)
theorem mod2_bit (z : Nat) (i : Nat) (hi : i ≤ 63) : ((Int.tmod (shr .u64 (z : Int) (IntKind.u64.wrap ((i : Nat) : Int))) 2) == 1) = z.testBit i := by
  have e : IntKind.u64.wrap ((i : Nat) : Int) = (i : Int) := by rw [IntKind.wrap_u64]; omega
  have hc : ((z : Int) / 2 ^ i) = ((z / 2 ^ i : Nat) : Int) := by push_cast; rfl
  rw [e, shr, show min ((i : Nat) : Int).toNat IntKind.u64.bits = i by simp [IntKind.bits]; omega, hc, Nat.testBit_eq_decide_div_mod_eq, Int.tmod_eq_emod_of_nonneg (Int.natCast_nonneg _)]
  generalize z / 2 ^ i = q
  rw [Bool.eq_iff_iff, beq_iff_eq, decide_eq_true_eq]
  omega
theorem ref_bits (z c : Nat) (hc : c ≤ 64) : Ev (fun k => intervalmonref14_Bits.f k (z : Int) (c : Int)) ((downs c).map (fun i => z.testBit i)) := by
  have key : ∀ (j : Nat) (out : List Bool), j ≤ 64 → out.length ≤ 64 - j → Ev (fun k => intervalmonref14_Bits.l0 k (z : Int) out ((j : Int) - 1)) (out ++ (downs j).map (fun i => z.testBit i)) := by
    intro j
    induction j with
    | zero =>
      intro out hj ho
      refine Ev.step (fun k => ?_) (Ev.now _)
      rw [intervalmonref14_Bits.l0, if_neg (by omega), downs, List.map_nil, List.append_nil]
    | succ j ih =>
      intro out hj ho
      have h := ih (out ++ [z.testBit j]) (by omega) (by simp; omega)
      rw [downs, List.map_cons]
      rw [List.append_assoc, List.singleton_append] at h
      refine Ev.step (fun k => ?_) h
      have e1 : ((j + 1 : Nat) : Int) - 1 = (j : Int) := by omega
      have hw : 0 ≤ IntKind.u64.wrap ((j : Nat) : Int) := by rw [IntKind.wrap_u64]; omega
      rw [intervalmonref14_Bits.l0, e1, if_pos (by omega), if_pos hw, if_pos (by omega), mod2_bit z j (by omega), wrap_in _ (by omega) (by omega)]
  have h := key c [] hc (by simp)
  rw [List.nil_append] at h
  refine Ev.congr (fun k => ?_) h
  rw [intervalmonref14_Bits.f, intervalmonref14_Count.f, Option.bind_some]
  have e : mx 0 (mn (c : Int) 64) = (c : Int) := by simp only [mx, mn]; (repeat' split) <;> omega
  rw [e, wrap_in _ (by omega) (by omega)]
theorem ref_zigzag (n : Int) (h : I64 n) : intervalmonref02_Zigzag.f n = some (zig n) := by
  unfold I64 at h
  rw [intervalmonref02_Zigzag.f, zig]
  by_cases c : n < 0
  · rw [if_pos c, if_pos c]
    simp only [IntKind.wrap_u64, wrap64]
    congr 1
    omega
  · rw [if_neg c, if_neg c]
    simp only [IntKind.wrap_u64]
    congr 1
    omega
theorem ref_back (z : Int) (h0 : 0 ≤ z) (h1 : z < 18446744073709551616) : intervalmonref02_Back.f z = some (unzig z) := by
  rw [intervalmonref02_Back.f, unzig, Int.tmod_eq_emod_of_nonneg h0, Int.tdiv_eq_ediv_of_nonneg h0]
  by_cases c : z % 2 = 1
  · rw [if_pos c, if_pos c]
    simp only [IntKind.wrap_u64, wrap64]
    congr 1
    omega
  · rw [if_neg c, if_neg c]
    simp only [IntKind.wrap_u64, wrap64]
    congr 1
    omega
theorem shl_wP (i : Nat) (hi : i < 5) : shl .u64 1 (IntKind.u64.wrap (rd ([0, 4, 8, 16, 32, 64] : List Int) (i : Int))) = (wP i : Int) ∧ 0 ≤ IntKind.u64.wrap (rd ([0, 4, 8, 16, 32, 64] : List Int) (i : Int)) ∧ rd ([0, 4, 8, 16, 32, 64] : List Int) (i : Int) = (wN i : Int) := by
  have : i = 0 ∨ i = 1 ∨ i = 2 ∨ i = 3 ∨ i = 4 := by omega
  rcases this with rfl | rfl | rfl | rfl | rfl <;> decide
theorem ref_code (n : Int) (h : I64 n) : Ev (fun k => intervalmonref15_Code.f k n) (codeBits n) := by
  have hz := zig_range n h
  obtain ⟨z, hz2⟩ := Int.eq_ofNat_of_zero_le hz.1
  have hs := codeIdx_spec (zig n) hz.1 hz.2
  have hi := codeIdx_lt (zig n)
  rw [codeBits_eq n h]
  rw [hz2] at hs hi hz ⊢
  rw [Int.toNat_natCast]
  obtain ⟨m, hm⟩ : ∃ m, codeIdx (z : Int) = m := ⟨_, rfl⟩
  rw [hm] at hs hi ⊢
  have hw := w_cases m hi
  have fin : ∀ (i w : Nat), i ≤ 5 → w ≤ 64 → Ev (fun k => (intervalmonref14_Unary.f k (i : Int)).bind fun t => (intervalmonref14_Bits.f k (z : Int) (w : Int)).bind fun u => if t.length + u.length < 140737488355328 then some (t ++ u) else none) (List.replicate i true ++ [false] ++ (downs w).map (fun i => z.testBit i)) := by
    intro i w hi hw
    refine Ev.bind (ref_unary i hi) (Ev.bind (ref_bits z w hw) ?_)
    rw [if_pos (by simp only [List.length_append, List.length_replicate, List.length_singleton, List.length_map, downs_length]; omega)]
    exact Ev.now _
  have key : ∀ (d j : Nat), j + d = m → Ev (fun k => intervalmonref15_Code.l0 k (z : Int) ([0, 4, 8, 16, 32, 64] : List Int) (j : Int)) (List.replicate m true ++ false :: (downs (wN m)).map (fun i => z.testBit i)) := by
    intro d
    induction d with
    | zero =>
      intro j hj
      have : j = m := by omega
      subst this
      have hf := fin j (wN j) (by omega) (by omega)
      rw [List.append_assoc, List.singleton_append] at hf
      refine Ev.step (fun k => ?_) hf
      rw [intervalmonref15_Code.l0]
      by_cases c : j < 5
      · have hh := shl_wP j c
        rw [if_pos (by omega), if_pos (by omega), if_pos (by show (j : Int) < ((6 : Nat) : Int); omega), if_pos hh.2.1, hh.1, if_pos hs.1, hh.2.2]
      · have e5 : j = 5 := by omega
        rw [if_neg (by omega), e5]
        rfl
    | succ d ih =>
      intro j hj
      have hh := shl_wP j (by omega)
      have := hs.2 j (by omega)
      refine Ev.step (fun k => ?_) (ih (j + 1) (by omega))
      rw [intervalmonref15_Code.l0, if_pos (by omega), if_pos (by omega), if_pos (by show (j : Int) < ((6 : Nat) : Int); omega), if_pos hh.2.1, hh.1, if_neg (by omega), wrap_in _ (by omega) (by omega)]
      rfl
  refine Ev.congr (fun k => ?_) (key m 0 (by omega))
  rw [intervalmonref15_Code.f, ref_zigzag n h, Option.bind_some, hz2]
  rfl
theorem rdOf_mid {pre post l : List Bool} {b : Bool} (h : l = pre ++ b :: post) : rdOf false l (pre.length : Int) = b := by subst h; simp [rdOf]
theorem byte_shl (m : Nat) (hm : m < 8) : shl .u8 1 (IntKind.u64.wrap (wrap64 (7 - (m : Int)))) = 2 ^ (7 - m) ∧ 0 ≤ IntKind.u64.wrap (wrap64 (7 - (m : Int))) := by
  have : m = 0 ∨ m = 1 ∨ m = 2 ∨ m = 3 ∨ m = 4 ∨ m = 5 ∨ m = 6 ∨ m = 7 := by omega
  rcases this with rfl | rfl | rfl | rfl | rfl | rfl | rfl | rfl <;> decide +kernel
theorem ref_pack (l : List Bool) (hl : l.length < 1099511627776) : Ev (fun k => intervalmonref14_Pack.f k l) (packL l) := by
  have key : ∀ (post pre : List Bool) (a : List Int), l = pre ++ post → Packed a pre → Ev (fun k => intervalmonref14_Pack.l0 k l a (pre.length : Int)) (packL l) := by
    intro post
    induction post with
    | nil =>
      intro pre a e hp
      refine Ev.step (fun k => ?_) (Ev.now _)
      rw [intervalmonref14_Pack.l0, if_neg (by rw [e]; simp)]
      rw [List.append_nil] at e
      rw [e, hp.uniq (packL_packed pre)]
    | cons b post ih =>
      intro pre a e hp
      have hlt : (pre.length : Int) < (l.length : Int) := by rw [e]; simp; omega
      have hlen := hp.length
      have hT : Int.tmod (pre.length : Int) 8 = ((pre.length % 8 : Nat) : Int) := by rw [Int.tmod_eq_emod_of_nonneg (by omega)]; omega
      have hD : wrap64 (Int.tdiv (pre.length : Int) 8) = ((pre.length / 8 : Nat) : Int) := by rw [Int.tdiv_eq_ediv_of_nonneg (by omega), wrap_in _ (by omega) (by omega)]; omega
      have hw : wrap64 ((pre.length : Int) + 1) = ((pre ++ [b]).length : Int) := by rw [wrap_in _ (by omega) (by omega)]; simp
      have hr := rdOf_mid e
      obtain ⟨m, hm⟩ : ∃ m, pre.length % 8 = m := ⟨_, rfl⟩
      obtain ⟨q, hq⟩ : ∃ q, pre.length / 8 = q := ⟨_, rfl⟩
      have hm8 : m < 8 := by omega
      simp only [padN] at hlen
      rw [hm] at hlen
      have ih2 := fun a h => ih (pre ++ [b]) a (by rw [e]; simp) h
      by_cases h0 : m = 0
      · subst h0
        have hs := (hp.snoc0 b hm).1
        have hal : a.length = q := by omega
        refine Ev.step (fun k => ?_) (ih2 _ hs)
        rw [intervalmonref14_Pack.l0, if_pos hlt, hT, hD, hm, hq, hr, hw]
        rw [if_pos (show ((0 : Nat) : Int) = 0 from rfl), if_pos (show a.length < 140737488355328 by omega), Option.bind_some, if_pos (show (0 : Int) ≤ (pre.length : Int) by omega)]
        cases b with
        | true =>
          have e1 : rd (a ++ [(0 : Int)]) ((q : Nat) : Int) = 0 := by rw [← hal]; simp [rd]
          have e2 : (a ++ [(0 : Int)]).set q 128 = a ++ [128] := by rw [← hal, List.set_append_right _ _ (Nat.le_refl _), Nat.sub_self]; rfl
          rw [if_pos (show true = true from rfl), if_pos (show (0 : Int) ≤ ((q : Nat) : Int) by omega), if_pos (show ((q : Nat) : Int) < ((a ++ [(0 : Int)]).length : Int) by simp; omega), if_pos (byte_shl 0 (by decide)).2, e1, Int.toNat_natCast, (byte_shl 0 (by decide)).1]
          rw [show ((0 : Int) + 2 ^ (7 - 0)) % 256 = 128 by decide, e2]
          rfl
        | false =>
          rw [if_neg (show ¬ false = true by decide)]
          rfl
      · have hs := (hp.snocm b (by omega)).1
        have hal : a.length - 1 = q := by omega
        have hne : a ≠ [] := fun e => by
          rw [e] at hlen
          simp only [List.length_nil] at hlen
          omega
        have ha0 : 0 < a.length := List.length_pos_iff.2 hne
        have e0 : rdOf 0 a ((a.length : Int) - 1) = rd a ((q : Nat) : Int) := by
          have : (a.length : Int) - 1 = (q : Int) := by omega
          rw [this]; rfl
        rw [e0, hal, hm] at hs
        refine Ev.step (fun k => ?_) (ih2 _ hs)
        rw [intervalmonref14_Pack.l0, if_pos hlt, hT, hD, hm, hq, hr, hw]
        rw [if_neg (show ¬ ((m : Nat) : Int) = 0 by omega), if_pos (show (0 : Int) ≤ (pre.length : Int) by omega)]
        cases b with
        | true =>
          have hb := hs.1 (rd a ((q : Nat) : Int) + 2 ^ (7 - m)) (List.mem_set (by omega) _)
          rw [if_pos (show true = true from rfl), if_pos (show (0 : Int) ≤ ((q : Nat) : Int) by omega), if_pos (show ((q : Nat) : Int) < (a.length : Int) by omega), if_pos (byte_shl m hm8).2, (byte_shl m hm8).1, Int.toNat_natCast, Int.emod_eq_of_lt hb.1 hb.2]
          rfl
        | false =>
          rw [if_neg (show ¬ false = true by decide)]
          congr 1
          have hq2 : q < a.length := by omega
          have e3 : rd a ((q : Nat) : Int) = a[q] := by rw [rd, Int.toNat_natCast, List.getD_eq_getElem?_getD, List.getElem?_eq_getElem hq2]; rfl
          rw [e3]
          simp
  exact key l [] [] rfl Packed.nil
/-- The second differences of a list. -/
def sec : Int → Int → List Int → List Int
  | _, _, [] => []
  | a, b, n :: l => wrap64 (wrap64 (n - a) - b) :: sec n (wrap64 (n - a)) l
theorem sec_bits : ∀ (l : List Int) (a b : Int), (sec a b l).flatMap codeBits = trendBits a b l
  | [], a, b => rfl
  | n :: l, a, b => by rw [sec, List.flatMap_cons, sec_bits l, trendBits]
theorem sec_len : ∀ (l : List Int) (a b : Int), (sec a b l).length = l.length
  | [], a, b => rfl
  | n :: l, a, b => by rw [sec, List.length_cons, sec_len l, List.length_cons]
theorem sec_i64 : ∀ (l : List Int) (a b x : Int), x ∈ sec a b l → I64 x
  | [], a, b, x, h => by cases h
  | n :: l, a, b, x, h => by
    rw [sec, List.mem_cons] at h
    rcases h with h | h
    · subst h; exact I64.wrap _
    · exact sec_i64 l _ _ x h
theorem rd_mid {pre post l : List Int} {b : Int} (h : l = pre ++ b :: post) : rd l (pre.length : Int) = b := by subst h; simp [rd]
theorem drop_cons {l post : List Int} {n : Int} {p : Nat} (h : l.drop p = n :: post) : p < l.length ∧ rd l (p : Int) = n ∧ l.drop (p + 1) = post := by
  have hl : p < l.length := by
    rcases (by omega : p < l.length ∨ l.length ≤ p) with h1 | h1
    · exact h1
    · rw [List.drop_eq_nil_of_le h1] at h; cases h
  have h2 := List.drop_eq_getElem_cons hl
  rw [h] at h2
  injection h2 with h3 h4
  exact ⟨hl, by rw [rd, Int.toNat_natCast, List.getD_eq_getElem?_getD, List.getElem?_eq_getElem hl, h3]; rfl, h4.symm⟩
theorem ref_second (l : List Int) (hI : ∀ x, x ∈ l → I64 x) (hl : l.length < 1099511627776) : Ev (fun k => intervalmonref15_Second.f k l) (sec 0 0 l) := by
  have hrI : ∀ q : Nat, q < l.length → I64 (rd l (q : Int)) := fun q hq => by
    rw [rd, Int.toNat_natCast, List.getD_eq_getElem?_getD, List.getElem?_eq_getElem hq]
    exact hI _ (List.getElem_mem hq)
  have key : ∀ (post : List Int) (p : Nat) (out : List Int) (a b : Int), l.drop p = post → out.length = p → (p = 0 → a = 0 ∧ b = 0) → (1 ≤ p → a = rd l ((p : Int) - 1)) → (p = 1 → b = a) → (2 ≤ p → b = wrap64 (a - rd l ((p : Int) - 2))) → I64 a →
      Ev (fun k => intervalmonref15_Second.l0 k l out (p : Int)) (out ++ sec a b post) := by
    intro post
    induction post with
    | nil =>
      intro p out a b e ho h0 h1 h2 h3 hia
      refine Ev.step (fun k => ?_) (Ev.now _)
      have := List.drop_eq_nil_iff.1 e
      rw [intervalmonref15_Second.l0, if_neg (by omega), sec, List.append_nil]
    | cons n post ih =>
      intro p out a b e ho h0 h1 h2 h3 hia
      obtain ⟨hpl, hr, hd⟩ := drop_cons e
      have hn : I64 n := by rw [← hr]; exact hrI p hpl
      have hw : wrap64 ((p : Int) + 1) = ((p + 1 : Nat) : Int) := by rw [wrap_in _ (by omega) (by omega)]; omega
      have hw1 : 1 ≤ p → wrap64 ((p : Int) - 1) = (p : Int) - 1 := fun h => wrap_in _ (by omega) (by omega)
      have hw2 : 2 ≤ p → wrap64 ((p : Int) - 2) = (p : Int) - 2 := fun h => wrap_in _ (by omega) (by omega)
      have h := ih (p + 1) (out ++ [wrap64 (wrap64 (n - a) - b)]) n (wrap64 (n - a)) hd (by simp [ho]) (fun h => by omega)
        (fun _ => by rw [show ((p + 1 : Nat) : Int) - 1 = (p : Int) by omega, hr])
        (fun hp => by rw [(h0 (by omega)).1, Int.sub_zero]; exact hn.eq)
        (fun hp => by rw [show ((p + 1 : Nat) : Int) - 2 = (p : Int) - 1 by omega, h1 (by omega)]) hn
      rw [List.append_assoc, List.singleton_append] at h
      rw [sec]
      refine Ev.step (fun k => ?_) h
      have hol : out.length < 17592186044416 := by omega
      rw [intervalmonref15_Second.l0, if_pos (show (p : Int) < (l.length : Int) by omega), if_pos (show (0 : Int) ≤ (p : Int) by omega), hr, hw]
      rcases (by omega : p = 0 ∨ p = 1 ∨ 2 ≤ p) with hp | hp | hp
      · rw [if_neg (show ¬ (p : Int) > 0 by omega), if_neg (show ¬ (p : Int) > 1 by omega), if_pos hol, (h0 hp).1, (h0 hp).2]
        simp only [Int.sub_zero, hn.eq]
      · rw [if_pos (show (p : Int) > 0 by omega), hw1 (by omega), if_pos (show (0 : Int) ≤ (p : Int) - 1 by omega), if_pos (show (p : Int) - 1 < (l.length : Int) by omega), if_neg (show ¬ (p : Int) > 1 by omega), if_pos hol, ← h1 (by omega), h2 hp]
        have e1 : wrap64 (n - wrap64 (2 * a)) = wrap64 (wrap64 (n - a) - a) := by unfold wrap64; omega
        rw [e1]
      · rw [if_pos (show (p : Int) > 0 by omega), hw1 (by omega), if_pos (show (0 : Int) ≤ (p : Int) - 1 by omega), if_pos (show (p : Int) - 1 < (l.length : Int) by omega), if_pos (show (p : Int) > 1 by omega), hw2 hp, if_pos (show (0 : Int) ≤ (p : Int) - 2 by omega), if_pos (show (p : Int) - 2 < (l.length : Int) by omega), if_pos hol, ← h1 (by omega), h3 hp]
        have e1 : wrap64 (wrap64 (n - wrap64 (2 * a)) + rd l ((p : Int) - 2)) = wrap64 (wrap64 (n - a) - wrap64 (a - rd l ((p : Int) - 2))) := by unfold wrap64; omega
        rw [e1]
  have h := key l 0 [] 0 0 rfl rfl (fun _ => ⟨rfl, rfl⟩) (fun h => by omega) (fun h => by omega) (fun h => by omega) (by unfold I64; omega)
  exact h
theorem trendBits_le : ∀ (l : List Int) (a b : Int), (trendBits a b l).length ≤ 70 * l.length
  | [], a, b => Nat.le_refl _
  | n :: l, a, b => by
    have h1 := trendBits_le l n (wrap64 (n - a))
    have h2 := codeBits_length (wrap64 (wrap64 (n - a) - b))
    rw [trendBits, List.length_append, List.length_cons]
    omega
theorem ref_ints (l : List Int) (hI : ∀ x, x ∈ l → I64 x) (hl : l.length < 1000000) : Ev (fun k => intervalmonref15_Ints.f k l) (intsOf l) := by
  have key : ∀ (post pre : List Int) (out : List Bool), sec 0 0 l = pre ++ post → out.length ≤ 70 * (pre.length + 1) → Ev (fun k => intervalmonref15_Ints.l0 k out (sec 0 0 l) (pre.length : Int)) (packL (out ++ post.flatMap codeBits)) := by
    intro post
    induction post with
    | nil =>
      intro pre out e ho
      have hpl : pre.length ≤ l.length := by rw [← sec_len l 0 0, e]; simp
      have hp := ref_pack out (by omega)
      refine Ev.step (fun k => ?_) (f := fun k => (intervalmonref14_Pack.f k out).bind fun t => some t) ?_
      · rw [intervalmonref15_Ints.l0, if_neg (by rw [e]; simp)]
      · rw [List.flatMap_nil, List.append_nil]
        exact Ev.bind hp (Ev.now _)
    | cons c post ih =>
      intro pre out e ho
      have hlt : (pre.length : Int) < ((sec 0 0 l).length : Int) := by rw [e]; simp; omega
      have hpl : pre.length < 1000000 := by rw [sec_len] at hlt; omega
      have hc : I64 c := sec_i64 l 0 0 c (by rw [e]; simp)
      have hcl := codeBits_length c
      have hw : wrap64 ((pre.length : Int) + 1) = ((pre ++ [c]).length : Int) := by rw [wrap_in _ (by omega) (by omega)]; simp
      have h := ih (pre ++ [c]) (out ++ codeBits c) (by rw [e]; simp) (by simp; omega)
      rw [List.append_assoc] at h
      rw [List.flatMap_cons]
      refine Ev.step (fun k => ?_) (f := fun k => (intervalmonref15_Code.f k c).bind fun t => if out.length + t.length < 140737488355328 then intervalmonref15_Ints.l0 k (out ++ t) (sec 0 0 l) ((pre ++ [c]).length : Int) else none) ?_
      · rw [intervalmonref15_Ints.l0, if_pos hlt, if_pos (by omega), rd_mid e, hw]
      · refine Ev.bind (ref_code c hc) ?_
        refine Ev.congr (fun k => if_pos (by omega)) ?_
        exact h
  have hb := codeBits_length (l.length : Int)
  have h := key (sec 0 0 l) [] (codeBits (l.length : Int)) rfl (by simpa using hb)
  rw [sec_bits] at h
  refine Ev.congr (fun k => rfl) ?_
  refine Ev.bind (f := fun k t => (intervalmonref15_Second.f k l).bind fun t173 => intervalmonref15_Ints.l0 k t t173 0) (ref_code (l.length : Int) (by unfold I64; omega)) ?_
  exact Ev.bind (ref_second l hI (by omega)) h
theorem ref_unpack (bs : List Int) (hb : AllB bs) (hl : bs.length < 1000000) : Ev (fun k => intervalmonref14_Unpack.f k bs) (unpack bs) := by
  have key : ∀ (post pre : List Int) (out : List Bool), bs = pre ++ post → out.length = 8 * pre.length → Ev (fun k => intervalmonref14_Unpack.l0 k bs out (pre.length : Int)) (out ++ unpack post) := by
    intro post
    induction post with
    | nil =>
      intro pre out e ho
      refine Ev.step (fun k => ?_) (Ev.now _)
      rw [intervalmonref14_Unpack.l0, if_neg (by rw [e]; simp)]
      simp [unpack]
    | cons x post ih =>
      intro pre out e ho
      have hlt : (pre.length : Int) < (bs.length : Int) := by rw [e]; simp; omega
      have hx := hb x (by rw [e]; simp)
      have hw : wrap64 ((pre.length : Int) + 1) = ((pre ++ [x]).length : Int) := by rw [wrap_in _ (by omega) (by omega)]; simp
      have e8 : IntKind.u64.wrap x = (x.toNat : Int) := by rw [IntKind.wrap_u64]; omega
      have hbx : (downs 8).map (fun i => x.toNat.testBit i) = bits8 x := by
        rw [bits8]
        refine List.map_congr_left fun i hi => ?_
        have := downs_lt _ _ hi
        have h := bitOf_nat x.toNat i (by omega) (by omega)
        rw [Int.toNat_of_nonneg hx.1] at h
        exact h.symm
      have h := ih (pre ++ [x]) (out ++ bits8 x) (by rw [e]; simp) (by simp [bits8_length, ho]; omega)
      rw [List.append_assoc] at h
      rw [unpack_cons]
      refine Ev.step (fun k => ?_) (f := fun k => (intervalmonref14_Bits.f k (x.toNat : Int) ((8 : Nat) : Int)).bind fun t => if out.length + t.length < 140737488355328 then intervalmonref14_Unpack.l0 k bs (out ++ t) ((pre ++ [x]).length : Int) else none) ?_
      · rw [intervalmonref14_Unpack.l0, if_pos hlt, if_pos (by omega), rd_mid e, e8, hw]
        rfl
      · have hrb := ref_bits x.toNat 8 (by decide)
        rw [hbx] at hrb
        refine Ev.bind hrb ?_
        refine Ev.congr (fun k => if_pos (by rw [bits8_length]; omega)) ?_
        exact h
  have h := key bs [] [] rfl rfl
  exact h
end Go.Proofs.YtblbieenfghbdaaDoor.D
