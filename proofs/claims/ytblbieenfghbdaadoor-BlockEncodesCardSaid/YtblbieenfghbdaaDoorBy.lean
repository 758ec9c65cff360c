/- Merged texts of this seat: hand walks and plain laws that several claims share (Bp Bq). -/
import Derived.Test.YtblbieenfghbdaaDoorFxB0
import Derived.Test.YtblbieenfghbdaaDoorBx
import Derived.Test.YtblbieenfghbdaaDoorPk
import Derived.Test.YtblbieenfghbdaaDoorFxE0
section
namespace Go.Proofs.YtblbieenfghbdaaDoor.F
open Go.RowKit Go.Proofs.YtblbieenfghbdaaDoor.D Go.Proofs.YtblbieenfghbdaaDoor.E Go.Proofs.YtblbieenfghbdaaDoorW.PrintWords Go.Proofs.YtblbieenfghbdaaDoorW.PrintLast Go.Proofs.YtblbieenfghbdaaDoorW.PrintMore
set_option linter.unusedVariables false
set_option linter.unusedSimpArgs false
theorem ref_uint_l (n : Nat) : ∀ (acc : List Int), n < 18446744073709551616 → acc.length + (uvN n).length < 100000000000 → Ev (fun k => intervalmonref02_Uint.l0 k (n : Int) acc) (acc ++ uvN n) := by
  induction n using Nat.strongRecOn with
  | ind n ih =>
    intro acc hn hl
    by_cases h : n < 128
    · refine Ev.step (f := fun _ => some (acc ++ uvN n)) (fun k => ?_) (Ev.now _)
      rw [intervalmonref02_Uint.l0, if_neg (by omega), if_pos (by omega), uvN_small h]
      congr 2
      simp only [List.cons.injEq, and_true]
      omega
    · have hb := uvN_big (show 128 ≤ n by omega)
      rw [hb, List.length_cons] at hl
      have hi := ih (n / 128) (by omega) (acc ++ [((n % 128 + 128 : Nat) : Int)]) (by omega) (by rw [List.length_append, List.length_singleton]; omega)
      rw [List.append_assoc, List.singleton_append, ← hb] at hi
      refine Ev.step (f := fun k => intervalmonref02_Uint.l0 k ((n / 128 : Nat) : Int) (acc ++ [((n % 128 + 128 : Nat) : Int)])) (fun k => ?_) hi
      have e1 : IntKind.u64.wrap (Int.tdiv (n : Int) 128) = ((n / 128 : Nat) : Int) := by
        rw [Int.tdiv_eq_ediv_of_nonneg (by omega), u64_id _ (by omega) (by omega)]
        omega
      have e2 : (IntKind.u64.wrap (128 + Int.tmod (n : Int) 128)) % 256 = ((n % 128 + 128 : Nat) : Int) := by
        rw [Int.tmod_eq_emod_of_nonneg (by omega), u64_id _ (by omega) (by omega)]
        omega
      rw [intervalmonref02_Uint.l0, if_pos (by omega), if_pos (by omega), e1, e2]
theorem ref_uint (n : Nat) (h : n < 18446744073709551616) : Ev (fun k => intervalmonref02_Uint.f k (n : Int)) (uvN n) := ref_uint_l n [] h (by have := uvN_ten h; simp; omega)
theorem ref_int (n : Int) (h : I64 n) : Ev (fun k => intervalmonref02_Int.f k n) (uvN (zig n).toNat) := by
  have hz := zig_range n h
  have hu := ref_uint (zig n).toNat (by omega)
  rw [Int.toNat_of_nonneg hz.1] at hu
  refine Ev.bind (f := fun k t168 => (intervalmonref02_Uint.f k t168).bind fun t169 => (some t169)) (a := zig n) ?_ (Ev.bind (f := fun _ t169 => some t169) hu (Ev.now _))
  exact Ev.congr (f := fun _ => some (zig n)) (fun k => ref_zigzag n h) (Ev.now _)
theorem ref_raw (l : List Int) (h : l.length < 1099511627776) : Ev (fun k => intervalmonref02_Raw.f k l) (rawV l) := by
  have hu := ref_uint l.length (by omega)
  have e : IntKind.u64.wrap (l.length : Int) = (l.length : Int) := u64_id _ (by omega) (by omega)
  have hr := rawV_len l h
  refine Ev.bind (g := fun k => intervalmonref02_Uint.f k (IntKind.u64.wrap (l.length : Int))) (f := fun _ t137 => (if t137.length + l.length < 140737488355328 then (some (t137 ++ l)) else (none))) (a := uvN l.length) (Ev.congr (f := fun k => intervalmonref02_Uint.f k (l.length : Int)) (fun k => by rw [e]) hu) ?_
  refine Ev.congr (f := fun _ => some (rawV l)) (fun k => ?_) (Ev.now _)
  have : (uvN l.length).length + l.length = (rawV l).length := by rw [rawV, List.length_append]
  rw [if_pos (by omega), rawV]
theorem ref_bytes_l (s : ByteArray) (hs : s.size < 1099511627776) (b zs : List Int) (hz : zs.length < 549755813888) : ∀ (m i : Nat), i + m = zs.length →
    Ev (fun k => intervalmonref01_Bytes.l0 k s b zs ((zs.take i).map wrap64) (i : Int)) (sumV (bytesOf s) (zs.map wrap64 ++ [(b.length : Int)]))
  | 0, i, h => by
    refine Ev.step (f := fun _ => some (sumV (bytesOf s) (zs.map wrap64 ++ [(b.length : Int)]))) (fun k => ?_) (Ev.now _)
    have ht : zs.take i = zs := List.take_of_length_le (by omega)
    rw [intervalmonref01_Bytes.l0, if_neg (by omega), ht, if_pos (by rw [List.length_map]; omega), intervalmonref01_Sum.f, if_pos ⟨hs, by simp; omega⟩]
    rfl
  | m + 1, i, h => by
    have hi := ref_bytes_l s hs b zs hz m (i + 1) (by omega)
    have hlt : i < zs.length := by omega
    refine Ev.step (f := fun k => intervalmonref01_Bytes.l0 k s b zs ((zs.take (i + 1)).map wrap64) ((i + 1 : Nat) : Int)) (fun k => ?_) hi
    have e1 : wrap64 ((i : Int) + 1) = ((i + 1 : Nat) : Int) := by unfold wrap64; omega
    have e2 : (zs.take (i + 1)).map wrap64 = (zs.take i).map wrap64 ++ [wrap64 (rd zs (i : Int))] := by
      rw [List.take_succ_eq_append_getElem hlt, List.map_append, rd, Int.toNat_natCast, List.getD_eq_getElem?_getD, List.getElem?_eq_getElem hlt]
      rfl
    rw [intervalmonref01_Bytes.l0, if_pos (by omega), if_pos (by omega), if_pos (by rw [List.length_map, List.length_take]; omega), e1, e2]
theorem ref_bytes (s : ByteArray) (hs : s.size < 1099511627776) (b : List Int) (hb : AllB b) (hl : b.length < 1099511627776) : Ev (fun k => intervalmonref01_Bytes.f k s b) (hashV (bytesOf s) b) := by
  have hz : (wordsV b).length < 549755813888 := by rw [wordsV, List.length_map, List.length_range]; omega
  have h := ref_bytes_l s hs b (wordsV b) hz (wordsV b).length 0 (by omega)
  have e : (wordsV b).map IntKind.i64.wrap = (wordsV b).map wrap64 := List.map_congr_left (fun x _ => i64_w x)
  rw [hashV, e]
  exact Ev.bind (f := fun k t147 => intervalmonref01_Bytes.l0 k s b t147 ([] : List Int) 0) (ref_words b hb hl) h
theorem coreV_all (s k p c : Int) {b : List Int} (h : AllB b) : AllB (coreV s k p c b) := AllB.app (numsV_all _) (rawV_all h)
theorem coreV_len (s k p c : Int) (b : List Int) (h4 : ∀ n, n ∈ [s, k, p, c] → I64 n) (h : b.length < 200000000) : (coreV s k p c b).length ≤ b.length + 50 := by
  have h1 := numsV_len [s, k, p, c] h4
  have h2 := rawV_len b (by omega)
  rw [coreV, List.length_append]
  simp only [List.length_cons, List.length_nil] at h1
  omega
theorem ref_whole (core : List Int) (hb : AllB core) (hl : core.length < 1000000000) : Ev (fun k => intervalmonref18_Whole.f k core) (wholeV core) := by
  have hh := hashV_range (bytesOf blockS) core
  have hu := ref_uint (hashV (bytesOf blockS) core).toNat (by omega)
  rw [Int.toNat_of_nonneg hh.1] at hu
  have h10 := uvN_ten (n := (hashV (bytesOf blockS) core).toNat) (by omega)
  have hr := rawV_len core (by omega)
  refine Ev.bind (f := fun k t158 => ((intervalmonref01_Bytes.f k blockS core).bind fun t161 => ((intervalmonref02_Uint.f k t161).bind fun t162 => (if t158.length + t162.length < 140737488355328 then (some (t158 ++ t162)) else (none))))) (ref_raw core (by omega)) ?_
  refine Ev.bind (f := fun k t161 => ((intervalmonref02_Uint.f k t161).bind fun t162 => (if (rawV core).length + t162.length < 140737488355328 then (some (rawV core ++ t162)) else (none)))) (ref_bytes blockS (by decide) core hb (by omega)) ?_
  refine Ev.bind (f := fun _ t162 => (if (rawV core).length + t162.length < 140737488355328 then (some (rawV core ++ t162)) else (none))) hu ?_
  refine Ev.congr (f := fun _ => some (wholeV core)) (fun k => ?_) (Ev.now _)
  rw [if_pos (by omega), wholeV]
theorem numsV_four (s k p c : Int) : numsV [s, k, p, c] = uvN (zig s).toNat ++ uvN (zig k).toNat ++ uvN (zig p).toNat ++ uvN (zig c).toNat := by simp [numsV]
theorem ref_core (s k p c : Int) (l : List S44) (b : List Int) (h4 : ∀ n, n ∈ [s, k, p, c] → I64 n) (hl : b.length < 200000000) : Ev (fun r => intervalmonref18_Core.f r s k p c l b) (coreV s k p c b) := by
  have is := h4 s (by simp)
  have ik := h4 k (by simp)
  have ip := h4 p (by simp)
  have ic := h4 c (by simp)
  have z1 := zig_range s is
  have z2 := zig_range k ik
  have z3 := zig_range p ip
  have z4 := zig_range c ic
  have l1 := uvN_ten (n := (zig s).toNat) (by omega)
  have l2 := uvN_ten (n := (zig k).toNat) (by omega)
  have l3 := uvN_ten (n := (zig p).toNat) (by omega)
  have l4 := uvN_ten (n := (zig c).toNat) (by omega)
  have lr := rawV_len b (by omega)
  unfold intervalmonref18_Core.f
  refine Ev.bind (ref_int s is) ?_
  refine Ev.bind (ref_int k ik) ?_
  refine Ev.congr (fun r => if_pos (by omega)) ?_
  refine Ev.bind (Ev.now _) ?_
  refine Ev.bind (ref_int p ip) ?_
  refine Ev.congr (fun r => if_pos (by rw [List.length_append]; omega)) ?_
  refine Ev.bind (Ev.now _) ?_
  refine Ev.bind (ref_int c ic) ?_
  refine Ev.congr (fun r => if_pos (by rw [List.length_append, List.length_append]; omega)) ?_
  refine Ev.bind (Ev.now _) ?_
  refine Ev.bind (ref_raw b (by omega)) ?_
  refine Ev.congr (fun r => if_pos (by rw [List.length_append, List.length_append, List.length_append]; omega)) ?_
  rw [coreV, numsV_four]
  exact Ev.now _
theorem ref_valid (s k p c : Int) (l : List S44) : intervalmonref18_Valid.f s k p c l = some (vldB s k p c) := by
  have hp : intervalmonref18_Param.f k p = some (decide (0 ≤ k) && decide (k < 5) && parR k p) := by
    by_cases hk : 0 ≤ k ∧ k < 5
    · have : k = 0 ∨ k = 1 ∨ k = 2 ∨ k = 3 ∨ k = 4 := by omega
      rcases this with rfl | rfl | rfl | rfl | rfl
      · have e0 : rd rangesL (2 * 0) = 0 := by decide
        have e1 : rd rangesL (2 * 0 + 1) = 0 := by decide
        rw [parR, e0, e1, intervalmonref18_Param.f, if_pos rfl]
        congr 1
        by_cases h : p = 0
        · subst h; decide
        · have : (p == 0) = false := beq_eq_false_iff_ne.mpr h
          rw [this]
          by_cases h1 : 0 ≤ p
          · simp; omega
          · simp; omega
      · have e0 : rd rangesL (2 * 1) = 1 := by decide
        have e1 : rd rangesL (2 * 1 + 1) = 1073741824 := by decide
        rw [parR, e0, e1, intervalmonref18_Param.f, if_neg (by decide), if_pos rfl]
        by_cases h : p ≥ 1
        · rw [if_pos h]; simp [h]
        · rw [if_neg h]; simp; omega
      · have e0 : rd rangesL (2 * 2) = 0 := by decide
        have e1 : rd rangesL (2 * 2 + 1) = 1073741824 := by decide
        rw [parR, e0, e1, intervalmonref18_Param.f, if_neg (by decide), if_neg (by decide), if_pos rfl]
        by_cases h : p ≥ 0
        · rw [if_pos h]; simp [h]
        · rw [if_neg h]; simp; omega
      · have e0 : rd rangesL (2 * 3) = 1 := by decide
        have e1 : rd rangesL (2 * 3 + 1) = 4096 := by decide
        rw [parR, e0, e1, intervalmonref18_Param.f, if_neg (by decide), if_neg (by decide), if_neg (by decide), if_pos rfl]
        by_cases h : p ≥ 1
        · rw [if_pos h]; simp [h]
        · rw [if_neg h]; simp; omega
      · have e0 : rd rangesL (2 * 4) = 0 := by decide
        have e1 : rd rangesL (2 * 4 + 1) = 1048576 := by decide
        rw [parR, e0, e1, intervalmonref18_Param.f, if_neg (by decide), if_neg (by decide), if_neg (by decide), if_neg (by decide), if_pos rfl]
        by_cases h : p ≥ 0
        · rw [if_pos h]; simp [h]
        · rw [if_neg h]; simp; omega
    · have hb : (decide (0 ≤ k) && decide (k < 5)) = false := by
        rw [← Bool.decide_and]; exact decide_eq_false hk
      rw [hb, Bool.false_and, intervalmonref18_Param.f, if_neg (by omega), if_neg (by omega), if_neg (by omega), if_neg (by omega), if_neg (by omega)]
  rw [intervalmonref18_Valid.f, hp, Option.bind_some, vldB, inR, costR]
  cases h1 : (decide (0 ≤ k) && decide (k < 5)) with
  | false => simp
  | true =>
    cases h2 : parR k p with
    | false => simp
    | true =>
      simp only [Bool.true_and, Bool.and_true, if_true]
      by_cases a1 : s ≥ 0
      · rw [if_pos a1]
        by_cases a2 : s < 4096
        · rw [if_pos a2]
          by_cases a3 : c ≥ 0
          · rw [if_pos a3]
            by_cases a4 : c ≤ 4398046511104
            · rw [if_pos a4]
              by_cases a5 : k = 0
              · rw [if_pos a5]
                have e1 : decide (0 ≤ s) = true := decide_eq_true a1
                have e2 : decide (0 ≤ c) = true := decide_eq_true a3
                simp [a2, a4, a5, e1, e2]
                by_cases a6 : c = 0 <;> simp [a6]
              · rw [if_neg a5]
                have e1 : decide (0 ≤ s) = true := decide_eq_true a1
                have e2 : decide (0 ≤ c) = true := decide_eq_true a3
                simp [a2, a4, a5, e1, e2]
            · rw [if_neg a4]; simp [a4]
          · rw [if_neg a3]
            have e2 : decide (0 ≤ c) = false := decide_eq_false a3
            simp [e2]
        · rw [if_neg a2]; simp [a2]
      · rw [if_neg a1]
        have e1 : decide (0 ≤ s) = false := decide_eq_false a1
        simp [e1]
end Go.Proofs.YtblbieenfghbdaaDoor.F
end

section
namespace Go.Proofs.YtblbieenfghbdaaDoor.F
open Go.RowKit Go.Proofs.YtblbieenfghbdaaDoor.D Go.Proofs.YtblbieenfghbdaaDoor.E Go.Proofs.YtblbieenfghbdaaDoorW.PrintWords Go.Proofs.YtblbieenfghbdaaDoorW.PrintLast Go.Proofs.YtblbieenfghbdaaDoorW.PrintMore
set_option linter.unusedVariables false
set_option linter.unusedSimpArgs false
theorem ref_encode18 (s k p c : Int) (l : List S44) (h4 : ∀ n, n ∈ [s, k, p, c] → I64 n) : Ev (fun r => intervalmonref18_Encode.f r s k p c l) (encBlk s k p c l) := by
  unfold intervalmonref18_Encode.f encBlk
  refine Ev.bind (Ev.congr (f := fun _ => some (vldB s k p c)) (fun _ => ref_valid s k p c l) (Ev.now _)) ?_
  by_cases hv : vldB s k p c = true
  · rw [if_pos hv]
    refine Ev.congr (fun r => if_pos hv) ?_
    refine Ev.bind (ref_encode l) ?_
    by_cases he : (encRes l).2 = 0
    · rw [if_pos he]
      refine Ev.congr (fun r => if_pos he) ?_
      have hl := encRes_len l
      have hc := coreV_len s k p c (encRes l).1 h4 (by omega)
      refine Ev.bind (ref_core s k p c l (encRes l).1 h4 (by omega)) ?_
      refine Ev.bind (ref_whole _ (coreV_all s k p c (encRes_all l)) (by omega)) ?_
      exact Ev.now _
    · rw [if_neg he]
      refine Ev.congr (fun r => if_neg he) ?_
      exact Ev.now _
  · rw [if_neg hv]
    refine Ev.congr (fun r => if_neg hv) ?_
    exact Ev.now _
theorem encBlk_len (s k p c : Int) (l : List S44) (h4 : ∀ n, n ∈ [s, k, p, c] → I64 n) : (encBlk s k p c l).1.length < 1000000 := by
  unfold encBlk
  split
  · split
    · have hl := encRes_len l
      have hc := coreV_len s k p c (encRes l).1 h4 (by omega)
      have hr := rawV_len (coreV s k p c (encRes l).1) (by omega)
      have hh := hashV_range (bytesOf blockS) (coreV s k p c (encRes l).1)
      have h10 := uvN_ten (n := (hashV (bytesOf blockS) (coreV s k p c (encRes l).1)).toNat) (by omega)
      simp only [wholeV, List.length_append]
      omega
    · simp
  · simp
end Go.Proofs.YtblbieenfghbdaaDoor.F
end
