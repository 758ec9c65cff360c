/- Bits and bytes: what a stream of bits packs to, and the code of a number, in plain words. -/
import Derived.Test.YtblbieenfghbdaaDoorKi
import Derived.Laws.BitsAllLaws
namespace Go.Proofs.YtblbieenfghbdaaDoor.D
open Go.RowKit Go.Proofs.YtblbieenfghbdaaDoorW.PrintWords
set_option linter.unusedVariables false
set_option linter.unusedSimpArgs false
theorem downs_lt : ∀ (k i : Nat), i ∈ downs k → i < k
  | 0, _, h => by cases h
  | k + 1, i, h => by
    rw [downs, List.mem_cons] at h
    rcases h with h | h
    · omega
    · have := downs_lt k i h; omega
theorem bitOf_nat (n i : Nat) (h : n < 18446744073709551616) (hi : i ≤ 64) : bitOf (n : Int) i = n.testBit i := by
  have hp : 0 < 2 ^ i := Nat.two_pow_pos i
  have hc : ((n : Int) / 2 ^ i) = ((n / 2 ^ i : Nat) : Int) := by push_cast; rfl
  have hle : n / 2 ^ i ≤ n := Nat.div_le_self _ _
  rw [bitOf, Nat.min_eq_left hi, hc, Nat.testBit_eq_decide_div_mod_eq]
  generalize n / 2 ^ i = q at hle ⊢
  rw [and_one _ (by omega) (by omega), decide_eq_decide]
  omega
/-- The number that bits tell, the first the most. -/
def valN (β : List Bool) : Nat := β.foldl (fun a b => 2 * a + b.toNat) 0
theorem foldl_val (β : List Bool) (a : Nat) : β.foldl (fun a b => 2 * a + b.toNat) a = a * 2 ^ β.length + valN β := by
  induction β generalizing a with
  | nil => simp [valN]
  | cons b β ih =>
    rw [valN, List.foldl_cons, List.foldl_cons, ih, ih (2 * 0 + b.toNat), List.length_cons, Nat.pow_succ, Nat.add_mul, Nat.add_mul]
    rw [show 2 * a * 2 ^ β.length = a * (2 ^ β.length * 2) by rw [Nat.mul_comm 2 a, Nat.mul_assoc, Nat.mul_comm 2]]
    omega
theorem valN_cons (b : Bool) (β : List Bool) : valN (b :: β) = b.toNat * 2 ^ β.length + valN β := by
  rw [valN, List.foldl_cons, foldl_val]
  simp
theorem valN_lt (β : List Bool) : valN β < 2 ^ β.length := by
  induction β with
  | nil => simp [valN]
  | cons b β ih =>
    rw [valN_cons, List.length_cons, Nat.pow_succ]
    cases b <;> simp <;> omega
theorem bits_of_val (β : List Bool) : (downs β.length).map (fun i => (valN β).testBit i) = β := by
  induction β with
  | nil => rfl
  | cons b β ih =>
    have hl := valN_lt β
    rw [List.length_cons, downs, List.map_cons, valN_cons, Nat.mul_comm]
    congr 1
    · rw [Nat.testBit_two_pow_mul_add _ hl, if_neg (by omega), Nat.sub_self]
      cases b <;> rfl
    · refine Eq.trans (List.map_congr_left fun i hi => ?_) ih
      rw [Nat.testBit_two_pow_mul_add _ hl, if_pos (downs_lt _ _ hi)]
theorem val_of_bits (n : Nat) : ∀ k, valN ((downs k).map (fun i => n.testBit i)) = n % 2 ^ k
  | 0 => by simp [downs, valN, Nat.mod_one]
  | k + 1 => by
    rw [downs, List.map_cons, valN_cons, val_of_bits n k, List.length_map, downs_length, Nat.mod_pow_succ, Nat.testBit_eq_decide_div_mod_eq]
    have h2 : n / 2 ^ k % 2 = 0 ∨ n / 2 ^ k % 2 = 1 := by omega
    rcases h2 with h | h <;> rw [h] <;> simp <;> omega
/-- The bits of a byte, from the top. -/
def bits8 (x : Int) : List Bool := (downs 8).map (bitOf x)
/-- The bits of bytes. -/
def unpack (bs : List Int) : List Bool := bs.flatMap bits8
theorem bits8_length (x : Int) : (bits8 x).length = 8 := by simp [bits8, downs_length]
theorem unpack_length (bs : List Int) : (unpack bs).length = 8 * bs.length := by
  induction bs with
  | nil => rfl
  | cons x bs ih => simp only [unpack, List.flatMap_cons, List.length_append, bits8_length, List.length_cons] at ih ⊢; omega
theorem unpack_append (a b : List Int) : unpack (a ++ b) = unpack a ++ unpack b := by simp [unpack]
theorem unpack_cons (x : Int) (b : List Int) : unpack (x :: b) = bits8 x ++ unpack b := by simp [unpack]
/-- A list of bytes. -/
def AllB (bs : List Int) : Prop := ∀ x, x ∈ bs → 0 ≤ x ∧ x < 256
theorem AllB.app {a b : List Int} (h : AllB a) (k : AllB b) : AllB (a ++ b) := fun x hx => by
  rcases List.mem_append.1 hx with hx | hx
  · exact h x hx
  · exact k x hx
theorem fin_push : ∀ x : Fin 256, ∀ m : Fin 8, (bits8 ((x.val : Nat) : Int)).drop m.val = List.replicate (8 - m.val) false → ∀ b : Bool,
    0 ≤ pushByte ((x.val : Nat) : Int) ((m.val : Nat) : Int) (if b then 1 else 0) ∧ pushByte ((x.val : Nat) : Int) ((m.val : Nat) : Int) (if b then 1 else 0) < 256 ∧
    bits8 (pushByte ((x.val : Nat) : Int) ((m.val : Nat) : Int) (if b then 1 else 0)) = (bits8 ((x.val : Nat) : Int)).take m.val ++ b :: List.replicate (7 - m.val) false ∧
    pushByte ((x.val : Nat) : Int) ((m.val : Nat) : Int) (if b then 1 else 0) = (x.val : Int) + (if b then 2 ^ (7 - m.val) else 0) := by decide +kernel
theorem fin_val : ∀ x : Fin 256, valN (bits8 ((x.val : Nat) : Int)) = x.val := by decide +kernel
theorem byte_push (x : Int) (m : Nat) (b : Bool) (h0 : 0 ≤ x) (h1 : x < 256) (hm : m < 8) (hd : (bits8 x).drop m = List.replicate (8 - m) false) :
    0 ≤ pushByte x m (if b then 1 else 0) ∧ pushByte x m (if b then 1 else 0) < 256 ∧ bits8 (pushByte x m (if b then 1 else 0)) = (bits8 x).take m ++ b :: List.replicate (7 - m) false ∧
    pushByte x m (if b then 1 else 0) = x + (if b then 2 ^ (7 - m) else 0) := by
  obtain ⟨n, rfl⟩ := Int.eq_ofNat_of_zero_le h0
  exact fin_push ⟨n, by omega⟩ ⟨m, hm⟩ hd b
theorem bits8_inj {x y : Int} (h0 : 0 ≤ x) (h1 : x < 256) (h2 : 0 ≤ y) (h3 : y < 256) (h : bits8 x = bits8 y) : x = y := by
  obtain ⟨n, rfl⟩ := Int.eq_ofNat_of_zero_le h0
  obtain ⟨m, rfl⟩ := Int.eq_ofNat_of_zero_le h2
  have e1 := fin_val ⟨n, by omega⟩
  have e2 := fin_val ⟨m, by omega⟩
  simp only at e1 e2
  rw [h] at e1
  omega
theorem unpack_inj : ∀ {a b : List Int}, AllB a → AllB b → unpack a = unpack b → a = b
  | [], [], _, _, _ => rfl
  | [], y :: b, _, _, h => by
    have := congrArg List.length h
    rw [unpack_length, unpack_length] at this
    simp at this
  | x :: a, [], _, _, h => by
    have := congrArg List.length h
    rw [unpack_length, unpack_length] at this
    simp at this
  | x :: a, y :: b, ha, hb, h => by
    rw [unpack_cons, unpack_cons] at h
    have h' := List.append_inj h (by rw [bits8_length, bits8_length])
    have hx := ha x List.mem_cons_self
    have hy := hb y List.mem_cons_self
    rw [bits8_inj hx.1 hx.2 hy.1 hy.2 h'.1, unpack_inj (fun z hz => ha z (List.mem_cons_of_mem _ hz)) (fun z hz => hb z (List.mem_cons_of_mem _ hz)) h'.2]
/-- The bits that fill the last byte. -/
def padN (n : Nat) : Nat := (8 - n % 8) % 8
/-- Bytes that hold a list of bits and end in zeros. -/
def Packed (bs : List Int) (β : List Bool) : Prop := AllB bs ∧ unpack bs = β ++ List.replicate (padN β.length) false
theorem Packed.nil : Packed [] [] := ⟨fun x h => by (cases h), rfl⟩
theorem Packed.uniq {a b : List Int} {β : List Bool} (h : Packed a β) (k : Packed b β) : a = b := unpack_inj h.1 k.1 (by rw [h.2, k.2])
theorem Packed.length {a : List Int} {β : List Bool} (h : Packed a β) : 8 * a.length = β.length + padN β.length := by
  rw [← unpack_length, h.2, List.length_append, List.length_replicate]
/-- One more bit, at a byte's begin. -/
theorem Packed.snoc0 {a : List Int} {β : List Bool} (h : Packed a β) (b : Bool) (h0 : β.length % 8 = 0) :
    Packed (a ++ [if b then 128 else 0]) (β ++ [b]) ∧ pushBits a β.length (if b then 1 else 0) = a ++ [if b then 128 else 0] := by
  have hT : Int.tmod (β.length : Int) 8 = 0 := by rw [Int.tmod_eq_emod_of_nonneg (by omega)]; omega
  have hu : unpack a = β := by
    have := h.2
    rw [show padN β.length = 0 by simp only [padN]; omega] at this
    simpa using this
  have hb := byte_push 0 0 b (by decide) (by decide) (by decide) (by decide +kernel)
  rw [show ((0 : Nat) : Int) = 0 from rfl] at hb
  have e3 : pushByte 0 0 (if b = true then 1 else 0) = if b = true then 128 else 0 := by
    rw [hb.2.2.2]
    cases b <;> rfl
  refine ⟨⟨h.1.app (fun x hx => ?_), ?_⟩, ?_⟩
  · rw [List.mem_singleton] at hx
    subst hx
    cases b <;> decide
  · rw [unpack_append, hu, unpack_cons, ← e3, hb.2.2.1, show unpack [] = [] from rfl, List.append_nil, List.take_zero, List.nil_append, List.length_append, List.length_singleton, List.append_assoc, List.singleton_append]
    rw [show padN (β.length + 1) = 7 by simp only [padN]; omega]
  · rw [pushBits, hT]
    show ((if (0 : Int) = 0 then a ++ [0] else a).set _ _) = _
    simp only [if_true]
    have e1 : ((a ++ [(0 : Int)]).length : Int) - 1 = (a.length : Int) := by simp
    have e2 : rdOf 0 (a ++ [(0 : Int)]) (a.length : Int) = 0 := by simp [rdOf]
    rw [e1, e2, e3, Int.toNat_natCast, List.set_append_right _ _ (Nat.le_refl _), Nat.sub_self]
    rfl
/-- One more bit, within a byte. -/
theorem Packed.snocm {a : List Int} {β : List Bool} (h : Packed a β) (b : Bool) (h0 : β.length % 8 ≠ 0) :
    Packed (a.set (a.length - 1) (rdOf 0 a ((a.length : Int) - 1) + (if b then 2 ^ (7 - β.length % 8) else 0))) (β ++ [b]) ∧
    pushBits a β.length (if b then 1 else 0) = a.set (a.length - 1) (rdOf 0 a ((a.length : Int) - 1) + (if b then 2 ^ (7 - β.length % 8) else 0)) := by
  obtain ⟨m, hm⟩ : ∃ m, β.length % 8 = m := ⟨_, rfl⟩
  have hT : Int.tmod (β.length : Int) 8 = (m : Int) := by rw [Int.tmod_eq_emod_of_nonneg (by omega)]; omega
  have hlen := h.length
  have hm8 : m < 8 := by omega
  simp only [padN] at hlen
  rw [hm] at hlen h0 ⊢
  have hne : a ≠ [] := fun e => by
    rw [e] at hlen
    simp only [List.length_nil] at hlen
    omega
  obtain ⟨init, x, rfl⟩ : ∃ init x, a = init ++ [x] := ⟨a.dropLast, a.getLast hne, (List.dropLast_concat_getLast hne).symm⟩
  have hx := h.1 x (by simp)
  have hu := h.2
  rw [unpack_append, unpack_cons, show unpack [] = [] from rfl, List.append_nil, show padN β.length = 8 - m by simp only [padN, hm]; omega] at hu
  simp only [List.length_append, List.length_singleton] at hlen
  have hil : (unpack init).length + m = β.length := by rw [unpack_length]; omega
  have hsp : (unpack init ++ (bits8 x).take m) ++ (bits8 x).drop m = β ++ List.replicate (8 - m) false := by rw [List.append_assoc, List.take_append_drop]; exact hu
  have hin := List.append_inj hsp (by rw [List.length_append, List.length_take, bits8_length, ← hil]; omega)
  have hb := byte_push x m b hx.1 hx.2 hm8 hin.2
  have e1 : ((init ++ [x]).length : Int) - 1 = (init.length : Int) := by simp
  have e2 : rdOf 0 (init ++ [x]) (init.length : Int) = x := by simp [rdOf]
  have e4 : (init ++ [x]).length - 1 = init.length := by simp
  have es : ∀ y, (init ++ [x]).set init.length y = init ++ [y] := fun y => by
    rw [List.set_append_right _ _ (Nat.le_refl _), Nat.sub_self]; rfl
  rw [e1, e2, e4, es, ← hb.2.2.2]
  refine ⟨⟨?_, ?_⟩, ?_⟩
  · refine AllB.app (fun y hy => h.1 y (by simp [hy])) (fun y hy => ?_)
    rw [List.mem_singleton] at hy
    subst hy
    exact ⟨hb.1, hb.2.1⟩
  · rw [unpack_append, unpack_cons, show unpack [] = [] from rfl, List.append_nil, hb.2.2.1, ← List.append_assoc, hin.1, List.length_append, List.length_singleton, List.append_assoc, List.singleton_append]
    rw [show padN (β.length + 1) = 7 - m by simp only [padN]; omega]
  · rw [pushBits, hT]
    show ((if (m : Int) = 0 then init ++ [x] ++ [0] else init ++ [x]).set _ _) = _
    have hm0 : ¬ (m : Int) = 0 := by omega
    simp only [hm0, if_false]
    rw [e1, e2, Int.toNat_natCast, es]
theorem packL_packed (β : List Bool) : Packed (packL β) β := by
  induction β using snoc_induction with
  | h0 => exact Packed.nil
  | hs β b ih =>
    rw [packL_snoc]
    by_cases h0 : β.length % 8 = 0
    · rw [(ih.snoc0 b h0).2]
      exact (ih.snoc0 b h0).1
    · rw [(ih.snocm b h0).2]
      exact (ih.snocm b h0).1
end Go.Proofs.YtblbieenfghbdaaDoor.D
