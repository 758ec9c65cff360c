/- The call of law 18's BlockEqual gives true, whatever it is handed. -/
import Derived.Test.YtblbieenfghbdaaDoorBj
import Derived.Test.YtblbieenfghbdaaDoorBx
import Derived.Deep.RegionHeld3
namespace Go.Proofs.YtblbieenfghbdaaDoor.F
open Go.RowKit Go.Proofs.YtblbieenfghbdaaDoor.D Go.Proofs.YtblbieenfghbdaaDoor.E Go.Proofs.YtblbieenfghbdaaDoorW.PrintWords Go.Proofs.YtblbieenfghbdaaDoorW.PrintLast Go.Proofs.YtblbieenfghbdaaDoorW.PrintMore
set_option linter.unusedVariables false
set_option linter.unusedSimpArgs false
/-- The five cells of a block in memory, at its type. -/
def BlkT (t : Nat) (W : World) (q : Nat) (s k p c : Int) (v : Value) : Prop := W.heap[q]? = some (.cells #[.int .i64 s, .int .i64 k, .int .i64 p, .int .i64 c, v] t (0, 0))
section
variable {t : Nat} {W W1 : World} {q : Nat} {s k p c : Int} {v : Value}
theorem BlkT.cells (h : BlkT t W q s k p c v) : W.cell? ⟨q, 0, none⟩ = some (.int .i64 s) ∧ W.cell? ⟨q, 1, none⟩ = some (.int .i64 k) ∧ W.cell? ⟨q, 2, none⟩ = some (.int .i64 p) ∧ W.cell? ⟨q, 3, none⟩ = some (.int .i64 c) ∧ W.cell? ⟨q, 4, none⟩ = some v :=
  ⟨(blk_cell h 0).trans rfl, (blk_cell h 1).trans rfl, (blk_cell h 2).trans rfl, (blk_cell h 3).trans rfl, (blk_cell h 4).trans rfl⟩
theorem BlkT.below (h : BlkT t W q s k p c v) (hb : Below W.heap.size W W1) : BlkT t W1 q s k p c v := (hb.block q (blk_lt h)).trans h
theorem BlkT.alloc (h : BlkT t W q s k p c v) (o : Obj) : BlkT t (W.alloc o) q s k p c v := blk_alloc h o
theorem BlkT.new (t : Nat) (W : World) (s k p c : Int) (v : Value) : BlkT t (W.alloc (.cells #[.int .i64 s, .int .i64 k, .int .i64 p, .int .i64 c, v] t)) W.heap.size s k p c v := (show _ = _ by simpa using heap_alloc_new W (.cells #[.int .i64 s, .int .i64 k, .int .i64 p, .int .i64 c, v] t))
theorem BlkT.lt (h : BlkT t W q s k p c v) : q < W.heap.size := blk_lt h
theorem BlkT.put (h : BlkT t W q s k p c v) (u : Value) : BlkT t (W.setCell ⟨q, 4, none⟩ u) q s k p c u := blk_put h 4 u rfl
theorem BlkT.far (h : BlkT t W q s k p c v) {z j : Nat} (hz : q ≠ z) (u : Value) : BlkT t (W.setCell ⟨z, j, none⟩ u) q s k p c v := blk_far h (p := ⟨z, j, none⟩) hz u
end
theorem xor_one_ne (x : Int) : bits BinOp.xor IntKind.i64 x 1 ≠ x := by
  intro h
  have e1 : bits BinOp.xor IntKind.i64 x 1 = IntKind.i64.wrap ((BitVec.ofInt 64 x ^^^ BitVec.ofInt 64 1).toNat : Int) := rfl
  rw [e1, i64_w, BitVec.toNat_xor] at h
  have h1 : (BitVec.ofInt 64 (1 : Int)).toNat = 1 := by decide
  have h2 : (((BitVec.ofInt 64 x).toNat : Nat) : Int) = x % 18446744073709551616 := by
    rw [BitVec.toNat_ofInt]
    have := Int.emod_nonneg x (show (18446744073709551616 : Int) ≠ 0 by decide)
    simp only [Nat.reducePow]
    omega
  rw [h1] at h
  generalize (BitVec.ofInt 64 x).toNat = m at h h2
  have h3 : (m ^^^ 1) % 2 ≠ m % 2 := by
    have t : (m ^^^ 1).testBit 0 = (m.testBit 0 ^^ Nat.testBit 1 0) := Nat.testBit_xor ..
    rw [Nat.testBit_zero, Nat.testBit_zero, show Nat.testBit 1 0 = true by decide] at t
    intro e
    rw [e] at t
    rcases Nat.mod_two_eq_zero_or_one m with q | q <;> rw [q] at t <;> simp at t
  unfold wrap64 at h
  omega
theorem by_key17 {K G : Prop} (h : K → G) (k : K) : G := h k
theorem infoQ : (Tryd.prog.info? 44).map (fun i => (i.zero, i.size, i.bytes)) = some (some (.agg #[(.int .i64 0), (.int .i64 0), (.int .i64 0), (.int .i64 0)]), 4, 32) := by kernel_rfl
theorem C_one44 {W : World} {B : Nat} {z0 z1 z2 z3 : Int} (h : W.heap[B]? = some (.cells #[.int .i64 z0, .int .i64 z1, .int .i64 z2, .int .i64 z3] 44 (0, 0))) : Kd.C k44 W (some ⟨B, 0, none⟩) 1 [⟨z0, z1, z2, z3⟩] := by
  refine ⟨rfl, by decide, fun _ => ⟨_, rfl, fun j s hj => ?_⟩⟩
  have hj1 := (List.getElem?_eq_some_iff.1 hj).1
  obtain rfl : j = 0 := by simp at hj1; omega
  obtain rfl : (⟨z0, z1, z2, z3⟩ : S44) = s := by simpa using hj
  refine ⟨[.int .i64 z0, .int .i64 z1, .int .i64 z2, .int .i64 z3], rfl, ⟨_, _, rfl, rfl, ⟨_, _, rfl, rfl, ⟨_, _, rfl, rfl, rfl⟩⟩⟩, fun i u hu => ?_⟩
  rw [add_plain, blk_cell h]
  have hi := (List.getElem?_eq_some_iff.1 hu).1
  simp only [List.length_cons, List.length_nil] at hi
  have : i = 0 ∨ i = 1 ∨ i = 2 ∨ i = 3 := by omega
  rcases this with rfl | rfl | rfl | rfl <;> (simp at hu; subst hu; rfl)
theorem R_empty44 {W : World} {B base : Nat} (h : W.heap[B]? = some (.cells #[] 44 (0, 0))) (hb : base ≤ B) : Kd.R k44 44 W base (fun _ => True) (.slice (some ⟨B, 0, none⟩) 0 0) [] := by
  refine ⟨fun _ _ => trivial, [], ⟨by simp, .inr ⟨B, 0, #[], rfl, hb, h, Nat.le_refl _, by simp [maxLen], by simp, by simp⟩⟩, Reps.none _ _⟩
set_option maxHeartbeats 4000000 in
set_option maxRecDepth 100000 in
theorem intervalmonlaw18_BlockEqual.calls (n : Int) (A1 : Option Addr) (c1 : Nat) (l : List Int) (at_ to_ : Int) (w : World) (hr : Kd.C (Kd.int .i64) w A1 l.length l) (hc : l.length ≤ c1) (hn : I64 n) (hl : ∀ x, x ∈ l → I64 x) (hat : I64 at_) (hto : I64 to_) (hG : Glob w) (hGB : GlobB w) :
    Calls Tryd.prog 6 #[.int .i64 n, .slice A1 l.length c1, .int .i64 at_, .int .i64 to_] w fun e w' => e = .returned (.bool true) ∧ Below w.heap.size w w' := by
  have hu47 := Tryd.underlying47
  have hu53 := Tryd.underlying53
  have hr' := Aside0.mk hr
  have hG' := Aside0.mk hG
  have hGB' := Aside0.mk hGB
  clear hr hG hGB hc
  go_enter Tryd.func6, Tryd.ntmps6
  go_wp2_with (fail)
  refine (Made_.calls n A1 c1 l w hr'.out hl hn).mono ?_
  rintro e w2 ⟨s, k, p, c, v, a, rfl, hR2, ⟨hE, hal⟩, ⟨hV, hI4⟩, hB2⟩
  obtain ⟨Aa, ca, rfl⟩ := Kd.R_slice hR2
  have ka := Aside0.mk (Kd.R_reads' hR2).2
  have hb2 := Aside0.mk hB2
  have hE' := Aside0.mk hE
  have hI4' := Aside0.mk hI4
  clear hE hI4 hV hB2 hR2
  go_upto_region 2 with (fail)
  have hX3 := BlkT.new 47 w2 s k p c (.slice Aa a.length ca)
  have hb3 := Aside0.mk (below_alloc hb2.out (.cells #[.int .i64 s, .int .i64 k, .int .i64 p, .int .i64 c, .slice Aa a.length ca] 47))
  have ka3 := Aside0.mk (And.intro ka.out.1 (Kd.C_alloc ka.out.2 (.cells #[.int .i64 s, .int .i64 k, .int .i64 p, .int .i64 c, .slice Aa a.length ca] 47)))
  generalize w2.alloc (.cells #[.int .i64 s, .int .i64 k, .int .i64 p, .int .i64 c, .slice Aa a.length ca] 47) = w3 at hX3 hb3 ka3 ⊢
  generalize w2.heap.size = X at hX3 ⊢
  clear hb2 ka
  obtain ⟨x0, x1, x2, x3, x4⟩ := hX3.cells
  go_wp2_with (fail)
  refine (of_.calls s k p c Aa a.length ca w3).mono ?_
  rintro e w4 ⟨rfl, hB4⟩
  have hX4 := hX3.below hB4
  have hb4 := Aside0.mk (below_then hb3.out hb3.out.size hB4)
  have ka4 := Aside0.mk (And.intro ka3.out.1 (Kd.C_below ka3.out.2 hB4))
  clear hB4 hX3 hb3 ka3 x0 x1 x2 x3 x4
  go_upto_region 3 with (fail)
  have hP5 := BlkT.new 53 w4 s k p c (.slice Aa a.length ca)
  have hX5 := hX4.alloc (.cells #[.int .i64 s, .int .i64 k, .int .i64 p, .int .i64 c, .slice Aa a.length ca] 53)
  have hb5 := Aside0.mk (below_alloc hb4.out (.cells #[.int .i64 s, .int .i64 k, .int .i64 p, .int .i64 c, .slice Aa a.length ca] 53))
  have ka5 := Aside0.mk (And.intro ka4.out.1 (Kd.C_alloc ka4.out.2 (.cells #[.int .i64 s, .int .i64 k, .int .i64 p, .int .i64 c, .slice Aa a.length ca] 53)))
  have hXP : X ≠ w4.heap.size := by have := hX4.lt; omega
  have hPw := Aside0.mk hb4.out.size
  generalize w4.alloc (.cells #[.int .i64 s, .int .i64 k, .int .i64 p, .int .i64 c, .slice Aa a.length ca] 53) = w5 at hP5 hX5 hb5 ka5 ⊢
  generalize w4.heap.size = P at hP5 hXP hPw ⊢
  clear hX4 hb4 ka4
  obtain ⟨x0, x1, x2, x3, x4⟩ := hX5.cells
  go_wp2_with (fail)
  refine (Bent_.calls s k p c Aa a.length ca at_ to_ w5).mono ?_
  rintro e w6 ⟨s', k', p', c', hbv, rfl, hB6⟩
  have hX6 := hX5.below hB6
  have hP6 := hP5.below hB6
  have hb6 := Aside0.mk (below_then hb5.out hb5.out.size hB6)
  have ka6 := Aside0.mk (And.intro ka5.out.1 (Kd.C_below ka5.out.2 hB6))
  clear hbv hB6 hX5 hP5 hb5 ka5 x0 x1 x2 x3 x4
  go_upto_region 4 with (fail)
  have hY7 := BlkT.new 47 w6 s' k' p' c' (.slice Aa a.length ca)
  have hX7 := hX6.alloc (.cells #[.int .i64 s', .int .i64 k', .int .i64 p', .int .i64 c', .slice Aa a.length ca] 47)
  have hP7 := hP6.alloc (.cells #[.int .i64 s', .int .i64 k', .int .i64 p', .int .i64 c', .slice Aa a.length ca] 47)
  have hb7 := Aside0.mk (below_alloc hb6.out (.cells #[.int .i64 s', .int .i64 k', .int .i64 p', .int .i64 c', .slice Aa a.length ca] 47))
  have ka7 := Aside0.mk (And.intro ka6.out.1 (Kd.C_alloc ka6.out.2 (.cells #[.int .i64 s', .int .i64 k', .int .i64 p', .int .i64 c', .slice Aa a.length ca] 47)))
  have hPY : P ≠ w6.heap.size := by have := hP6.lt; omega
  generalize w6.alloc (.cells #[.int .i64 s', .int .i64 k', .int .i64 p', .int .i64 c', .slice Aa a.length ca] 47) = w7 at hY7 hX7 hP7 hb7 ka7 ⊢
  generalize w6.heap.size = Y at hY7 hPY ⊢
  clear hX6 hP6 hb6 ka6
  obtain ⟨rS, hrS⟩ : ∃ r, sameV s k p c a s' k' p' c' a = r := ⟨_, rfl⟩
  have h62 : a.length < 4611686018427387904 := by have := hal; omega
  obtain ⟨k1, f1⟩ := (ref_same18 s k p c a s' k' p' c' a h62).rounds
  obtain ⟨k2, f2⟩ := (block_eq s k p c a s' k' p' c' a h62).rounds
  obtain ⟨k3, f3⟩ := (block_eq s k p c a s k p c a h62).rounds
  rw [hrS] at f1 f2
  rw [sameV_self] at f3
  have f1' := Aside0.mk f1
  have f2' := Aside0.mk f2
  have f3' := Aside0.mk f3
  clear f1 f2 f3 hrS
  obtain ⟨x0, x1, x2, x3, x4⟩ := hX7.cells
  obtain ⟨y0, y1, y2, y3, y4⟩ := hY7.cells
  go_wp2_with (fail)
  refine (intervalmonref18_Same.calls k1 s k p c Aa ca a s' k' p' c' Aa ca a rS w7 ka7.out.2 ka7.out.1 ka7.out.2 ka7.out.1 f1'.out).mono ?_
  rintro e w8 ⟨rfl, hd⟩
  have hB8 := hd
  have hY8 := hY7.below hB8
  have hP8 := hP7.below hB8
  have hb8 := Aside0.mk (below_then hb7.out hb7.out.size hB8)
  have ka8 := Aside0.mk (And.intro ka7.out.1 (Kd.C_below ka7.out.2 hB8))
  clear hd hB8 hY7 hX7 hP7 hb7 ka7 x0 x1 x2 x3 x4 y0 y1 y2 y3 y4 f1'
  go_upto_region 5 with (fail)
  have keepS : ∀ w' : World, Below w8.heap.size w8 w' → ((w'.cell? ⟨P, 0, none⟩ = some (.int .i64 s) ∧ w'.cell? ⟨P, 1, none⟩ = some (.int .i64 k) ∧ w'.cell? ⟨P, 2, none⟩ = some (.int .i64 p) ∧ w'.cell? ⟨P, 3, none⟩ = some (.int .i64 c) ∧ w'.cell? ⟨P, 4, none⟩ = some (.slice Aa a.length ca)) ∧ (w'.cell? ⟨Y, 0, none⟩ = some (.int .i64 s') ∧ w'.cell? ⟨Y, 1, none⟩ = some (.int .i64 k') ∧ w'.cell? ⟨Y, 2, none⟩ = some (.int .i64 p') ∧ w'.cell? ⟨Y, 3, none⟩ = some (.int .i64 c') ∧ w'.cell? ⟨Y, 4, none⟩ = some (.slice Aa a.length ca)) ∧ Below w8.heap.size w8 w') := fun w' hB => ⟨(hP8.below hB).cells, (hY8.below hB).cells, hB⟩
  have hPP : Aside0 (∀ w' : World, Below w8.heap.size w8 w' → Calls Tryd.prog 37 #[.agg #[.int .i64 s, .int .i64 k, .int .i64 p, .int .i64 c, .slice Aa a.length ca], .agg #[.int .i64 s, .int .i64 k, .int .i64 p, .int .i64 c, .slice Aa a.length ca]] w' fun e w1 => e = .returned (.bool true) ∧ Below w8.heap.size w8 w1) :=
    ⟨fun w' hB => (block_Equal.calls k3 s k p c Aa ca a s k p c Aa ca a true w' (Kd.C_below ka8.out.2 hB) ka8.out.1 (Kd.C_below ka8.out.2 hB) ka8.out.1 f3'.out).mono fun e w1 h => ⟨h.1, below_then hB hB.size h.2⟩⟩
  have hPB : Aside0 (∀ w' : World, Below w8.heap.size w8 w' → Calls Tryd.prog 37 #[.agg #[.int .i64 s, .int .i64 k, .int .i64 p, .int .i64 c, .slice Aa a.length ca], .agg #[.int .i64 s', .int .i64 k', .int .i64 p', .int .i64 c', .slice Aa a.length ca]] w' fun e w1 => e = .returned (.bool rS) ∧ Below w8.heap.size w8 w1) :=
    ⟨fun w' hB => (block_Equal.calls k2 s k p c Aa ca a s' k' p' c' Aa ca a rS w' (Kd.C_below ka8.out.2 hB) ka8.out.1 (Kd.C_below ka8.out.2 hB) ka8.out.1 f2'.out).mono fun e w1 h => ⟨h.1, below_then hB hB.size h.2⟩⟩
  have hOf : Aside0 (∀ w' : World, Below w8.heap.size w8 w' → Calls Tryd.prog 33 #[.agg #[.int .i64 s', .int .i64 k', .int .i64 p', .int .i64 c', .slice Aa a.length ca]] w' fun e w1 => e = .returned (.agg #[.int .i64 s', .int .i64 k', .int .i64 p', .int .i64 c', .slice Aa a.length ca]) ∧ Below w8.heap.size w8 w1) :=
    ⟨fun w' hB => (of_.calls s' k' p' c' Aa a.length ca w').mono fun e w1 h => ⟨h.1, below_then hB hB.size h.2⟩⟩
  have keepS' := Aside0.mk keepS
  have hP8' := Aside0.mk hP8
  have hY8' := Aside0.mk hY8
  obtain ⟨⟨x0, x1, x2, x3, x4⟩, ⟨y0, y1, y2, y3, y4⟩, hbS⟩ := keepS w8 (Below.refl _ _)
  have ere : (rS != rS) = false := by simp
  have hw8 := Aside0.mk hb8.out.size
  clear keepS f2' f3' hP8 hY8
  go_region_held3 (fun w' => (w'.cell? ⟨P, 0, none⟩ = some (.int .i64 s) ∧ w'.cell? ⟨P, 1, none⟩ = some (.int .i64 k) ∧ w'.cell? ⟨P, 2, none⟩ = some (.int .i64 p) ∧ w'.cell? ⟨P, 3, none⟩ = some (.int .i64 c) ∧ w'.cell? ⟨P, 4, none⟩ = some (.slice Aa a.length ca)) ∧ (w'.cell? ⟨Y, 0, none⟩ = some (.int .i64 s') ∧ w'.cell? ⟨Y, 1, none⟩ = some (.int .i64 k') ∧ w'.cell? ⟨Y, 2, none⟩ = some (.int .i64 p') ∧ w'.cell? ⟨Y, 3, none⟩ = some (.int .i64 c') ∧ w'.cell? ⟨Y, 4, none⟩ = some (.slice Aa a.length ca)) ∧ Below w8.heap.size w8 w') (first | (exact keepS'.out _ (by assumption)) | (exact keepS'.out _ (below_drew1 (by assumption))) | (exact keepS'.out _ (below_drew1 (Below.refl _ _))))
    (first
      | (go_at_call_of 37 (Value.agg #[.int .i64 s, .int .i64 k, .int .i64 p, .int .i64 c, .slice Aa a.length ca]); with_reducible refine (hPP.out _ ?_).mono ?_; (first | assumption | (exact And.right (And.right (by assumption)))); rintro e w9 ⟨rfl, hB⟩)
      | (go_at_call_of 37 (Value.agg #[.int .i64 s, .int .i64 k, .int .i64 p, .int .i64 c, .slice Aa a.length ca]); with_reducible refine (hPB.out _ ?_).mono ?_; (first | assumption | (exact And.right (And.right (by assumption)))); rintro e w9 ⟨rfl, hB⟩)
      | (go_at_call_of 33 (Value.agg #[.int .i64 s', .int .i64 k', .int .i64 p', .int .i64 c', .slice Aa a.length ca]); with_reducible refine (hOf.out _ ?_).mono ?_; (first | assumption | (exact And.right (And.right (by assumption)))); rintro e w9 ⟨rfl, hB⟩))
  have hP9 := hP8'.out.below hB
  have hb9 := Aside0.mk (below_then hb8.out hb8.out.size hB)
  have ka9 := Aside0.mk (And.intro ka8.out.1 (Kd.C_below ka8.out.2 hB))
  clear hPP hPB hOf keepS' hP8' hY8' hw8 hb8 ka8 x0 x1 x2 x3 x4 y0 y1 y2 y3 y4 hB hbS hPY
  obtain ⟨x0, x1, x2, x3, x4⟩ := hP9.cells
  by_cases h0 : a.length = 0
  · have q0 : ((a.length : Int) == 0) = true := by simp [h0]
    have q1 : decide ((a.length : Int) = 0) = true := by simp [h0]
    have h0' := Aside0.mk h0
    clear h0
    go_upto_region 10 with (fail)
    clear q0 q1 x0 x1 x2 x3 x4
    have hV := BlkT.new 53 w9 s k p c (.slice Aa a.length ca)
    have hP10 := hP9.alloc (.cells #[.int .i64 s, .int .i64 k, .int .i64 p, .int .i64 c, .slice Aa a.length ca] 53)
    have hb10 := Aside0.mk (below_alloc hb9.out (.cells #[.int .i64 s, .int .i64 k, .int .i64 p, .int .i64 c, .slice Aa a.length ca] 53))
    have ka10 := Aside0.mk (And.intro ka9.out.1 (Kd.C_alloc ka9.out.2 (.cells #[.int .i64 s, .int .i64 k, .int .i64 p, .int .i64 c, .slice Aa a.length ca] 53)))
    have hPV : P ≠ w9.heap.size := by have := hP9.lt; omega
    have hVw := Aside0.mk hb9.out.size
    have kaW : Aside0 (∀ W, Below w9.heap.size w9 W → Kd.C k44 W Aa a.length a) := ⟨fun W h => Kd.C_below ka9.out.2 h⟩
    have hbz : Below w9.heap.size w9 (w9.alloc (.cells #[.int .i64 s, .int .i64 k, .int .i64 p, .int .i64 c, .slice Aa a.length ca] 53)) := below_alloc (Below.refl _ _) _
    have hVz0 := Aside0.mk (BlkT.new 53 w9 s k p c (.slice Aa a.length ca)).lt
    generalize w9.alloc (.cells #[.int .i64 s, .int .i64 k, .int .i64 p, .int .i64 c, .slice Aa a.length ca] 53) = w10 at hV hP10 hb10 ka10 hbz hVz0 ⊢
    generalize w9.heap.size = V at hV hPV hVw hbz hVz0 kaW ⊢
    clear hP9 hb9 ka9
    obtain ⟨x0, x1, x2, x3, x4⟩ := hP10.cells
    obtain ⟨v0, v1, v2, v3, v4⟩ := hV.cells
    have hVz := hV.alloc (.cells #[.int .i64 0, .int .i64 0, .int .i64 0, .int .i64 0] 44)
    have vN := hVz.cells.2.2.2.2
    have fN := blk_frozen hVz 4
    go_upto_region 11 with (fail)
    have hV11 := hVz.put (.slice (some ⟨w10.heap.size, 0, none⟩) 1 1)
    have hP11 := (hP10.alloc (.cells #[.int .i64 0, .int .i64 0, .int .i64 0, .int .i64 0] 44)).far (j := 4) hPV (.slice (some ⟨w10.heap.size, 0, none⟩) 1 1)
    have hb11 := Aside0.mk (below_set (j := 4) (v := .slice (some ⟨w10.heap.size, 0, none⟩) 1 1) (below_alloc hb10.out (.cells #[.int .i64 0, .int .i64 0, .int .i64 0, .int .i64 0] 44)) hVw.out)
    have hbz11 : Below V w9 ((w10.alloc (.cells #[.int .i64 0, .int .i64 0, .int .i64 0, .int .i64 0] 44)).setCell ⟨V, 4, none⟩ (.slice (some ⟨w10.heap.size, 0, none⟩) 1 1)) := (hbz.alloc (Nat.le_of_lt hVz0.out) (.cells #[.int .i64 0, .int .i64 0, .int .i64 0, .int .i64 0] 44)).setCell (p := ⟨V, 4, none⟩) (Nat.le_refl _) _
    have ka11 := Aside0.mk (And.intro ka10.out.1 (kaW.out _ hbz11))
    have hz11 : ((w10.alloc (.cells #[.int .i64 0, .int .i64 0, .int .i64 0, .int .i64 0] 44)).setCell ⟨V, 4, none⟩ (.slice (some ⟨w10.heap.size, 0, none⟩) 1 1)).heap[w10.heap.size]? = some (.cells #[.int .i64 0, .int .i64 0, .int .i64 0, .int .i64 0] 44 (0, 0)) := blk_far (by simpa using heap_alloc_new w10 (.cells #[.int .i64 0, .int .i64 0, .int .i64 0, .int .i64 0] 44)) (p := ⟨V, 4, none⟩) (by show w10.heap.size ≠ V; have := hVz0.out; omega) _
    generalize (w10.alloc (.cells #[.int .i64 0, .int .i64 0, .int .i64 0, .int .i64 0] 44)).setCell ⟨V, 4, none⟩ (.slice (some ⟨w10.heap.size, 0, none⟩) 1 1) = w11 at hV11 hP11 hb11 ka11 hz11 ⊢
    generalize w10.heap.size = Z0 at hV11 hz11 ⊢
    have kz11 := Aside0.mk (C_one44 hz11)
    clear x0 x1 x2 x3 x4 v0 v1 v2 v3 v4 hVz vN fN hV hP10 hb10 ka10 hbz hbz11 hz11 kaW
    obtain ⟨x0, x1, x2, x3, x4⟩ := hP11.cells
    obtain ⟨v0, v1, v2, v3, v4⟩ := hV11.cells
    have hne : a ≠ [⟨0, 0, 0, 0⟩] := fun h => by have := h0'.out; rw [h] at this; simp at this
    obtain ⟨k4, f4⟩ := (block_eq s k p c a s k p c [⟨0, 0, 0, 0⟩] h62).rounds
    obtain ⟨k5, f5⟩ := (block_eq s k p c [⟨0, 0, 0, 0⟩] s k p c a (by decide)).rounds
    rw [sameV_ne s k p c hne] at f4
    rw [sameV_ne s k p c (Ne.symm hne)] at f5
    have f4' := Aside0.mk f4
    have f5' := Aside0.mk f5
    clear f4 f5 hne
    go_wp2_with (fail)
    refine (block_Equal.calls k4 s k p c Aa ca a s k p c (some ⟨Z0, 0, none⟩) 1 [⟨0, 0, 0, 0⟩] false w11 ka11.out.2 ka11.out.1 kz11.out (Nat.le_refl _) f4'.out).mono ?_
    rintro e w12 ⟨rfl, hB12⟩
    have hb12 := Aside0.mk (below_then hb11.out hb11.out.size hB12)
    have ka12 := Aside0.mk (And.intro ka11.out.1 (Kd.C_below ka11.out.2 hB12))
    have kz12 := Aside0.mk (Kd.C_below kz11.out hB12)
    obtain ⟨x0, x1, x2, x3, x4⟩ := (hP11.below hB12).cells
    obtain ⟨v0, v1, v2, v3, v4⟩ := (hV11.below hB12).cells
    clear hB12 hb11 ka11 kz11 hP11 hV11
    go_wp2_with (fail)
    refine (block_Equal.calls k5 s k p c (some ⟨Z0, 0, none⟩) 1 [⟨0, 0, 0, 0⟩] s k p c Aa ca a false w12 kz12.out (Nat.le_refl _) ka12.out.2 ka12.out.1 f5'.out).mono ?_
    rintro e w13 ⟨rfl, hB13⟩
    have hb13 := Aside0.mk (below_then hb12.out hb12.out.size hB13)
    clear hB13 hb12 ka12 kz12 x0 x1 x2 x3 x4 v0 v1 v2 v3 v4
    go_wp2_with (fail)
    refine (lives18.calls w13 (hG'.out.below hb13.out) (hGB'.out.below hb13.out)).mono ?_
    rintro e w14 ⟨rfl, hB14⟩
    have hfin := Aside0.mk (below_then hb13.out hb13.out.size hB14)
    go_wp2
    go_ret
    exact ⟨rfl, hfin.out⟩
  · have q0 : ((a.length : Int) == 0) = false := by simp [h0]
    have q1 : decide ((a.length : Int) = 0) = false := by simp [h0]
    have h0' := Aside0.mk h0
    clear h0
    go_upto_region 13 with (fail)
    clear q0 q1 x0 x1 x2 x3 x4
    have hU := BlkT.new 53 w9 s k p c (.slice Aa a.length ca)
    have hP10 := hP9.alloc (.cells #[.int .i64 s, .int .i64 k, .int .i64 p, .int .i64 c, .slice Aa a.length ca] 53)
    have hb10 := Aside0.mk (below_alloc hb9.out (.cells #[.int .i64 s, .int .i64 k, .int .i64 p, .int .i64 c, .slice Aa a.length ca] 53))
    have hPU : P ≠ w9.heap.size := by have := hP9.lt; omega
    have hUw := Aside0.mk hb9.out.size
    have kaW : Aside0 (∀ W, Below w9.heap.size w9 W → a.length ≤ ca ∧ Kd.C k44 W Aa a.length a) := ⟨fun W h => ⟨ka9.out.1, Kd.C_below ka9.out.2 h⟩⟩
    have hbz : Below w9.heap.size w9 (w9.alloc (.cells #[.int .i64 s, .int .i64 k, .int .i64 p, .int .i64 c, .slice Aa a.length ca] 53)) := below_alloc (Below.refl _ _) _
    have hUlt := Aside0.mk (Nat.le_of_lt hU.lt)
    obtain ⟨i09, hi09, _, hsz9, _⟩ := info_parts infoQ
    have cut9 := cut_from (P := Tryd.prog) 45 44 .i64 Tryd.underlying45 hi09 4 hsz9 Aa a.length ca 1 (by decide) (by have := h0'.out; omega)
    rw [show ((1 : Int).toNat) = 1 by decide] at cut9
    have hcl : a.length - 1 ≤ ca - 1 := by have := ka9.out.1; omega
    obtain ⟨A9, hA9⟩ : ∃ A9, (if ca = 1 then Aa else Aa.map (·.add (1 * 4))) = A9 := ⟨_, rfl⟩
    rw [hA9] at cut9
    have hA9' := Aside0.mk hA9
    clear hA9
    generalize w9.alloc (.cells #[.int .i64 s, .int .i64 k, .int .i64 p, .int .i64 c, .slice Aa a.length ca] 53) = w10 at hU hP10 hb10 hbz hUlt ⊢
    generalize w9.heap.size = U at hU hPU hUw hbz hUlt kaW ⊢
    clear hP9 hb9 ka9
    obtain ⟨x0, x1, x2, x3, x4⟩ := hP10.cells
    have u4 := hU.cells.2.2.2.2
    have fU := blk_frozen hU 4
    go_upto_region 14 with (fail)
    clear x0 x1 x2 x3 x4 u4 fU cut9
    have hU11 := hU.put (.slice A9 (a.length - 1) (ca - 1))
    have hP11 := hP10.far (j := 4) hPU (.slice A9 (a.length - 1) (ca - 1))
    have hb11 := Aside0.mk (below_set (j := 4) (v := (.slice A9 (a.length - 1) (ca - 1))) hb10.out hUw.out)
    have hbz11 := Aside0.mk (hbz.setCell (p := ⟨U, 4, none⟩) (Nat.le_refl U) (.slice A9 (a.length - 1) (ca - 1)))
    generalize w10.setCell ⟨U, 4, none⟩ (.slice A9 (a.length - 1) (ca - 1)) = w11 at hU11 hP11 hb11 hbz11 ⊢
    clear hU hP10 hb10 hbz
    obtain ⟨x0, x1, x2, x3, x4⟩ := hP11.cells
    go_upto_region 15 with (fail)
    clear x0 x1 x2 x3 x4
    have hZ := BlkT.new 53 w11 s k p c (.slice Aa a.length ca)
    have hP12 := hP11.alloc (.cells #[.int .i64 s, .int .i64 k, .int .i64 p, .int .i64 c, .slice Aa a.length ca] 53)
    have hU12 := hU11.alloc (.cells #[.int .i64 s, .int .i64 k, .int .i64 p, .int .i64 c, .slice Aa a.length ca] 53)
    have hb12 := Aside0.mk (below_alloc hb11.out (.cells #[.int .i64 s, .int .i64 k, .int .i64 p, .int .i64 c, .slice Aa a.length ca] 53))
    have hUle := Aside0.mk (Nat.le_of_lt hU12.lt)
    have hbz12 := Aside0.mk (hbz11.out.alloc (Nat.le_of_lt hU11.lt) (.cells #[.int .i64 s, .int .i64 k, .int .i64 p, .int .i64 c, .slice Aa a.length ca] 53))
    have hPZ : P ≠ w11.heap.size := by have := hP11.lt; omega
    have hUZ : U ≠ w11.heap.size := by have := hU11.lt; omega
    have hUZ' := Aside0.mk (Nat.le_of_lt hU11.lt)
    have hZw := Aside0.mk hb11.out.size
    generalize w11.alloc (.cells #[.int .i64 s, .int .i64 k, .int .i64 p, .int .i64 c, .slice Aa a.length ca] 53) = w12 at hZ hP12 hU12 hb12 hbz12 hUle ⊢
    generalize w11.heap.size = Z at hZ hPZ hUZ hUZ' hZw ⊢
    clear hU11 hP11 hb11 hbz11
    have p4 := (hP12.alloc (.cells #[] 44)).cells.2.2.2.2
    have hZ' := Aside0.mk hZ
    have hP12' := Aside0.mk hP12
    have hU12' := Aside0.mk hU12
    clear hZ hP12 hU12
    have hR0 : Kd.R k44 44 (w12.alloc (.cells #[] 44)) w12.heap.size (fun _ => True) (.slice (some ⟨w12.heap.size, 0, none⟩) 0 0) [] := R_empty44 (by simpa using heap_alloc_new w12 (.cells #[] 44)) (Nat.le_refl _)
    have hb0 : Below w12.heap.size w12 (w12.alloc (.cells #[] 44)) := below_alloc (Below.refl _ _) _
    have ka0 := (kaW.out _ (hbz12.out.alloc hUle.out (.cells #[] 44))).2
    go_upto_region 16 with (first | ((with_reducible refine gate_builtin (b := .append) (xs := #[.tmp 74, .tmp 76]) rfl ?_); at_builtin; refine Kd.R_append_rows k44 (w0 := w12) w12.heap.size rfl (.tmp 74) (.tmp 76) 45 44 (.agg #[.int .i64 0, .int .i64 0, .int .i64 0, .int .i64 0]) 32 rfl Tryd.underlying45 infoQ rfl (by decide) (by omega) (.slice (some ⟨w12.heap.size, 0, none⟩) 0 0) ([] : List S44) a Aa a.length ca (fun _ => True) (fun _ => False) rfl rfl hR0 ka0 (fun x cs h => (k44_open h).symm ▸ k44_mkM _ _ _ x) (fun _ h => h.elim) (fun _ _ => trivial) hb0 hb0.size (by simp; omega) ?_; intro v13 w13 ho13 hb13 hg13 _; rw [List.nil_append] at ho13; obtain ⟨g, c13, rfl, hgb, hgl, gcs, hgc⟩ := Kd.R_form ho13 (by have := h0'.out; omega); have zZ := (hZ'.out.below hb13).cells.2.2.2.2; have zF := blk_frozen (hZ'.out.below hb13) 4))
    clear p4 hR0 hb0 ka0 zZ zF hg13
    have hE0 : k44.E = [] := by kernel_rfl
    have hZ13 := hZ'.out.below hb13
    have hP14 := (hP12'.out.below hb13).far (j := 4) hPZ (.slice (some ⟨g, 0, none⟩) a.length c13)
    have hU14 := (hU12'.out.below hb13).far (j := 4) hUZ (.slice (some ⟨g, 0, none⟩) a.length c13)
    have hZ14 := hZ13.put (.slice (some ⟨g, 0, none⟩) a.length c13)
    have hb14 := Aside0.mk (below_set (j := 4) (v := (.slice (some ⟨g, 0, none⟩) a.length c13)) (below_then hb12.out hb12.out.size hb13) hZw.out)
    have hbz14 := Aside0.mk ((hbz12.out.trans (hb13.mono hUle.out)).setCell (p := ⟨Z, 4, none⟩) hUZ'.out (.slice (some ⟨g, 0, none⟩) a.length c13))
    have ho14 := Kd.R_set ho13 hZ13 (fun q hq => by rw [hE0] at hq; simp at hq; omega) 4 (.slice (some ⟨g, 0, none⟩) a.length c13)
    have hgU : U ≠ g := by have := hUle.out; have := hU12'.out.lt; omega
    have hgP : P ≠ g := by have := hP12'.out.lt; omega
    have hgZ : Z ≠ g := by have := hZ'.out.lt; omega
    have hgw := Aside0.mk (show w.heap.size ≤ g by have := hb12.out.size; omega)
    have hUg := Aside0.mk (show U ≤ g by have := hUle.out; omega)
    clear hZ13 ho13 hb13 hgc hgl hgb hP12' hU12' hZ' hb12 hbz12 hUle hUZ' hUZ hPZ hZw
    generalize w13.setCell ⟨Z, 4, none⟩ (.slice (some ⟨g, 0, none⟩) a.length c13) = w14 at hP14 hU14 hZ14 hb14 hbz14 ho14 ⊢
    go_wp2_with (fail)
    refine (around_still to_ a.length w14 (by have := h0'.out; omega)).mono ?_
    rintro e w15 ⟨rfl, rfl⟩
    have hk := around_rng to_ a.length hto (by have := h0'.out; omega)
    generalize aroundV to_ (a.length : Int) = kk at hk ⊢
    obtain ⟨hk0, hk1⟩ := hk
    obtain ⟨ce, hcl', hcM, hcc, hcf⟩ := Kd.R_elem ho14 (⟨0, 0, 0, 0⟩ : S44) kk hk0 hk1
    obtain ⟨el, hel⟩ : ∃ el, a.getD kk.toNat (⟨0, 0, 0, 0⟩ : S44) = el := ⟨_, rfl⟩
    have hkl : kk.toNat < a.length := by omega
    have hel' := Aside0.mk (show a[kk.toNat]? = some el by rw [← hel, List.getD_eq_getElem?_getD, List.getElem?_eq_getElem hkl]; rfl)
    rw [hel] at hcM
    obtain ⟨f0, f1, f2, f3⟩ := el
    obtain rfl := k44_openM hcM
    have e3 := hcc 3 _ rfl
    have ef := hcf 3
    go_upto_region 17 with (fail)
    have e3' : w15.drew.cell? ⟨g, kk.toNat * 4 + 3, none⟩ = some (.int .i64 f3) := e3
    have ef' : w15.drew.frozen? ⟨g, kk.toNat * 4 + 3, none⟩ = false := ef
    obtain ⟨z0, z1, z2, z3, z4⟩ := hZ14.cells
    have hZ14' := Aside0.mk hZ14
    have hgZ' := Aside0.mk hgZ
    have hcc' := Aside0.mk hcc
    have ho14' := Aside0.mk ho14
    clear e3 ef hcf hel hcc hcM ho14 z0 z1 z2 z3
    apply by_key17
    · intro key
      go_region_with (fail)
      all_goals exact key
    clear e3' ef' z4
    have hyne := xor_one_ne f3
    generalize bits BinOp.xor IntKind.i64 f3 1 = y at hyne ⊢
    have hoS : Kd.R k44 44 (w15.setCell ⟨g, kk.toNat * 4 + 3, none⟩ (.int .i64 y)).drew _ (fun _ => True) (.slice (some ⟨g, 0, none⟩) a.length c13) (a.set kk.toNat ⟨f0, f1, f2, y⟩) := Kd.R_drew (Kd.R_seg ho14'.out kk hk0 hk1 (c := [.int .i64 f0, .int .i64 f1, .int .i64 f2, .int .i64 f3]) (seg := [.int .i64 y]) (j := 3) hcl' hcc'.out (show 3 + 1 ≤ 4 by decide) (x' := ⟨f0, f1, f2, y⟩) (okp := fun _ => False) (k44_mkM _ _ _ ⟨f0, f1, f2, y⟩) (fun _ h => h.elim)).1
    have hbne : a ≠ a.set kk.toNat ⟨f0, f1, f2, y⟩ := fun e => by
      have e1 := hel'.out
      rw [e, List.getElem?_set_self hkl] at e1
      injection e1 with e1
      injection e1 with _ _ _ e1
      exact hyne e1
    have hbl : (a.set kk.toNat ⟨f0, f1, f2, y⟩).length = a.length := List.length_set
    generalize a.set kk.toNat ⟨f0, f1, f2, y⟩ = b at hoS hbne hbl
    have hP16 : BlkT 53 (w15.setCell ⟨g, kk.toNat * 4 + 3, none⟩ (.int .i64 y)).drew P s k p c (.slice Aa a.length ca) := hP14.far (j := kk.toNat * 4 + 3) hgP (.int .i64 y)
    have hU16 : BlkT 53 (w15.setCell ⟨g, kk.toNat * 4 + 3, none⟩ (.int .i64 y)).drew U s k p c (.slice A9 (a.length - 1) (ca - 1)) := hU14.far (j := kk.toNat * 4 + 3) hgU (.int .i64 y)
    have hZ16 : BlkT 53 (w15.setCell ⟨g, kk.toNat * 4 + 3, none⟩ (.int .i64 y)).drew Z s k p c (.slice (some ⟨g, 0, none⟩) a.length c13) := hZ14'.out.far (j := kk.toNat * 4 + 3) hgZ'.out (.int .i64 y)
    have hb16 := Aside0.mk (below_drew1 (below_set (j := kk.toNat * 4 + 3) (v := .int .i64 y) hb14.out hgw.out))
    have hbz16 : Below U w9 (w15.setCell ⟨g, kk.toNat * 4 + 3, none⟩ (.int .i64 y)).drew := below_drew1 (hbz14.out.setCell (p := ⟨g, kk.toNat * 4 + 3, none⟩) hUg.out (.int .i64 y))
    have ka16 := kaW.out _ hbz16
    have kb16 := (Kd.R_reads' hoS).2
    have kd16 := Kd.C_drop ka16.2 (m := 1) (by have := h0'.out; omega) ka16.1
    rw [show k44.sz = 4 from rfl, hA9'.out] at kd16
    have hdl : (a.drop 1).length = a.length - 1 := List.length_drop
    clear hoS hbz16 hel' hkl hcl' hk0 hk1 hcc' ho14' hgw hUg hbz14 hb14 hP14 hU14 hZ14 hZ14' kaW hyne hA9'
    generalize (w15.setCell ⟨g, kk.toNat * 4 + 3, none⟩ (.int .i64 y)).drew = w16 at hP16 hU16 hZ16 hb16 ka16 kb16 kd16 ⊢
    have kall : Aside0 (∀ W, Below w16.heap.size w16 W → (a.length ≤ ca ∧ Kd.C k44 W Aa a.length a) ∧ ((a.drop 1).length ≤ ca - 1 ∧ Kd.C k44 W A9 (a.drop 1).length (a.drop 1)) ∧ (b.length ≤ c13 ∧ Kd.C k44 W (some ⟨g, 0, none⟩) b.length b)) := ⟨fun W h => ⟨⟨ka16.1, Kd.C_below ka16.2 h⟩, ⟨by rw [hdl]; exact hcl, Kd.C_below kd16 h⟩, ⟨by rw [hbl]; exact kb16.1, Kd.C_below kb16.2 h⟩⟩⟩
    clear ka16 kb16 kd16
    have hd1 : a ≠ a.drop 1 := fun e => by have h1 := congrArg List.length e; rw [hdl] at h1; have := h0'.out; omega
    have hdne := enc_ne hbne (fun e => h0'.out (by rw [e]; rfl)) hE'.out (by omega)
    obtain ⟨k4, f4⟩ := (block_eq s k p c a s k p c (a.drop 1) h62).rounds
    obtain ⟨k5, f5⟩ := (block_eq s k p c (a.drop 1) s k p c a (by rw [hdl]; omega)).rounds
    obtain ⟨k6, f6⟩ := (block_eq s k p c a s k p c b h62).rounds
    rw [sameV_ne s k p c hd1] at f4
    rw [sameV_ne s k p c (Ne.symm hd1)] at f5
    rw [sameV_ne s k p c hbne] at f6
    have l1 := encRes_len a
    have s1 := codec_Encode_res 0 a
    have s2 := codec_Encode_res 0 b
    obtain ⟨ra, ea, hra⟩ : ∃ ra ea, encRes a = (ra, ea) := ⟨_, _, rfl⟩
    obtain ⟨rb, eb, hrb⟩ : ∃ rb eb, encRes b = (rb, eb) := ⟨_, _, rfl⟩
    rw [hra] at l1 s1 hdne
    rw [hrb] at s2 hdne
    obtain ⟨k7, f7⟩ := (sameBytes_ev ra rb (by simp only [] at l1; omega)).rounds
    rw [decide_eq_false hdne] at f7
    have F := Aside0.mk (And.intro f4 (And.intro f5 (And.intro f6 (And.intro f7 (And.intro s1 s2)))))
    have hlen := Aside0.mk (And.intro hdl hbl)
    clear f4 f5 f6 f7 s1 s2 hra hrb l1 hdne hd1 hbne hdl hbl
    have p4 := hP16.cells.2.2.2.2
    go_wp2_with (fail)
    refine (codec_Encode.calls 0 Aa ca a ra ea w16 (kall.out _ (Below.refl _ _)).1.2 (kall.out _ (Below.refl _ _)).1.1 (hG'.out.below hb16.out) F.out.2.2.2.2.1).mono ?_
    rintro e w17 ⟨v17, rfl, hR17, hB17⟩
    obtain ⟨A17, c17, rfl⟩ := Kd.R_slice hR17
    have k17 := Aside0.mk (Kd.R_reads' hR17).2
    have r17 := Aside0.mk hB17
    clear hR17 hB17 p4
    have z4 := (hZ16.below r17.out).cells.2.2.2.2
    go_wp2_with (fail)
    have hcall := codec_Encode.calls 0 (some ⟨g, 0, none⟩) c13 b rb eb w17 (kall.out _ r17.out).2.2.2 (kall.out _ r17.out).2.2.1 (hG'.out.below (below_then hb16.out hb16.out.size r17.out)) F.out.2.2.2.2.2
    rw [hlen.out.2] at hcall
    refine hcall.mono ?_
    clear hcall
    rintro e w18 ⟨v18, rfl, hR18, hB18⟩
    obtain ⟨A18, c18, rfl⟩ := Kd.R_slice hR18
    have k18 := Aside0.mk (Kd.R_reads' hR18).2
    have r18 := Aside0.mk (below_then r17.out r17.out.size hB18)
    replace k17 := Aside0.mk (And.intro k17.out.1 (Kd.C_below k17.out.2 hB18))
    clear hR18 hB18 r17 z4
    obtain ⟨x0, x1, x2, x3, x4⟩ := (hP16.below r18.out).cells
    obtain ⟨u0, u1, u2, u3, u4⟩ := (hU16.below r18.out).cells
    go_wp2_with (fail)
    have hcall := block_Equal.calls k4 s k p c Aa ca a s k p c A9 (ca - 1) (a.drop 1) false w18 (kall.out _ r18.out).1.2 (kall.out _ r18.out).1.1 (kall.out _ r18.out).2.1.2 (kall.out _ r18.out).2.1.1 F.out.1
    rw [hlen.out.1] at hcall
    refine hcall.mono ?_
    clear hcall
    rintro e w19 ⟨rfl, hB19⟩
    have r19 := Aside0.mk (below_then r18.out r18.out.size hB19)
    replace k17 := Aside0.mk (And.intro k17.out.1 (Kd.C_below k17.out.2 hB19))
    replace k18 := Aside0.mk (And.intro k18.out.1 (Kd.C_below k18.out.2 hB19))
    clear hB19 r18 x0 x1 x2 x3 x4 u0 u1 u2 u3 u4
    obtain ⟨x0, x1, x2, x3, x4⟩ := (hP16.below r19.out).cells
    obtain ⟨u0, u1, u2, u3, u4⟩ := (hU16.below r19.out).cells
    go_wp2_with (fail)
    have hcall := block_Equal.calls k5 s k p c A9 (ca - 1) (a.drop 1) s k p c Aa ca a false w19 (kall.out _ r19.out).2.1.2 (kall.out _ r19.out).2.1.1 (kall.out _ r19.out).1.2 (kall.out _ r19.out).1.1 F.out.2.1
    rw [hlen.out.1] at hcall
    refine hcall.mono ?_
    clear hcall
    rintro e w20 ⟨rfl, hB20⟩
    have r20 := Aside0.mk (below_then r19.out r19.out.size hB20)
    replace k17 := Aside0.mk (And.intro k17.out.1 (Kd.C_below k17.out.2 hB20))
    replace k18 := Aside0.mk (And.intro k18.out.1 (Kd.C_below k18.out.2 hB20))
    clear hB20 r19 x0 x1 x2 x3 x4 u0 u1 u2 u3 u4
    obtain ⟨x0, x1, x2, x3, x4⟩ := (hP16.below r20.out).cells
    obtain ⟨u0, u1, u2, u3, u4⟩ := (hZ16.below r20.out).cells
    go_wp2_with (fail)
    have hcall := block_Equal.calls k6 s k p c Aa ca a s k p c (some ⟨g, 0, none⟩) c13 b false w20 (kall.out _ r20.out).1.2 (kall.out _ r20.out).1.1 (kall.out _ r20.out).2.2.2 (kall.out _ r20.out).2.2.1 F.out.2.2.1
    rw [hlen.out.2] at hcall
    refine hcall.mono ?_
    clear hcall
    rintro e w21 ⟨rfl, hB21⟩
    have r21 := Aside0.mk (below_then r20.out r20.out.size hB21)
    replace k17 := Aside0.mk (And.intro k17.out.1 (Kd.C_below k17.out.2 hB21))
    replace k18 := Aside0.mk (And.intro k18.out.1 (Kd.C_below k18.out.2 hB21))
    clear hB21 r20 x0 x1 x2 x3 x4 u0 u1 u2 u3 u4
    go_wp2_with (fail)
    refine (intervalmonref01_SameBytes.calls k7 A17 c17 ra A18 c18 rb false w21 k17.out.2 k17.out.1 k18.out.2 k18.out.1 F.out.2.2.2.1).mono ?_
    rintro e w22 ⟨rfl, hd⟩
    have r22 := Aside0.mk (below_then r21.out r21.out.size hd.below)
    have hb22 := Aside0.mk (below_then hb16.out hb16.out.size r22.out)
    clear hd r21 r22
    go_wp2_with (fail)
    refine (lives18.calls w22 (hG'.out.below hb22.out) (hGB'.out.below hb22.out)).mono ?_
    rintro e w23 ⟨rfl, hB23⟩
    have hfin := Aside0.mk (below_then hb22.out hb22.out.size hB23)
    go_wp2
    go_ret
    exact ⟨rfl, hfin.out⟩
end Go.Proofs.YtblbieenfghbdaaDoor.F
