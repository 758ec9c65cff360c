/- The call of intervalmonref15.ReadInts comes to what intervalmonref15_ReadInts.f gives, the list in new memory, whenever that function gives a result. -/
import Derived.Test.YtblbieenfghbdaaDoorKq
namespace Go.Proofs.YtblbieenfghbdaaDoor.D
open Go.RowKit Go.Proofs.YtblbieenfghbdaaDoorW.PrintWords Go.Proofs.YtblbieenfghbdaaDoorW.PrintLast Go.Proofs.YtblbieenfghbdaaDoorW.PrintMore
set_option linter.unusedVariables false
set_option linter.unusedSimpArgs false
/-- The end: the list if its encoding is what came in. -/
def intervalmonref15_ReadInts.e (k : Nat) (x0 : List Int) (out : List Int) : Option (List Int × Int) :=
  (intervalmonref15_Ints.f k out).bind fun t => (intervalmonref01_SameBytes.f k t x0).bind fun b => if b = true then some (out, 0) else some ([], 2)
/-- The rounds of the reference's ReadInts. -/
def intervalmonref15_ReadInts.l0 (k : Nat) (L : List Bool) (x0 : List Int) : Nat → Int → Int → Int → Int → List Int → Option (List Int × Int)
  | 0, p, e, a, b, out => intervalmonref15_ReadInts.e k x0 out
  | m + 1, p, e, a, b, out => (intervalmonref15_Read.f k L p e).bind fun r => if r.2.1 = true then
      (if out.length < 17592186044416 then intervalmonref15_ReadInts.l0 k L x0 m r.2.2.1 r.2.2.2 (wrap64 (a + wrap64 (b + r.1))) (wrap64 (b + r.1)) (out ++ [wrap64 (a + wrap64 (b + r.1))]) else none) else some ([], 2)
/-- The list of an encoding, or the error. -/
def intervalmonref15_ReadInts.f (k : Nat) (l0 : List Int) : Option (List Int × Int) :=
  (intervalmonref14_Unpack.f k l0).bind fun L => (intervalmonref15_Read.f k L 0 0).bind fun r => if r.2.1 = true then
    (if r.1 < 0 then some ([], 2) else if (L.length : Int) < r.1 then some ([], 2) else intervalmonref15_ReadInts.l0 k L l0 r.1.toNat r.2.2.1 r.2.2.2 0 0 []) else some ([], 2)
/-- The reader and the list of a round. -/
structure RN (w0 W : World) (g : Nat) (L : List Bool) (p e : Int) (v : Value) (out : List Int) : Prop where
  rd : IsS118 w0 W g L p e
  own : Kd.R (Kd.int .i64) 3 W w0.heap.size (fun k => k ≠ g) v out
  bel : Below w0.heap.size w0 W
theorem RN.read {w0 W W1 : World} {g : Nat} {L : List Bool} {p e p' e' : Int} {v : Value} {out : List Int} (h : RN w0 W g L p e v out)
    (hs : IsS118 w0 W1 g L p' e') (hb : Below w0.heap.size w0 W1) (hk : KeepBut W W1 g none) : RN w0 W1 g L p' e' v out :=
  ⟨hs, Kd.R_keep h.own hk (fun k hk => hk), hb⟩
theorem RN.app {w0 W W1 : World} {g : Nat} {L : List Bool} {p e : Int} {v v1 : Value} {out out1 : List Int} (h : RN w0 W g L p e v out)
    (ho : Kd.R (Kd.int .i64) 3 W1 w0.heap.size (fun k => k ≠ g) v1 out1) (hb : Below w0.heap.size w0 W1) (hg : W.grownBy W1 v.ownBlock) : RN w0 W1 g L p e v1 out1 :=
  ⟨h.rd.grown hg (fun e => h.own.1 _ e.symm rfl), ho, hb⟩
set_option maxHeartbeats 2000000 in
set_option maxRecDepth 100000 in
theorem intervalmonref15_ReadInts.calls (k : Nat) (A0 : Option Addr) (c0 : Nat) (l0 : List Int) (r1 : List Int) (r2 : Int) (w : World) (hr0 : Kd.C (Kd.int .u8) w A0 l0.length l0) (hc0 : l0.length ≤ c0) (h : intervalmonref15_ReadInts.f k l0 = some (r1, r2)) :
    Calls Tryd.prog 23 #[.slice A0 l0.length c0] w fun e w' => ∃ v0_ : Value, e = .returned (.tuple #[v0_, .int .i64 r2]) ∧ Kd.R (Kd.int .i64) 3 w' w.heap.size (fun _ => True) v0_ r1 ∧ Below w.heap.size w w' := by
  unfold intervalmonref15_ReadInts.f at h
  obtain ⟨L, hL, h⟩ := Option.bind_eq_some_iff.mp h
  obtain ⟨⟨n, is, m1, m2⟩, hget, h⟩ := Option.bind_eq_some_iff.mp h
  have H := Aside0.mk h
  have HL := Aside0.mk hL
  have HG := Aside0.mk hget
  clear h hL hget
  go_enter Tryd.func23, Tryd.ntmps23
  go_upto_region 2 with (first | (go_at_call 73; refine (intervalmonref14_Unpack.calls k A0 c0 l0 L w hr0 hc0 HL.out).mono ?_; rintro e w1 ⟨v1, rfl, hR1, hB1⟩; obtain ⟨A1, c1, rfl⟩ := Kd.R_slice hR1))
  have hI := Aside0.mk (IsS118.new w1 w1 A1 c1 L 0 0 (Below.refl _ _) (Kd.R_reads' hR1).2.2)
  have hBb := below_alloc (Below.refl w1.heap.size w1) (.cells #[.slice A1 L.length c1, .int .i64 0, .int .i64 0] 118)
  have hLb := Aside0.mk (show L.length ≤ 9223372036854775807 from (Kd.R_reads' hR1).2.2.2.1)
  clear hR1
  generalize hg : w1.heap.size = g at hI ⊢
  have hgg := Aside0.mk hg
  clear hg
  generalize w1.alloc (.cells #[.slice A1 L.length c1, .int .i64 0, .int .i64 0] 118) = w2 at hI hBb ⊢
  go_upto_region 3 with (first | (go_at_call 74; refine (intervalmonref15_Read.calls k g L 0 0 n is m1 m2 w1 w2 hI.out hBb HG.out).mono ?_; rintro e w3 ⟨rfl, hI3, hB3, hK3⟩))
  clear hI hBb hK3 HG w2
  have hr0' := Aside0.mk (Kd.C_below hr0 hB1)
  have hw1 := hB1.size
  have h := H.out
  clear H
  try simp only [] at h
  have hI3' := Aside0.mk hI3
  obtain ⟨A3, c3, hblk, -, -⟩ := hI3
  have k0 : w3.cell? ⟨g, 0, none⟩ = some (.slice A3 L.length c3) := (blk_cell hblk 0).trans rfl
  clear hblk
  cases is with
  | false =>
    rw [if_neg (by decide)] at h
    simp only [Option.some.injEq, Prod.mk.injEq] at h
    obtain ⟨rfl, rfl⟩ := h
    go_wp2
    go_ret2
    exact ⟨_, rfl, Kd.R_nil _ _ _ _ (fun _ => True), below_then hB1 hw1 hB3⟩
  | true =>
  rw [if_pos rfl] at h
  by_cases c1 : n < 0
  · rw [if_pos c1] at h
    simp only [Option.some.injEq, Prod.mk.injEq] at h
    obtain ⟨rfl, rfl⟩ := h
    have c1b : decide (n < 0) = true := decide_eq_true c1
    clear c1
    go_wp2
    go_ret2
    exact ⟨_, rfl, Kd.R_nil _ _ _ _ (fun _ => True), below_then hB1 hw1 hB3⟩
  rw [if_neg c1] at h
  have c1b : decide (n < 0) = false := decide_eq_false c1
  by_cases c2 : (L.length : Int) < n
  · rw [if_pos c2] at h
    simp only [Option.some.injEq, Prod.mk.injEq] at h
    obtain ⟨rfl, rfl⟩ := h
    have c2b : decide (n > (L.length : Int)) = true := decide_eq_true c2
    clear c1 c2
    go_wp2
    go_ret2
    exact ⟨_, rfl, Kd.R_nil _ _ _ _ (fun _ => True), below_then hB1 hw1 hB3⟩
  rw [if_neg c2] at h
  have c2b : decide (n > (L.length : Int)) = false := decide_eq_false c2
  have HL := Aside0.mk h
  clear h
  have hn : (0 : Int) ≤ n := by omega
  have hn2 : n ≤ (L.length : Int) := by omega
  have hn3 : n ≤ 9223372036854775807 := by have := hLb.out; omega
  clear c1 c2
  go_wp2
  have hRN0 := Aside0.mk (⟨hI3'.out, Kd.R_nil _ _ _ _ _, hB3⟩ : RN w1 w3 g L m1 m2 (.slice none 0 0) [])
  clear hI3' hB3 k0
  go_loopg [7, 8, 9, 10] n.toNat (fun kq v7 v8 v9 v10 w' => ∃ (p e a b i : Int) (o : List Int), v10 = .int .i64 i ∧ v8 = .int .i64 a ∧ v9 = .int .i64 b ∧ Aside0 (RN w1 w' g L p e v7 o) ∧ Aside0 (0 ≤ i ∧ i + (kq : Int) = n) ∧ Aside0 (intervalmonref15_ReadInts.l0 k L l0 kq p e a b o = some (r1, r2)))
  case atStart => exact ⟨m1, m2, 0, 0, 0, [], rfl, rfl, rfl, hRN0, ⟨by omega⟩, HL⟩
  case round =>
    clear hRN0 HL
    obtain ⟨p, e, a, b, i, o, rfl, rfl, rfl, hr, hi, hl0⟩ := hrel
    cases gk with
    | zero =>
      have cb : decide (i < n) = false := decide_eq_false (by have := hi.out; omega)
      have h := hl0.out
      rw [intervalmonref15_ReadInts.l0, intervalmonref15_ReadInts.e] at h
      obtain ⟨t, ht, h⟩ := Option.bind_eq_some_iff.mp h
      obtain ⟨bb, hb, h⟩ := Option.bind_eq_some_iff.mp h
      have ht' := Aside0.mk ht
      have hb' := Aside0.mk hb
      have h' := Aside0.mk h
      clear ht hb h hl0
      have hown := hr.out.own
      obtain ⟨A7, c7, rfl⟩ := Kd.R_slice hown
      have hrd := Aside0.mk (Kd.R_reads' hown)
      clear hown
      cases bb with
      | true =>
        have h := h'.out
        rw [if_pos rfl] at h
        simp only [Option.some.injEq, Prod.mk.injEq] at h
        obtain ⟨rfl, rfl⟩ := h
        clear h'
        go_wp2_with (first | (go_at_call 19; refine (intervalmonref15_Ints.calls k A7 c7 o t _ hrd.out.2.2 hrd.out.2.1 ht'.out).mono ?_; rintro e w5 ⟨v5, rfl, hR5, hB5⟩; obtain ⟨A5, c5, rfl⟩ := Kd.R_slice hR5; have hrd5 := Aside0.mk (Kd.R_reads' hR5); have hr05 := Aside0.mk (Kd.C_below (Kd.C_below hr0'.out hr.out.bel) hB5); clear hR5) | (go_at_call 18; refine (intervalmonref01_SameBytes.calls k A5 c5 t A0 c0 l0 true _ hrd5.out.2.2 hrd5.out.2.1 hr05.out hc0 hb'.out).mono ?_; rintro e w6 ⟨rfl, hd6⟩))
        go_ret2
        exact ⟨_, rfl, Kd.R_mono (Kd.R_lower (Kd.R_below (Kd.R_below hr.out.own hB5) hd6.below) hw1) (fun _ _ => trivial), below_then hB1 hw1 (below_then hr.out.bel hr.out.bel.size (below_then hB5 hB5.size hd6.below))⟩
      | false =>
        have h := h'.out
        rw [if_neg (by decide)] at h
        simp only [Option.some.injEq, Prod.mk.injEq] at h
        obtain ⟨rfl, rfl⟩ := h
        clear h'
        go_wp2_with (first | (go_at_call 19; refine (intervalmonref15_Ints.calls k A7 c7 o t _ hrd.out.2.2 hrd.out.2.1 ht'.out).mono ?_; rintro e w5 ⟨v5, rfl, hR5, hB5⟩; obtain ⟨A5, c5, rfl⟩ := Kd.R_slice hR5; have hrd5 := Aside0.mk (Kd.R_reads' hR5); have hr05 := Aside0.mk (Kd.C_below (Kd.C_below hr0'.out hr.out.bel) hB5); clear hR5) | (go_at_call 18; refine (intervalmonref01_SameBytes.calls k A5 c5 t A0 c0 l0 false _ hrd5.out.2.2 hrd5.out.2.1 hr05.out hc0 hb'.out).mono ?_; rintro e w6 ⟨rfl, hd6⟩))
        go_ret2
        exact ⟨_, rfl, Kd.R_nil _ _ _ _ (fun _ => True), below_then hB1 hw1 (below_then hr.out.bel hr.out.bel.size (below_then hB5 hB5.size hd6.below))⟩
    | succ m =>
      have cb : decide (i < n) = true := decide_eq_true (by have := hi.out; omega)
      have h := hl0.out
      rw [intervalmonref15_ReadInts.l0] at h
      obtain ⟨⟨x, is', p', e'⟩, hget, h⟩ := Option.bind_eq_some_iff.mp h
      have hget' := Aside0.mk hget
      clear hget hl0
      cases is' with
      | false =>
        rw [if_neg (by simp)] at h
        simp only [Option.some.injEq, Prod.mk.injEq] at h
        obtain ⟨rfl, rfl⟩ := h
        go_wp2_with (first | (go_at_call 74; refine (intervalmonref15_Read.calls k g L p e x false p' e' w1 _ hr.out.rd hr.out.bel hget'.out).mono ?_; rintro e w5 ⟨rfl, hI5, hB5, hK5⟩))
        go_ret2
        exact ⟨_, rfl, Kd.R_nil _ _ _ _ (fun _ => True), below_then hB1 hw1 hB5⟩
      | true =>
        rw [if_pos rfl] at h
        have hlen : o.length < 17592186044416 := by
          by_cases hc : o.length < 17592186044416
          · exact hc
          · rw [if_neg hc] at h; cases h
        rw [if_pos hlen] at h
        have h' := Aside0.mk h
        clear h
        have hi1 : wrap64 (i + 1) = i + 1 := by have := hi.out; unfold wrap64; omega
        go_wp2_with (first | (go_at_call 74; refine (intervalmonref15_Read.calls k g L p e x true p' e' w1 _ hr.out.rd hr.out.bel hget'.out).mono ?_; rintro e w5 ⟨rfl, hI5, hB5, hK5⟩; have hr5 := Aside0.mk (hr.out.read hI5 hB5 hK5); clear hI5 hB5 hK5) | ((with_reducible refine gate_builtin (b := .append) (xs := #[.tmp 55, .tmp 57]) rfl ?_); at_builtin; refine Kd.R_append (Kd.int .i64) (w0 := w1) w1.heap.size rfl (.tmp 55) (.tmp 57) 22 3 (.int .i64 0) 8 rfl Tryd.underlying22 info3 rfl (by decide) (by omega) u7 o (wrap64 (a + wrap64 (b + x))) [.int .i64 (wrap64 (a + wrap64 (b + x)))] (fun k => k ≠ g) (fun _ => False) rfl rfl rfl (fun _ hk => hk.elim) ?aF hr5.out.own hr5.out.bel hr5.out.bel.size (by omega) ?_; (case aF => intro k_ hk; have h1 := hr5.out.rd.lt; omega); intro v7 w7 ho7 hb7 hg7 hat7; have hr7 := Aside0.mk (hr5.out.app ho7 hb7 hg7); clear ho7 hb7 hg7 hat7))
        go_roundg m
        case measure => omega
        case rel => exact ⟨p', e', _, _, i + 1, _, by first | rfl | simp [*], rfl, rfl, hr7, ⟨by have := hi.out; omega⟩, h'⟩
end Go.Proofs.YtblbieenfghbdaaDoor.D
