/- The call of intervalmonref15.Decode comes to what intervalmonref15_Decode.f gives, the claims in new memory, whenever that function gives a result. -/
import Derived.Test.YtblbieenfghbdaaDoorKd
import Derived.Test.YtblbieenfghbdaaDoorExE0
import Derived.Test.YtblbieenfghbdaaDoorExD0
import Derived.Deep.RegionHeld3
import Derived.BigQuiet
namespace Go.Proofs.YtblbieenfghbdaaDoor.E
open Go.RowKit Go.Proofs.YtblbieenfghbdaaDoor.D Go.Proofs.YtblbieenfghbdaaDoorW.PrintWords Go.Proofs.YtblbieenfghbdaaDoorW.PrintLast Go.Proofs.YtblbieenfghbdaaDoorW.PrintMore
set_option linter.unusedVariables false
set_option linter.unusedSimpArgs false
/-- The claim behind x that four numbers tell, as the reference steps. -/
def nextR (s : Int) (x : S44) (c1 c2 c3 c4 : Int) : S44 :=
  ⟨wrap64 (x.f0 + wrap64 (s + c1)), wrap64 (wrap64 (x.f0 + wrap64 (s + c1)) + wrap64 (wrap64 (x.f1 - x.f0) + c2)), wrap64 (x.f2 + c3), wrap64 (wrap64 (x.f2 + c3) + wrap64 (wrap64 (x.f3 - x.f2) + c4))⟩
/-- The end: the claims if their encoding is what came in. -/
def intervalmonref15_Decode.e (k : Nat) (x0 : List Int) (out : List S44) : Option (List S44 × Int) :=
  (intervalmonref15_Encode.f k out).bind fun t => if t.2 = 0 then (intervalmonref01_SameBytes.f k t.1 x0).bind fun b => if b = true then some (out, 0) else some ([], 2) else some ([], 2)
/-- The rounds of the reference's Decode. -/
def intervalmonref15_Decode.l0 (k : Nat) (L : List Bool) (x0 : List Int) : Nat → Int → Int → Int → S44 → List S44 → Option (List S44 × Int)
  | 0, p, e, s, x, out => intervalmonref15_Decode.e k x0 out
  | m + 1, p, e, s, x, out => (intervalmonref15_four.f k L p e).bind fun r => if r.2.1 = true then
      (if r.1.length = 4 then
        intervalmonref15_Decode.l0 k L x0 m r.2.2.1 r.2.2.2 (wrap64 (s + rd r.1 0)) (nextR s x (rd r.1 0) (rd r.1 1) (rd r.1 2) (rd r.1 3)) (out ++ [nextR s x (rd r.1 0) (rd r.1 1) (rd r.1 2) (rd r.1 3)]) else none) else some ([], 2)
/-- The claims of an encoding, or the error. -/
def intervalmonref15_Decode.f (k : Nat) (l0 : List Int) : Option (List S44 × Int) :=
  (intervalmonref14_Unpack.f k l0).bind fun L => (intervalmonref15_Read.f k L 0 0).bind fun r => if r.2.1 = true then
    (if r.1 < 0 then some ([], 2) else if 4096 < r.1 then some ([], 2) else intervalmonref15_Decode.l0 k L l0 r.1.toNat r.2.2.1 r.2.2.2 0 ⟨0, 0, 0, 0⟩ []) else some ([], 2)
/-- The reader, the claim and the list of a round. -/
structure QD (w0 W : World) (g o : Nat) (L : List Bool) (p e : Int) (x : S44) (v : Value) (out : List S44) : Prop where
  rd : IsS118 w0 W g L p e
  cl : Clm W o x
  ho : w0.heap.size ≤ o
  own : Kd.R k44 44 W w0.heap.size (fun k => k ≠ g ∧ k ≠ o) v out
  bel : Below w0.heap.size w0 W
theorem ne_types' {W : World} {i j : Nat} {cs cs' : Array Value} {t t' : TypeId} {fr fr' : Nat × Nat} (h : W.heap[i]? = some (.cells cs t fr)) (k : W.heap[j]? = some (.cells cs' t' fr')) (hne : t ≠ t') : i ≠ j := fun e => by
  rw [e, k] at h
  injection h with h
  injection h with _ h
  exact hne h.symm
theorem blk118 {w0 W : World} {g : Nat} {L : List Bool} {p e : Int} (h : IsS118 w0 W g L p e) : ∃ cs, W.heap[g]? = some (.cells cs 118 (0, 0)) := by
  obtain ⟨A, c, hb, -, -⟩ := h
  exact ⟨_, hb⟩
section
variable {w0 W W1 : World} {g o r : Nat} {L : List Bool} {p e p' e' : Int} {x y : S44} {v v1 : Value} {out : List S44}
theorem QD.og (h : QD w0 W g o L p e x v out) : o ≠ g := by
  obtain ⟨cs, hg⟩ := blk118 h.rd
  exact ne_types' h.cl hg (by decide)
theorem QD.read (h : QD w0 W g o L p e x v out) (hs : IsS118 w0 W1 g L p' e') (hb : Below w0.heap.size w0 W1) (hk : KeepBut W W1 g none) : QD w0 W1 g o L p' e' x v out :=
  ⟨hs, hk.blk h.cl h.og (by simp), h.ho, Kd.R_keep h.own hk (fun k hk => hk.1), hb⟩
theorem QD.below (h : QD w0 W g o L p e x v out) (hb : Below W.heap.size W W1) : QD w0 W1 g o L p e x v out :=
  ⟨h.rd.below hb, h.cl.below hb, h.ho, Kd.R_below h.own hb, below_then h.bel h.bel.size hb⟩
theorem QD.drew (h : QD w0 W g o L p e x v out) : QD w0 W.drew g o L p e x v out :=
  ⟨h.rd.drew, blk_drew h.cl, h.ho, Kd.R_drew h.own, below_drew1 h.bel⟩
theorem QD.set (h : QD w0 W g o L p e x v out) {j : Nat} {u : Value} (hy : Clm (W.setCell ⟨o, j, none⟩ u) o y) : QD w0 (W.setCell ⟨o, j, none⟩ u) g o L p e y v out := by
  have hk := (KeepBut.refl W o none).set_ j u
  have hK : Kept W (W.setCell ⟨o, j, none⟩ u) (fun k => k = o) := (Kept.refl W _).of_keep hk (.inl rfl)
  exact ⟨h.rd.kept hK (fun e => h.og e.symm), hy, h.ho, Kd.R_keep h.own hk (fun k hk => hk.2), below_set h.bel h.ho⟩
theorem QD.app {out1 : List S44} (h : QD w0 W g o L p e x v out) (ho : Kd.R k44 44 W1 w0.heap.size (fun k => k ≠ g ∧ k ≠ o) v1 out1) (hb : Below w0.heap.size w0 W1) (hg : W.grownBy W1 v.ownBlock) : QD w0 W1 g o L p e x v1 out1 := by
  have hK : Kept W W1 (fun k => some k = v.ownBlock) := (Kept.refl W _).of_grown hg (fun k e => .inl e.symm)
  have hn : ∀ k, some k = v.ownBlock → k ≠ g ∧ k ≠ o := fun k e => h.own.1 k e.symm
  exact ⟨h.rd.kept hK (fun e => (hn _ e).1 rfl), blk_kept h.cl hK (fun e => (hn _ e).2 rfl), h.ho, ho, hb⟩
end
/-- A row of four numbers of the call's own: its block. -/
structure Row4 (W : World) (q : Nat) (a b c d : Int) (cur : Array Value) : Prop where
  blk : W.heap[q]? = some (.cells cur 3 (0, 0))
  at0 : cur[0]? = some (.int .i64 a)
  at1 : cur[1]? = some (.int .i64 b)
  at2 : cur[2]? = some (.int .i64 c)
  at3 : cur[3]? = some (.int .i64 d)
theorem row4_of {W : World} {base : Nat} {ok : Nat → Prop} {A : Option Addr} {n c : Nat} {xs : List Int} (h : Kd.R (Kd.int .i64) 3 W base ok (.slice A n c) xs) (h4 : xs.length = 4) :
    ∃ q cur, A = some ⟨q, 0, none⟩ ∧ n = 4 ∧ base ≤ q ∧ Row4 W q (rd xs 0) (rd xs 1) (rd xs 2) (rd xs 3) cur := by
  have hr := Kd.R_reads' h
  obtain ⟨hok, inner, hown, hreps⟩ := h
  rcases hown.2 with ⟨e, hn⟩ | ⟨q, cap, cur, e, hb, hblk, _⟩
  · omega
  · injection e with e1 e2 e3
    subst e1
    have get : ∀ j : Nat, j < 4 → cur[j]? = some (.int .i64 (rd xs (j : Int))) := fun j hj => by
      obtain ⟨ad, e, y⟩ := Kd.at_int hr.2.2 (j : Int) (by omega) (by omega)
      injection e with e
      subst e
      rw [Int.toNat_natCast] at y
      have hadd : (⟨q, 0, none⟩ : Addr).add j = ⟨q, j, none⟩ := by unfold Addr.add; simp; exact fun e => e.symm
      rw [hadd] at y
      exact (blk_cell hblk j).symm.trans y
    exact ⟨q, cur, rfl, by omega, hb, ⟨hblk, get 0 (by decide), get 1 (by decide), get 2 (by decide), get 3 (by decide)⟩⟩
theorem Row4.cells {W : World} {q : Nat} {a b c d : Int} {cur : Array Value} (h : Row4 W q a b c d cur) : W.cell? ⟨q, 0, none⟩ = some (.int .i64 a) ∧ W.cell? ⟨q, 1, none⟩ = some (.int .i64 b) ∧ W.cell? ⟨q, 2, none⟩ = some (.int .i64 c) ∧ W.cell? ⟨q, 3, none⟩ = some (.int .i64 d) :=
  ⟨(blk_cell h.blk 0).trans h.at0, (blk_cell h.blk 1).trans h.at1, (blk_cell h.blk 2).trans h.at2, (blk_cell h.blk 3).trans h.at3⟩
theorem Row4.below {W W1 : World} {q : Nat} {a b c d : Int} {cur : Array Value} (h : Row4 W q a b c d cur) (hb : Below W.heap.size W W1) : Row4 W1 q a b c d cur := ⟨(hb.block q (blk_lt h.blk)).trans h.blk, h.at0, h.at1, h.at2, h.at3⟩
theorem Row4.set {W : World} {q o : Nat} {a b c d : Int} {cur : Array Value} (h : Row4 W q a b c d cur) (hne : q ≠ o) (j : Nat) (u : Value) : Row4 (W.setCell ⟨o, j, none⟩ u) q a b c d cur :=
  ⟨((KeepBut.refl W o none).set_ j u).blk h.blk hne (by simp), h.at0, h.at1, h.at2, h.at3⟩
theorem Row4.drew {W : World} {q : Nat} {a b c d : Int} {cur : Array Value} (h : Row4 W q a b c d cur) : Row4 W.drew q a b c d cur := ⟨blk_drew h.blk, h.at0, h.at1, h.at2, h.at3⟩
set_option maxHeartbeats 4000000 in
set_option maxRecDepth 100000 in
theorem intervalmonref15_Decode.calls (k : Nat) (A0 : Option Addr) (c0 : Nat) (l0 : List Int) (r1 : List S44) (r2 : Int) (w : World) (hr0 : Kd.C (Kd.int .u8) w A0 l0.length l0) (hc0 : l0.length ≤ c0) (h : intervalmonref15_Decode.f k l0 = some (r1, r2)) :
    Calls Tryd.prog 45 #[.slice A0 l0.length c0] w fun e w' => ∃ v0_ : Value, e = .returned (.tuple #[v0_, .int .i64 r2]) ∧ Kd.R k44 44 w' w.heap.size (fun _ => True) v0_ r1 ∧ Below w.heap.size w w' := by
  unfold intervalmonref15_Decode.f at h
  obtain ⟨L, hL, h⟩ := Option.bind_eq_some_iff.mp h
  obtain ⟨⟨n, is, m1, m2⟩, hget, h⟩ := Option.bind_eq_some_iff.mp h
  have H := Aside0.mk h
  have HL := Aside0.mk hL
  have HG := Aside0.mk hget
  clear h hL hget
  go_enter Tryd.func45, Tryd.ntmps45
  go_upto_region 2 with (first | (go_at_call 73; refine (intervalmonref14_Unpack.calls k A0 c0 l0 L w hr0 hc0 HL.out).mono ?_; rintro e w1 ⟨v1, rfl, hR1, hB1⟩; obtain ⟨A1, c1, rfl⟩ := Kd.R_slice hR1))
  have hI := Aside0.mk (IsS118.new w1 w1 A1 c1 L 0 0 (Below.refl _ _) (Kd.R_reads' hR1).2.2)
  have hBb := below_alloc (Below.refl w1.heap.size w1) (.cells #[.slice A1 L.length c1, .int .i64 0, .int .i64 0] 118)
  clear hR1
  generalize hg : w1.heap.size = g at hI ⊢
  have hgg := Aside0.mk hg
  clear hg
  generalize w1.alloc (.cells #[.slice A1 L.length c1, .int .i64 0, .int .i64 0] 118) = w2 at hI hBb ⊢
  go_upto_region 3 with (first | (go_at_call 74; refine (intervalmonref15_Read.calls k g L 0 0 n is m1 m2 w1 w2 hI.out hBb HG.out).mono ?_; rintro e w3 ⟨rfl, hI3, hB3, hK3⟩))
  clear hI hBb hK3 HG w2
  have hr0' := Aside0.mk (Kd.C_below hr0 hB1)
  have hw1 := hB1.size
  have h := H.out
  clear H
  try simp only [] at h
  have hI3' := Aside0.mk hI3
  clear hI3
  cases is with
  | false =>
    rw [if_neg (by decide)] at h
    simp only [Option.some.injEq, Prod.mk.injEq] at h
    obtain ⟨rfl, rfl⟩ := h
    go_wp2
    go_ret2
    exact ⟨_, rfl, Kd.R_nil _ _ _ _ (fun _ => True), below_then hB1 hw1 hB3⟩
  | true =>
  rw [if_pos rfl] at h
  by_cases c1 : n < 0
  · rw [if_pos c1] at h
    simp only [Option.some.injEq, Prod.mk.injEq] at h
    obtain ⟨rfl, rfl⟩ := h
    have c1b : decide (n < 0) = true := decide_eq_true c1
    clear c1
    go_wp2
    go_ret2
    exact ⟨_, rfl, Kd.R_nil _ _ _ _ (fun _ => True), below_then hB1 hw1 hB3⟩
  rw [if_neg c1] at h
  have c1b : decide (n < 0) = false := decide_eq_false c1
  by_cases c2 : 4096 < n
  · rw [if_pos c2] at h
    simp only [Option.some.injEq, Prod.mk.injEq] at h
    obtain ⟨rfl, rfl⟩ := h
    have c2b : decide (n > 4096) = true := decide_eq_true c2
    clear c1 c2
    go_wp2
    go_ret2
    exact ⟨_, rfl, Kd.R_nil _ _ _ _ (fun _ => True), below_then hB1 hw1 hB3⟩
  rw [if_neg c2] at h
  have c2b : decide (n > 4096) = false := decide_eq_false c2
  have HL := Aside0.mk h
  clear h
  have hn : (0 : Int) ≤ n := by omega
  have hn2 : n ≤ 4096 := by omega
  clear c1 c2
  go_upto_region 7 with (fail)
  have hQ0 : QD w1 (w3.alloc (.cells #[.int .i64 0, .int .i64 0, .int .i64 0, .int .i64 0] 44)) g w3.heap.size L m1 m2 ⟨0, 0, 0, 0⟩ (.slice none 0 0) [] :=
    ⟨hI3'.out.alloc _, (show _ = _ by simpa using heap_alloc_new w3 (.cells #[.int .i64 0, .int .i64 0, .int .i64 0, .int .i64 0] 44)), hB3.size, Kd.R_nil _ _ _ _ _, below_alloc hB3 _⟩
  generalize w3.alloc (.cells #[.int .i64 0, .int .i64 0, .int .i64 0, .int .i64 0] 44) = w4 at hQ0 ⊢
  generalize w3.heap.size = o at hQ0 ⊢
  have hQ := Aside0.mk hQ0
  clear hQ0 hI3' hB3 w3
  go_wp2
  go_loopg [7, 9, 10] n.toNat (fun kq v7 v9 v10 w' => ∃ (p e s i : Int) (x : S44) (out : List S44), v10 = .int .i64 i ∧ v9 = .int .i64 s ∧ Aside0 (QD w1 w' g o L p e x v7 out) ∧ Aside0 (0 ≤ i ∧ i + (kq : Int) = n ∧ (out.length : Int) = i) ∧ Aside0 (intervalmonref15_Decode.l0 k L l0 kq p e s x out = some (r1, r2)))
  case atStart => exact ⟨m1, m2, 0, 0, _, [], rfl, rfl, hQ, ⟨by simp; omega⟩, HL⟩
  case round =>
    clear hQ HL
    obtain ⟨p, e, s, i, x, o_, rfl, rfl, hr, hi, hl0⟩ := hrel
    cases gk with
    | zero =>
      have cb : decide (i < n) = false := decide_eq_false (by have := hi.out; omega)
      have h := hl0.out
      rw [intervalmonref15_Decode.l0, intervalmonref15_Decode.e] at h
      obtain ⟨⟨t1, t2⟩, ht, h⟩ := Option.bind_eq_some_iff.mp h
      try simp only [] at h
      have ht' := Aside0.mk ht
      clear ht hl0
      have hown := hr.out.own
      obtain ⟨A7, c7, rfl⟩ := Kd.R_slice hown
      have hrd := Aside0.mk (Kd.R_reads' hown)
      clear hown
      by_cases c3 : t2 = 0
      · rw [if_pos c3] at h
        obtain ⟨bb, hb, h⟩ := Option.bind_eq_some_iff.mp h
        subst c3
        have hb' := Aside0.mk hb
        clear hb
        cases bb with
        | true =>
          rw [if_pos rfl] at h
          simp only [Option.some.injEq, Prod.mk.injEq] at h
          obtain ⟨rfl, rfl⟩ := h
          go_wp2_with (first | (go_at_call 41; refine (intervalmonref15_Encode.calls k A7 c7 o_ t1 0 _ hrd.out.2.2 hrd.out.2.1 ht'.out).mono ?_; rintro e w5 ⟨v5, rfl, hR5, hB5⟩; obtain ⟨A5, c5, rfl⟩ := Kd.R_slice hR5; have hrd5 := Aside0.mk (Kd.R_reads' hR5); have hr05 := Aside0.mk (Kd.C_below (Kd.C_below hr0'.out hr.out.bel) hB5); clear hR5) | (go_at_call 18; refine (intervalmonref01_SameBytes.calls k A5 c5 t1 A0 c0 l0 true _ hrd5.out.2.2 hrd5.out.2.1 hr05.out hc0 hb'.out).mono ?_; rintro e w6 ⟨rfl, hd6⟩))
          go_ret2
          exact ⟨_, rfl, Kd.R_mono (Kd.R_lower (Kd.R_below (Kd.R_below hr.out.own hB5) hd6.below) hw1) (fun _ _ => trivial), below_then hB1 hw1 (below_then hr.out.bel hr.out.bel.size (below_then hB5 hB5.size hd6.below))⟩
        | false =>
          rw [if_neg (by decide)] at h
          simp only [Option.some.injEq, Prod.mk.injEq] at h
          obtain ⟨rfl, rfl⟩ := h
          go_wp2_with (first | (go_at_call 41; refine (intervalmonref15_Encode.calls k A7 c7 o_ t1 0 _ hrd.out.2.2 hrd.out.2.1 ht'.out).mono ?_; rintro e w5 ⟨v5, rfl, hR5, hB5⟩; obtain ⟨A5, c5, rfl⟩ := Kd.R_slice hR5; have hrd5 := Aside0.mk (Kd.R_reads' hR5); have hr05 := Aside0.mk (Kd.C_below (Kd.C_below hr0'.out hr.out.bel) hB5); clear hR5) | (go_at_call 18; refine (intervalmonref01_SameBytes.calls k A5 c5 t1 A0 c0 l0 false _ hrd5.out.2.2 hrd5.out.2.1 hr05.out hc0 hb'.out).mono ?_; rintro e w6 ⟨rfl, hd6⟩))
          go_ret2
          exact ⟨_, rfl, Kd.R_nil _ _ _ _ (fun _ => True), below_then hB1 hw1 (below_then hr.out.bel hr.out.bel.size (below_then hB5 hB5.size hd6.below))⟩
      · rw [if_neg c3] at h
        simp only [Option.some.injEq, Prod.mk.injEq] at h
        obtain ⟨rfl, rfl⟩ := h
        have c3a : (t2 == 0) = false := by simp [c3]
        have c3b : (t2 != 0) = true := by simp [c3]
        clear c3
        go_wp2_with (first | (go_at_call 41; refine (intervalmonref15_Encode.calls k A7 c7 o_ t1 t2 _ hrd.out.2.2 hrd.out.2.1 ht'.out).mono ?_; rintro e w5 ⟨v5, rfl, hR5, hB5⟩; obtain ⟨A5, c5, rfl⟩ := Kd.R_slice hR5; clear hR5))
        go_ret2
        exact ⟨_, rfl, Kd.R_nil _ _ _ _ (fun _ => True), below_then hB1 hw1 (below_then hr.out.bel hr.out.bel.size hB5)⟩
    | succ m =>
      have cb : decide (i < n) = true := decide_eq_true (by have := hi.out; omega)
      have h := hl0.out
      rw [intervalmonref15_Decode.l0] at h
      obtain ⟨⟨xs, is', p', e'⟩, hget, h⟩ := Option.bind_eq_some_iff.mp h
      have hget' := Aside0.mk hget
      clear hget hl0
      cases is' with
      | false =>
        rw [if_neg (by simp)] at h
        simp only [Option.some.injEq, Prod.mk.injEq] at h
        obtain ⟨rfl, rfl⟩ := h
        go_wp2_with (first | (go_at_call 84; refine (intervalmonref15_four.calls k g L p e xs false p' e' w1 _ hr.out.rd hr.out.bel hget'.out).mono ?_; rintro e w5 ⟨v5, rfl, hR5, hI5, hB5, hK5⟩))
        go_ret2
        exact ⟨_, rfl, Kd.R_nil _ _ _ _ (fun _ => True), below_then hB1 hw1 hB5⟩
      | true =>
        rw [if_pos rfl] at h
        have hlen : xs.length = 4 := by
          by_cases hc : xs.length = 4
          · exact hc
          · rw [if_neg hc] at h; cases h
        rw [if_pos hlen] at h
        have h' := Aside0.mk h
        clear h
        have hi1 : wrap64 (i + 1) = i + 1 := by have := hi.out; unfold wrap64; omega
        go_upto_region 12 with (first | (go_at_call 84; refine (intervalmonref15_four.calls k g L p e xs true p' e' w1 _ hr.out.rd hr.out.bel hget'.out).mono ?_; rintro e w5 ⟨v5, rfl, hR5, hI5, hB5, hK5⟩; have hr5 := Aside0.mk (hr.out.read hI5 hB5 hK5); obtain ⟨A5, c5, rfl⟩ := Kd.R_slice hR5; obtain ⟨q, cur, rfl, hn4, hq, hrow⟩ := row4_of hR5 hlen; clear hI5 hB5 hK5 hR5))
        have hqo : q ≠ o := by have := blk_lt hr.out.cl; omega
        have hrow' := Aside0.mk hrow
        obtain ⟨q0_, q1_, q2_, q3_⟩ := hrow.cells
        obtain ⟨x0_, x1_, x2_, x3_⟩ := hr5.out.cl.cells
        generalize rd xs 0 = y1 at q0_ hrow' h'
        generalize rd xs 1 = y2 at q1_ hrow' h'
        generalize rd xs 2 = y3 at q2_ hrow' h'
        generalize rd xs 3 = y4 at q3_ hrow' h'
        clear hrow hget' hr hq
        go_upto_region 15 with (fail)
        go_quiet (fail)
        have hb6 : Below w5.heap.size w5 (w5.drewN nq) := pw_below_drewN (Below.refl _ _) _
        replace hr5 := Aside0.mk (hr5.out.below hb6)
        replace hrow' := Aside0.mk (hrow'.out.below hb6)
        clear hb6 q0_ q1_ q2_ q3_ x0_ x1_ x2_ x3_
        generalize w5.drewN nq = w6 at hr5 hrow' ⊢
        obtain ⟨q0_, q1_, q2_, q3_⟩ := hrow'.out.cells
        obtain ⟨x0_, x1_, x2_, x3_⟩ := hr5.out.cl.cells
        go_upto_region 16 with (fail)
        go_quiet (fail)
        have hb7 : Below w6.heap.size w6 (w6.drewN nq) := pw_below_drewN (Below.refl _ _) _
        replace hr5 := Aside0.mk (hr5.out.below hb7)
        replace hrow' := Aside0.mk (hrow'.out.below hb7)
        clear hb7 q0_ q1_ q2_ q3_ x0_ x1_ x2_ x3_
        generalize w6.drewN nq = w7 at hr5 hrow' ⊢
        obtain ⟨x0_, x1_, x2_, x3_⟩ := hr5.out.cl.cells
        have hof := blk_frozen hr5.out.cl
        obtain ⟨st, hst⟩ : ∃ st, wrap64 (s + y1) = st := ⟨_, rfl⟩
        rw [hst]
        replace hst := Aside0.mk hst
        go_upto_region 18 with (fail)
        obtain ⟨F, hF⟩ : ∃ F, wrap64 (x.f0 + st) = F := ⟨_, rfl⟩
        rw [hF]
        replace hF := Aside0.mk hF
        have hD8 := hr5.out.set (hr5.out.cl.set_ F).1
        have hrow8 := hrow'.out.set hqo 0 (.int .i64 F)
        generalize w7.setCell ⟨o, 0, none⟩ (.int .i64 F) = w8 at hD8 hrow8 ⊢
        clear hr5 hrow' x0_ x1_ x2_ x3_ hof
        replace hD8 := Aside0.mk hD8
        replace hrow8 := Aside0.mk hrow8
        obtain ⟨x0_, x1_, x2_, x3_⟩ := hD8.out.cl.cells
        try simp only [] at x0_ x1_ x2_ x3_
        have hof := blk_frozen hD8.out.cl
        go_upto_region 19 with (fail)
        obtain ⟨T, hT⟩ : ∃ T, wrap64 (F + wrap64 (wrap64 (x.f1 - x.f0) + y2)) = T := ⟨_, rfl⟩
        rw [hT]
        replace hT := Aside0.mk hT
        have hD9 := hD8.out.set (hD8.out.cl.set_ T).2.1
        have hrow9 := hrow8.out.set hqo 1 (.int .i64 T)
        generalize w8.setCell ⟨o, 1, none⟩ (.int .i64 T) = w9 at hD9 hrow9 ⊢
        clear hD8 hrow8 x0_ x1_ x2_ x3_ hof
        have hD9d := Aside0.mk hD9.drew
        have hrow9d := Aside0.mk hrow9.drew
        clear hD9 hrow9
        obtain ⟨q0_, q1_, q2_, q3_⟩ := hrow9d.out.cells
        obtain ⟨x0_, x1_, x2_, x3_⟩ := hD9d.out.cl.cells
        try simp only [] at x0_ x1_ x2_ x3_
        have hof2 : w9.drew.frozen? ⟨o, 2, none⟩ = false := blk_frozen hD9d.out.cl 2
        refine wp_region_still_tail 7 (by kernel_rfl) (by kernel_rfl) ?_
        simp only [List.take_succ_cons, List.take_zero, List.drop_succ_cons, List.drop_zero]
        repeat still_step
        try refine wpStill_nil ?_
        change wpList _ _ _ _ _ w9.drew
        generalize w9.drew = w10 at hD9d hrow9d hof2 x0_ x1_ x2_ x3_ ⊢
        clear q0_ q1_ q2_ q3_ hrow9d
        go_upto_region 20 with (fail)
        obtain ⟨Lo, hLo⟩ : ∃ Lo, wrap64 (x.f2 + y3) = Lo := ⟨_, rfl⟩
        rw [hLo]
        replace hLo := Aside0.mk hLo
        have hD11 := hD9d.out.set (hD9d.out.cl.set_ Lo).2.2.1
        generalize w10.setCell ⟨o, 2, none⟩ (.int .i64 Lo) = w11 at hD11 ⊢
        clear hD9d x0_ x1_ x2_ x3_ hof2 w10
        replace hD11 := Aside0.mk hD11
        obtain ⟨x0_, x1_, x2_, x3_⟩ := hD11.out.cl.cells
        try simp only [] at x0_ x1_ x2_ x3_
        have hof := blk_frozen hD11.out.cl
        go_upto_region 21 with (fail)
        obtain ⟨Hi, hHi⟩ : ∃ Hi, wrap64 (Lo + wrap64 (wrap64 (x.f3 - x.f2) + y4)) = Hi := ⟨_, rfl⟩
        rw [hHi]
        replace hHi := Aside0.mk hHi
        have hD12 := hD11.out.set (hD11.out.cl.set_ Hi).2.2.2
        generalize w11.setCell ⟨o, 3, none⟩ (.int .i64 Hi) = w12 at hD12 ⊢
        clear hD11 x0_ x1_ x2_ x3_ hof w11
        replace hD12 := Aside0.mk hD12
        have hnr : nextR s x y1 y2 y3 y4 = ⟨F, T, Lo, Hi⟩ := by
          simp only [nextR]
          rw [hst.out, hF.out, hT.out, hLo.out, hHi.out]
        have h := h'.out
        try simp only [] at h
        rw [hnr, hst.out] at h
        replace h' := Aside0.mk h
        clear h hnr
        obtain ⟨x0_, x1_, x2_, x3_⟩ := hD12.out.cl.cells
        try simp only [] at x0_ x1_ x2_ x3_
        go_wp2_with (first | ((with_reducible refine gate_builtin (b := .append) (xs := #[.tmp 94, .tmp 96]) rfl ?_); at_builtin; refine Kd.R_append k44 (w0 := w1) w1.heap.size rfl (.tmp 94) (.tmp 96) 45 44 (.agg #[.int .i64 0, .int .i64 0, .int .i64 0, .int .i64 0]) 32 rfl Tryd.underlying45 infoC' rfl (by decide) (by omega) u7 o_ ⟨F, T, Lo, Hi⟩ [.int .i64 F, .int .i64 T, .int .i64 Lo, .int .i64 Hi] (fun k => k ≠ g ∧ k ≠ o) (fun _ => False) rfl rfl (k44_mkM _ _ _ ⟨F, T, Lo, Hi⟩) (fun _ hk => hk.elim) ?aF hD12.out.own hD12.out.bel hD12.out.bel.size (by have := hi.out; omega) ?_; (case aF => intro k_ hk; have h1 := hD12.out.rd.lt; have h2 := blk_lt hD12.out.cl; omega); intro v7 w13 ho7 hb7 hg7 hat7; have hD16 := Aside0.mk (hD12.out.app ho7 hb7 hg7); clear ho7 hb7 hg7 hat7))
        go_roundg m
        case measure => omega
        case rel => exact ⟨p', e', st, i + 1, _, _, by first | rfl | simp [*], rfl, hD16, ⟨by have := hi.out; simp; omega⟩, h'⟩
end Go.Proofs.YtblbieenfghbdaaDoor.E
