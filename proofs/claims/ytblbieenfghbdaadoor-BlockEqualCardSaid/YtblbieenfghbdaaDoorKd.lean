/- The call of codec.Decode comes to what codec_Decode.f gives, the claims in new memory, whenever that function gives a result. -/
import Derived.Test.YtblbieenfghbdaaDoorKh
import Derived.Deep.RegionHeld3
namespace Go.Proofs.YtblbieenfghbdaaDoor.E
open Go.RowKit Go.Proofs.YtblbieenfghbdaaDoor.D Go.Proofs.YtblbieenfghbdaaDoorW.PrintWords Go.Proofs.YtblbieenfghbdaaDoorW.PrintLast Go.Proofs.YtblbieenfghbdaaDoorW.PrintMore
set_option linter.unusedVariables false
set_option linter.unusedSimpArgs false
theorem infoC' : (Tryd.prog.info? 44).map (fun i => (i.zero, i.size, i.bytes)) = some (some (.agg #[(.int .i64 0), (.int .i64 0), (.int .i64 0), (.int .i64 0)]), 4, 32) := by kernel_rfl
/-- The claim behind x that four numbers tell. -/
def nextC (a b : Int) (x : S44) (c1 c2 c3 c4 : Int) : S44 :=
  ⟨wrap64 (a + wrap64 (b + c1)), wrap64 (wrap64 (wrap64 (a + wrap64 (b + c1)) + wrap64 (x.f1 - x.f0)) + c2), wrap64 (x.f2 + c3), wrap64 (wrap64 (wrap64 (x.f2 + c3) + wrap64 (x.f3 - x.f2)) + c4)⟩
/-- The end: the claims, if all was read without an error. -/
def codec_Decode.e (k : Nat) (f0 : List Int) (f1 f2 : Int) (bad : Bool) (out : List S44) : Option (List S44 × Int) :=
  if bad = true then some ([], 2) else (bits_Reader_End.f k f0 f1 f2).bind fun e => if e.1 = 0 then some (out, 0) else some ([], 2)
/-- The rounds of Decode. -/
def codec_Decode.l0 (k : Nat) (f0 : List Int) : Nat → Int → Int → Bool → Int → Int → S44 → List S44 → Option (List S44 × Int)
  | 0, f1, f2, bad, _, _, _, out => codec_Decode.e k f0 f1 f2 bad out
  | m + 1, f1, f2, bad, a, b, x, out => (codec_source_get.f k f0 f1 f2 bad).bind fun r1 => (codec_source_get.f k f0 r1.2.1 r1.2.2.1 r1.2.2.2).bind fun r2 =>
      (codec_source_get.f k f0 r2.2.1 r2.2.2.1 r2.2.2.2).bind fun r3 => (codec_source_get.f k f0 r3.2.1 r3.2.2.1 r3.2.2.2).bind fun r4 =>
        if encB (nextC a b x r1.1 r2.1 r3.1 r4.1) = true then
          codec_Decode.l0 k f0 m r4.2.1 r4.2.2.1 r4.2.2.2 (wrap64 (a + wrap64 (b + r1.1))) (wrap64 (b + r1.1)) (nextC a b x r1.1 r2.1 r3.1 r4.1) (out ++ [nextC a b x r1.1 r2.1 r3.1 r4.1])
        else some ([], 2)
/-- The claims of an encoding, or the error. -/
def codec_Decode.f (k : Nat) (l0 : List Int) : Option ((List (S44)) × Int) :=
  if l0.length ≤ 140737488355328 then
    (codec_source_get.f k l0 0 0 false).bind fun r =>
      if r.1 < 0 then some ([], 2) else if 4096 < r.1 then some ([], 2) else codec_Decode.l0 k l0 r.1.toNat r.2.1 r.2.2.1 r.2.2.2 0 0 ⟨0, 0, 0, 0⟩ []
  else none
/-- The source, the trend, the claim and the list of a round. -/
structure DD (w0 W : World) (g q p o : Nat) (f0 : List Int) (f1 f2 : Int) (bad : Bool) (a b : Int) (x : S44) (v : Value) (out : List S44) : Prop where
  src : SrcAt w0 W g q f0 f1 f2 bad
  tr : IsS104 w0 W p a b
  cl : Clm W o x
  ho : w0.heap.size ≤ o
  own : Kd.R k44 44 W w0.heap.size (fun k => k ≠ g ∧ k ≠ q ∧ k ≠ p ∧ k ≠ o) v out
  bel : Below w0.heap.size w0 W
theorem ne_types {W : World} {i j : Nat} {cs cs' : Array Value} {t t' : TypeId} {fr fr' : Nat × Nat} (h : W.heap[i]? = some (.cells cs t fr)) (k : W.heap[j]? = some (.cells cs' t' fr')) (hne : t ≠ t') : i ≠ j := fun e => by
  rw [e, k] at h
  injection h with h
  injection h with _ h
  exact hne h.symm
theorem srcBlk {w0 W : World} {g q : Nat} {f0 : List Int} {f1 f2 : Int} {bad : Bool} (h : SrcAt w0 W g q f0 f1 f2 bad) : ∃ cs, W.heap[g]? = some (.cells cs 154 (0, 0)) := by
  obtain ⟨A, c, hb, -, -⟩ := h.rd
  exact ⟨_, hb⟩
section
variable {w0 W W1 : World} {g q p o r : Nat} {f0 : List Int} {f1 f2 f1' f2' : Int} {bad bad' : Bool} {a b a' b' : Int} {x y : S44} {v v1 : Value} {out : List S44}
theorem DD.op (h : DD w0 W g q p o f0 f1 f2 bad a b x v out) : o ≠ g ∧ o ≠ q ∧ o ≠ p ∧ p ≠ g ∧ p ≠ q := by
  obtain ⟨cs, hg⟩ := srcBlk h.src
  exact ⟨ne_types h.cl hg (by decide), ne_types h.cl h.src.blk (by decide), ne_types h.cl h.tr.1 (by decide), ne_types h.tr.1 hg (by decide), ne_types h.tr.1 h.src.blk (by decide)⟩
theorem Clm.not_src (h : DD w0 W g q p o f0 f1 f2 bad a b x v out) (hy : Clm W r y) : r ≠ g ∧ r ≠ q ∧ r ≠ p := by
  obtain ⟨cs, hg⟩ := srcBlk h.src
  exact ⟨ne_types hy hg (by decide), ne_types hy h.src.blk (by decide), ne_types hy h.tr.1 (by decide)⟩
theorem DD.get (h : DD w0 W g q p o f0 f1 f2 bad a b x v out) (hs : SrcAt w0 W1 g q f0 f1' f2' bad') (hb : Below w0.heap.size w0 W1) (hk : Kept W W1 (fun k => k = g ∨ k = q)) : DD w0 W1 g q p o f0 f1' f2' bad' a b x v out :=
  ⟨hs, h.tr.kept hk (fun e => e.elim h.op.2.2.2.1 h.op.2.2.2.2), blk_kept h.cl hk (fun e => e.elim h.op.1 h.op.2.1), h.ho, Kd.R_kept h.own hk (fun k hk e => e.elim hk.1 hk.2.1), hb⟩
theorem DD.back (h : DD w0 W g q p o f0 f1 f2 bad a b x v out) (hs : IsS104 w0 W1 p a' b') (hb : Below w0.heap.size w0 W1) (hk : KeepBut W W1 p none) : DD w0 W1 g q p o f0 f1 f2 bad a' b' x v out := by
  have hK : Kept W W1 (fun k => k = p) := (Kept.refl W _).of_keep hk (.inl rfl)
  exact ⟨h.src.kept hK (fun e => h.op.2.2.2.1 e.symm) (fun e => h.op.2.2.2.2 e.symm), hs, blk_kept h.cl hK h.op.2.2.1, h.ho, Kd.R_keep h.own hk (fun k hk => hk.2.2.1), hb⟩
theorem DD.below (h : DD w0 W g q p o f0 f1 f2 bad a b x v out) (hb : Below W.heap.size W W1) : DD w0 W1 g q p o f0 f1 f2 bad a b x v out := by
  have hK := Kept.of_below hb (fun _ => False)
  exact ⟨h.src.kept hK (fun e => e) (fun e => e), h.tr.kept hK (fun e => e), h.cl.below hb, h.ho, Kd.R_below h.own hb, below_then h.bel h.bel.size hb⟩
theorem DD.drew (h : DD w0 W g q p o f0 f1 f2 bad a b x v out) : DD w0 W.drew g q p o f0 f1 f2 bad a b x v out :=
  ⟨⟨h.src.rd.drew, blk_drew h.src.blk, h.src.hq⟩, ⟨blk_drew h.tr.1, h.tr.2⟩, blk_drew h.cl, h.ho, Kd.R_drew h.own, below_drew1 h.bel⟩
theorem DD.set (h : DD w0 W g q p o f0 f1 f2 bad a b x v out) {j : Nat} {u : Value} (hy : Clm (W.setCell ⟨o, j, none⟩ u) o y) : DD w0 (W.setCell ⟨o, j, none⟩ u) g q p o f0 f1 f2 bad a b y v out := by
  have hk := (KeepBut.refl W o none).set_ j u
  have hK : Kept W (W.setCell ⟨o, j, none⟩ u) (fun k => k = o) := (Kept.refl W _).of_keep hk (.inl rfl)
  exact ⟨h.src.kept hK (fun e => h.op.1 e.symm) (fun e => h.op.2.1 e.symm), h.tr.kept hK (fun e => h.op.2.2.1 e.symm), hy, h.ho, Kd.R_keep h.own hk (fun k hk => hk.2.2.2), below_set h.bel h.ho⟩
theorem Clm.set_ {W : World} {o : Nat} {x : S44} (h : Clm W o x) (z : Int) : Clm (W.setCell ⟨o, 0, none⟩ (.int .i64 z)) o ⟨z, x.f1, x.f2, x.f3⟩ ∧ Clm (W.setCell ⟨o, 1, none⟩ (.int .i64 z)) o ⟨x.f0, z, x.f2, x.f3⟩ ∧
    Clm (W.setCell ⟨o, 2, none⟩ (.int .i64 z)) o ⟨x.f0, x.f1, z, x.f3⟩ ∧ Clm (W.setCell ⟨o, 3, none⟩ (.int .i64 z)) o ⟨x.f0, x.f1, x.f2, z⟩ :=
  ⟨(show _ = _ by simpa using blk_set h 0 (.int .i64 z)), (show _ = _ by simpa using blk_set h 1 (.int .i64 z)), (show _ = _ by simpa using blk_set h 2 (.int .i64 z)), (show _ = _ by simpa using blk_set h 3 (.int .i64 z))⟩
theorem DD.app {out1 : List S44} (h : DD w0 W g q p o f0 f1 f2 bad a b x v out) (ho : Kd.R k44 44 W1 w0.heap.size (fun k => k ≠ g ∧ k ≠ q ∧ k ≠ p ∧ k ≠ o) v1 out1) (hb : Below w0.heap.size w0 W1) (hg : W.grownBy W1 v.ownBlock) : DD w0 W1 g q p o f0 f1 f2 bad a b x v1 out1 := by
  have hK : Kept W W1 (fun k => some k = v.ownBlock) := (Kept.refl W _).of_grown hg (fun k e => .inl e.symm)
  have hn : ∀ k, some k = v.ownBlock → k ≠ g ∧ k ≠ q ∧ k ≠ p ∧ k ≠ o := fun k e => h.own.1 k e.symm
  exact ⟨h.src.kept hK (fun e => (hn _ e).1 rfl) (fun e => (hn _ e).2.1 rfl), h.tr.kept hK (fun e => (hn _ e).2.2.1 rfl), blk_kept h.cl hK (fun e => (hn _ e).2.2.2 rfl), h.ho, ho, hb⟩
end
set_option maxHeartbeats 4000000 in
set_option maxRecDepth 100000 in
theorem codec_Decode.calls (k : Nat) (A0 : Option Addr) (c0 : Nat) (l0 : List Int) (r1 : List (S44)) (r2 : Int) (w : World) (hr0 : Kd.C (Kd.int .u8) w A0 l0.length l0) (hc0 : l0.length ≤ c0) (hG : Glob w) (h : codec_Decode.f k l0 = some (r1, r2)) :
    Calls Tryd.prog 44 #[.slice A0 l0.length c0] w fun e w' => ∃ v0_ : Value, e = .returned (.tuple #[v0_, .int .i64 r2]) ∧ Kd.R k44 44 w' w.heap.size (fun _ => True) v0_ r1 ∧ Below w.heap.size w w' := by
  unfold codec_Decode.f at h
  have hl : l0.length ≤ 140737488355328 := by
    by_cases hl : l0.length ≤ 140737488355328
    · exact hl
    · rw [if_neg hl] at h; cases h
  rw [if_pos hl] at h
  obtain ⟨⟨n, m1, m2, mb⟩, hget, h⟩ := Option.bind_eq_some_iff.mp h
  have H := Aside0.mk h
  have HGET := Aside0.mk hget
  clear h hget
  go_enter Tryd.func44, Tryd.ntmps44
  go_wp2_with (first | (go_at_call 69; refine (bits_Read.calls A0 c0 l0 w hr0 hl).mono ?_; rintro e w1 ⟨w0, g, rfl, hI, hw0, hw1⟩) | (go_at_call 70; fail))
  have hS : SrcAt w0 (w1.alloc (.cells #[.pointer (some ⟨g, 0, none⟩), .bool false] 113)) g w1.heap.size l0 0 0 false := ⟨hI.alloc _, by simpa using heap_alloc_new w1 _, hw1.size⟩
  have hB2 : Below w0.heap.size w0 (w1.alloc (.cells #[.pointer (some ⟨g, 0, none⟩), .bool false] 113)) := below_alloc hw1 _
  generalize hq : w1.heap.size = q at hS ⊢
  clear hq
  generalize w1.alloc (.cells #[.pointer (some ⟨g, 0, none⟩), .bool false] 113) = w2 at hS hB2 ⊢
  clear hI hw1
  have hG0 : Glob w0 := hG.below hw0
  refine (codec_source_get.calls k g q l0 0 0 false n m1 m2 mb w0 w2 hS hB2 hG0 HGET.out).mono ?_
  rintro e w3 ⟨rfl, hS3, hB3, hK3⟩
  clear hS hB2 hK3 HGET hG
  have h := H.out
  clear H
  try simp only [] at h
  by_cases c1 : n < 0
  · rw [if_pos c1] at h
    simp only [Option.some.injEq, Prod.mk.injEq] at h
    obtain ⟨rfl, rfl⟩ := h
    have c1b : decide (n < 0) = true := decide_eq_true c1
    clear c1
    go_wp2
    go_ret2
    exact ⟨_, rfl, Kd.R_nil _ _ _ _ (fun _ => True), below_then hw0 hw0.size hB3⟩
  rw [if_neg c1] at h
  have c1b : decide (n < 0) = false := decide_eq_false c1
  by_cases c2 : 4096 < n
  · rw [if_pos c2] at h
    simp only [Option.some.injEq, Prod.mk.injEq] at h
    obtain ⟨rfl, rfl⟩ := h
    have c2b : decide (n > 4096) = true := decide_eq_true c2
    clear c1 c2
    go_wp2
    go_ret2
    exact ⟨_, rfl, Kd.R_nil _ _ _ _ (fun _ => True), below_then hw0 hw0.size hB3⟩
  rw [if_neg c2] at h
  have c2b : decide (n > 4096) = false := decide_eq_false c2
  have HL := Aside0.mk h
  have hn : (0 : Int) ≤ n := by omega
  have hn2 : n ≤ 4096 := by omega
  clear c1 c2 h
  go_upto_region 7 with (fail)
  have hD0 : DD w0 ((w3.alloc (.cells #[.int .i64 0, .int .i64 0] 104)).alloc (.cells #[.int .i64 0, .int .i64 0, .int .i64 0, .int .i64 0] 44)) g q w3.heap.size (w3.heap.size + 1) l0 m1 m2 mb 0 0 ⟨0, 0, 0, 0⟩ (.slice none 0 0) [] := by
    have a1 : IsS104 w0 (w3.alloc (.cells #[.int .i64 0, .int .i64 0] 104)) w3.heap.size 0 0 := ⟨by simpa using heap_alloc_new w3 _, hB3.size⟩
    have hb2 : Below (w3.alloc (.cells #[.int .i64 0, .int .i64 0] 104)).heap.size (w3.alloc (.cells #[.int .i64 0, .int .i64 0] 104)) ((w3.alloc (.cells #[.int .i64 0, .int .i64 0] 104)).alloc (.cells #[.int .i64 0, .int .i64 0, .int .i64 0, .int .i64 0] 44)) := below_alloc (Below.refl _ _) _
    refine ⟨⟨(hS3.rd.alloc _).alloc _, blk_alloc (blk_alloc hS3.blk _) _, hS3.hq⟩, ⟨blk_alloc a1.1 _, a1.2⟩, (show _ = _ by simpa using heap_alloc_new (w3.alloc (.cells #[.int .i64 0, .int .i64 0] 104)) (.cells #[.int .i64 0, .int .i64 0, .int .i64 0, .int .i64 0] 44)), by have := hB3.size; omega, Kd.R_nil _ _ _ _ _, below_alloc (below_alloc hB3 _) _⟩
  generalize (w3.alloc (.cells #[.int .i64 0, .int .i64 0] 104)).alloc (.cells #[.int .i64 0, .int .i64 0, .int .i64 0, .int .i64 0] 44) = w4 at hD0 ⊢
  generalize w3.heap.size + 1 = o at hD0 ⊢
  generalize w3.heap.size = p at hD0 ⊢
  have hD := Aside0.mk hD0
  clear hD0 hS3 hB3 w3 w2 w1
  go_wp2
  go_loopg [8, 23] n.toNat (fun kq v8 v23 w' => ∃ (f1 f2 : Int) (bad : Bool) (a b i : Int) (x : S44) (out : List S44), v23 = .int .i64 i ∧ Aside0 (DD w0 w' g q p o l0 f1 f2 bad a b x v8 out) ∧ Aside0 (0 ≤ i ∧ i + (kq : Int) = n ∧ (out.length : Int) = i) ∧ Aside0 (codec_Decode.l0 k l0 kq f1 f2 bad a b x out = some (r1, r2)))
  case atStart => exact ⟨m1, m2, mb, 0, 0, 0, _, [], rfl, hD, ⟨by simp; omega⟩, HL⟩
  case round =>
    clear hD HL
    obtain ⟨f1, f2, bad, a, b, i, x, out, rfl, hr, hi, hl0⟩ := hrel
    cases gk with
    | zero =>
      have cb : decide (i < n) = false := decide_eq_false (by have := hi.out; omega)
      have h := hl0.out
      rw [codec_Decode.l0, codec_Decode.e] at h
      clear hl0
      cases bad with
      | true =>
        rw [if_pos rfl] at h
        simp only [Option.some.injEq, Prod.mk.injEq] at h
        obtain ⟨rfl, rfl⟩ := h
        go_wp2_with (first | (go_at_call 72; refine (codec_source_whole.calls k g q l0 f1 f2 true 0 0 0 w0 _ hr.out.src hr.out.bel (fun e => by cases e)).mono ?_; rintro e w5 ⟨rfl, hB5, hK5⟩))
        go_ret2
        exact ⟨_, rfl, Kd.R_nil _ _ _ _ (fun _ => True), below_then hw0 hw0.size hB5⟩
      | false =>
        rw [if_neg (by decide)] at h
        obtain ⟨⟨e1, e2, e3⟩, hend, h⟩ := Option.bind_eq_some_iff.mp h
        by_cases he : e1 = 0
        · rw [if_pos he] at h
          simp only [Option.some.injEq, Prod.mk.injEq] at h
          obtain ⟨rfl, rfl⟩ := h
          subst he
          go_wp2_with (first | (go_at_call 72; refine (codec_source_whole.calls k g q l0 f1 f2 false 0 e2 e3 w0 _ hr.out.src hr.out.bel (fun _ => hend)).mono ?_; rintro e w5 ⟨rfl, hB5, hK5⟩))
          go_ret2
          exact ⟨_, rfl, Kd.R_mono (Kd.R_lower (Kd.R_kept hr.out.own hK5 (fun k hk e => hk.1 e)) hw0.size) (fun _ _ => trivial), below_then hw0 hw0.size hB5⟩
        · rw [if_neg he] at h
          simp only [Option.some.injEq, Prod.mk.injEq] at h
          obtain ⟨rfl, rfl⟩ := h
          have he1 : decide (e1 = 0) = false := decide_eq_false he
          go_wp2_with (first | (go_at_call 72; refine (codec_source_whole.calls k g q l0 f1 f2 false e1 e2 e3 w0 _ hr.out.src hr.out.bel (fun _ => hend)).mono ?_; rintro e w5 ⟨rfl, hB5, hK5⟩))
          go_ret2
          exact ⟨_, rfl, Kd.R_nil _ _ _ _ (fun _ => True), below_then hw0 hw0.size hB5⟩
    | succ m =>
      have cb : decide (i < n) = true := decide_eq_true (by have := hi.out; omega)
      have h := hl0.out
      rw [codec_Decode.l0] at h
      obtain ⟨⟨y1, s1, t1, u1⟩, g1, h⟩ := Option.bind_eq_some_iff.mp h
      obtain ⟨⟨y2, s2, t2, u2_⟩, g2, h⟩ := Option.bind_eq_some_iff.mp h
      obtain ⟨⟨y3, s3, t3, u3_⟩, g3, h⟩ := Option.bind_eq_some_iff.mp h
      obtain ⟨⟨y4, s4, t4, u4_⟩, g4, h⟩ := Option.bind_eq_some_iff.mp h
      have h' := Aside0.mk h
      have g1' := Aside0.mk g1
      have g2' := Aside0.mk g2
      have g3' := Aside0.mk g3
      have g4' := Aside0.mk g4
      clear h g1 g2 g3 g4 hl0
      have hi1 : wrap64 (i + 1) = i + 1 := by have := hi.out; unfold wrap64; omega
      obtain ⟨x0_, x1_, x2_, x3_⟩ := hr.out.cl.cells
      have hof := blk_frozen hr.out.cl
      go_upto_region 11 with (fail)
      have hY0 : Clm (wr.alloc (.cells #[.int .i64 x.f0, .int .i64 x.f1, .int .i64 x.f2, .int .i64 x.f3] 44)) wr.heap.size x := (show _ = _ by simpa using heap_alloc_new wr (.cells #[.int .i64 x.f0, .int .i64 x.f1, .int .i64 x.f2, .int .i64 x.f3] 44))
      have hD0 := hr.out.below (below_alloc (Below.refl _ _) (.cells #[.int .i64 x.f0, .int .i64 x.f1, .int .i64 x.f2, .int .i64 x.f3] 44))
      have hor : o ≠ wr.heap.size := by have := blk_lt hr.out.cl; omega
      clear x0_ x1_ x2_ x3_ hof
      generalize wr.heap.size = r at hY0 hor ⊢
      generalize wr.alloc (.cells #[.int .i64 x.f0, .int .i64 x.f1, .int .i64 x.f2, .int .i64 x.f3] 44) = w5 at hY0 hD0 ⊢
      have hD := Aside0.mk hD0
      have hY := Aside0.mk hY0
      clear hD0 hY0 hr
      go_wp2_with (fail)
      refine (codec_source_get.calls k g q l0 f1 f2 bad y1 s1 t1 u1 w0 w5 hD.out.src hD.out.bel hG0 g1'.out).mono ?_
      rintro e w6 ⟨rfl, hS6, hB6, hK6⟩
      replace hY := Aside0.mk (blk_kept hY.out hK6 (fun e => e.elim (Clm.not_src hD.out hY.out).1 (Clm.not_src hD.out hY.out).2.1) : Clm w6 r x)
      replace hD := Aside0.mk (hD.out.get hS6 hB6 hK6)
      clear hS6 hB6 hK6 w5
      go_wp2_with (fail)
      refine (codec_trend_back.calls p a b y1 w0 w6 hD.out.tr hD.out.bel).mono ?_
      rintro e w7 ⟨rfl, hT7, hB7, hK7⟩
      replace hY := Aside0.mk (hK7.blk hY.out (Clm.not_src hD.out hY.out).2.2 (by simp) : Clm w7 r x)
      replace hD := Aside0.mk (hD.out.back hT7 hB7 hK7)
      clear hT7 hB7 hK7 w6
      obtain ⟨x0_, x1_, x2_, x3_⟩ := hD.out.cl.cells
      have hof := blk_frozen hD.out.cl
      go_upto_region 12 with (fail)
      obtain ⟨F, hF⟩ : ∃ F, wrap64 (a + wrap64 (b + y1)) = F := ⟨_, rfl⟩
      rw [hF] at hD ⊢
      have hD8 := hD.out.set (hD.out.cl.set_ F).1
      have hY8 : Clm (w7.setCell ⟨o, 0, none⟩ (.int .i64 F)) r x := (((KeepBut.refl w7 o none).set_ 0 (.int .i64 F)).blk hY.out (Ne.symm hor) (by simp))
      generalize w7.setCell ⟨o, 0, none⟩ (.int .i64 F) = w8 at hD8 hY8 ⊢
      clear hD hY x0_ x1_ x2_ x3_ hof
      replace hF := Aside0.mk hF
      replace hD8 := Aside0.mk hD8
      replace hY8 := Aside0.mk hY8
      obtain ⟨x0_, x1_, x2_, x3_⟩ := hD8.out.cl.cells
      try simp only [] at x0_ x1_ x2_ x3_
      obtain ⟨o0_, o1_, o2_, o3_⟩ := hY8.out.cells
      have hof1 : w8.frozen? ⟨o, 1, none⟩ = false := blk_frozen hD8.out.cl 1
      have hDr := Aside0.mk hD8.out.drew
      have hYr := Aside0.mk (show Clm w8.drew r x from blk_drew hY8.out)
      go_region_held3 (fun w' => w'.cell? ⟨o, 0, none⟩ = some (.int .i64 F) ∧ w'.cell? ⟨r, 0, none⟩ = some (.int .i64 x.f0) ∧ w'.cell? ⟨r, 1, none⟩ = some (.int .i64 x.f1)) (first | (exact ⟨n0_, k0_, k1_⟩) | (exact ⟨(hD9.cl.set_ _).2.1.cells.1, (hY9s _).cells.1, (hY9s _).cells.2.1⟩) | go_keep) ((go_at_call 70; refine (codec_source_get.calls k g q l0 s1 t1 u1 y2 s2 t2 u2_ w0 _ hDr.out.src hDr.out.bel hG0 g2'.out).mono ?_; rintro e w9 ⟨rfl, hS9, hB9, hK9⟩; have hD9 := hDr.out.get hS9 hB9 hK9; have hY9 : Clm w9 r x := blk_kept hYr.out hK9 (fun e => e.elim (Clm.not_src hDr.out hYr.out).1 (Clm.not_src hDr.out hYr.out).2.1); obtain ⟨n0_, n1_, n2_, n3_⟩ := hD9.cl.cells; obtain ⟨k0_, k1_, k2_, k3_⟩ := hY9.cells; have hof9 : w9.frozen? ⟨o, 1, none⟩ = false := blk_frozen hD9.cl 1; have hY9s : ∀ u, Clm (w9.setCell ⟨o, 1, none⟩ u) r x := fun u => ((KeepBut.refl w9 o none).set_ 1 u).blk hY9 (Ne.symm hor) (by simp)))
      simp only [i64_w]
      obtain ⟨T, hT⟩ : ∃ T, wrap64 (wrap64 (F + wrap64 (x.f1 - x.f0)) + y2) = T := ⟨_, rfl⟩
      rw [hT]
      replace hT := Aside0.mk hT
      have hD10 := hD9.set (hD9.cl.set_ T).2.1
      have hY10 := hY9s (.int .i64 T)
      clear hY9s hof9 n0_ n1_ n2_ n3_ k0_ k1_ k2_ k3_ hS9 hB9 hK9
      generalize w9.setCell ⟨o, 1, none⟩ (.int .i64 T) = w10 at hD10 hY10 ⊢
      clear hD9 hY9 hDr hYr hD8 hY8 x0_ x1_ x2_ x3_ o0_ o1_ o2_ o3_ hof1
      replace hD10 := Aside0.mk hD10
      replace hY10 := Aside0.mk hY10
      go_upto_region 13 with (fail)
      obtain ⟨x0_, x1_, x2_, x3_⟩ := hD10.out.cl.cells
      try simp only [] at x0_ x1_ x2_ x3_
      obtain ⟨o0_, o1_, o2_, o3_⟩ := hY10.out.cells
      have hof1 : w10.frozen? ⟨o, 2, none⟩ = false := blk_frozen hD10.out.cl 2
      have hDr := Aside0.mk hD10.out.drew
      have hYr := Aside0.mk (show Clm w10.drew r x from blk_drew hY10.out)
      go_region_held3 (fun w' => w'.cell? ⟨r, 2, none⟩ = some (.int .i64 x.f2)) (first | (exact k2_) | (exact (hY11s _).cells.2.2.1) | go_keep) ((go_at_call 70; refine (codec_source_get.calls k g q l0 s2 t2 u2_ y3 s3 t3 u3_ w0 _ hDr.out.src hDr.out.bel hG0 g3'.out).mono ?_; rintro e w11 ⟨rfl, hS9, hB9, hK9⟩; have hD11 := hDr.out.get hS9 hB9 hK9; have hY11 : Clm w11 r x := blk_kept hYr.out hK9 (fun e => e.elim (Clm.not_src hDr.out hYr.out).1 (Clm.not_src hDr.out hYr.out).2.1); obtain ⟨n0_, n1_, n2_, n3_⟩ := hD11.cl.cells; obtain ⟨k0_, k1_, k2_, k3_⟩ := hY11.cells; have hof9 : w11.frozen? ⟨o, 2, none⟩ = false := blk_frozen hD11.cl 2; have hY11s : ∀ u, Clm (w11.setCell ⟨o, 2, none⟩ u) r x := fun u => ((KeepBut.refl w11 o none).set_ 2 u).blk hY11 (Ne.symm hor) (by simp)))
      simp only [i64_w]
      obtain ⟨L, hL⟩ : ∃ L, wrap64 (x.f2 + y3) = L := ⟨_, rfl⟩
      rw [hL]
      replace hL := Aside0.mk hL
      have hD12 := hD11.set (hD11.cl.set_ L).2.2.1
      have hY12 := hY11s (.int .i64 L)
      clear hY11s hof9 n0_ n1_ n2_ n3_ k0_ k1_ k2_ k3_ hS9 hB9 hK9
      generalize w11.setCell ⟨o, 2, none⟩ (.int .i64 L) = w12 at hD12 hY12 ⊢
      clear hD11 hY11 hDr hYr hD10 hY10 x0_ x1_ x2_ x3_ o0_ o1_ o2_ o3_ hof1
      replace hD12 := Aside0.mk hD12
      replace hY12 := Aside0.mk hY12
      go_upto_region 14 with (fail)
      obtain ⟨x0_, x1_, x2_, x3_⟩ := hD12.out.cl.cells
      try simp only [] at x0_ x1_ x2_ x3_
      obtain ⟨o0_, o1_, o2_, o3_⟩ := hY12.out.cells
      have hof1 : w12.frozen? ⟨o, 3, none⟩ = false := blk_frozen hD12.out.cl 3
      have hDr := Aside0.mk hD12.out.drew
      have hYr := Aside0.mk (show Clm w12.drew r x from blk_drew hY12.out)
      go_region_held3 (fun w' => w'.cell? ⟨o, 2, none⟩ = some (.int .i64 L) ∧ w'.cell? ⟨r, 2, none⟩ = some (.int .i64 x.f2) ∧ w'.cell? ⟨r, 3, none⟩ = some (.int .i64 x.f3)) (first | (exact ⟨n2_, k2_, k3_⟩) | (exact ⟨(hD13.cl.set_ _).2.2.2.cells.2.2.1, (hY13s _).cells.2.2.1, (hY13s _).cells.2.2.2⟩) | go_keep) ((go_at_call 70; refine (codec_source_get.calls k g q l0 s3 t3 u3_ y4 s4 t4 u4_ w0 _ hDr.out.src hDr.out.bel hG0 g4'.out).mono ?_; rintro e w13 ⟨rfl, hS9, hB9, hK9⟩; have hD13 := hDr.out.get hS9 hB9 hK9; have hY13 : Clm w13 r x := blk_kept hYr.out hK9 (fun e => e.elim (Clm.not_src hDr.out hYr.out).1 (Clm.not_src hDr.out hYr.out).2.1); obtain ⟨n0_, n1_, n2_, n3_⟩ := hD13.cl.cells; obtain ⟨k0_, k1_, k2_, k3_⟩ := hY13.cells; have hof9 : w13.frozen? ⟨o, 3, none⟩ = false := blk_frozen hD13.cl 3; have hY13s : ∀ u, Clm (w13.setCell ⟨o, 3, none⟩ u) r x := fun u => ((KeepBut.refl w13 o none).set_ 3 u).blk hY13 (Ne.symm hor) (by simp)))
      simp only [i64_w]
      obtain ⟨Hh, hH⟩ : ∃ Hh, wrap64 (wrap64 (L + wrap64 (x.f3 - x.f2)) + y4) = Hh := ⟨_, rfl⟩
      rw [hH]
      replace hH := Aside0.mk hH
      have hD14 := hD13.set (hD13.cl.set_ Hh).2.2.2
      clear hY13s hof9 n0_ n1_ n2_ n3_ k0_ k1_ k2_ k3_ hS9 hB9 hK9
      generalize w13.setCell ⟨o, 3, none⟩ (.int .i64 Hh) = w14 at hD14 ⊢
      clear hD13 hY13 hDr hYr hD12 hY12 x0_ x1_ x2_ x3_ o0_ o1_ o2_ o3_ hof1
      have hnc : nextC a b x y1 y2 y3 y4 = ⟨F, T, L, Hh⟩ := by
        simp only [nextC]
        rw [hF.out, hT.out, hL.out, hH.out]
      have h := h'.out
      try simp only [] at h
      rw [hnc] at h
      clear h' hnc
      obtain ⟨x0_, x1_, x2_, x3_⟩ := hD14.cl.cells
      try simp only [] at x0_ x1_ x2_ x3_
      replace hD14 := Aside0.mk hD14
      have h' := Aside0.mk h
      clear h
      go_upto_region 15 with (fail)
      go_wp2_with (fail)
      refine (codec_encodable.calls F T L Hh w14).mono ?_
      rintro e w15 ⟨rfl, hB15⟩
      replace hD14 := Aside0.mk (hD14.out.below hB15)
      clear hB15 x0_ x1_ x2_ x3_ w14
      cases he : encB ⟨F, T, L, Hh⟩ with
      | false =>
        have h := h'.out
        rw [if_neg (by rw [he]; simp)] at h
        simp only [Option.some.injEq, Prod.mk.injEq] at h
        obtain ⟨rfl, rfl⟩ := h
        clear h' he
        have hb := hD14.out.bel
        go_wp2
        go_ret2
        exact ⟨_, rfl, Kd.R_nil _ _ _ _ (fun _ => True), below_then hw0 hw0.size hb⟩
      | true =>
        have h := h'.out
        rw [if_pos he] at h
        rw [show wrap64 (b + y1) = wrap64 (b + y1) from rfl, hF.out] at h
        replace h' := Aside0.mk h
        clear h he
        obtain ⟨x0_, x1_, x2_, x3_⟩ := hD14.out.cl.cells
        try simp only [] at x0_ x1_ x2_ x3_
        go_wp2_with (first | ((with_reducible refine gate_builtin (b := .append) (xs := #[.tmp 63, .tmp 65]) rfl ?_); at_builtin; refine Kd.R_append k44 (w0 := w0) w0.heap.size rfl (.tmp 63) (.tmp 65) 45 44 (.agg #[.int .i64 0, .int .i64 0, .int .i64 0, .int .i64 0]) 32 rfl Tryd.underlying45 infoC' rfl (by decide) (by omega) u8 out ⟨F, T, L, Hh⟩ [.int .i64 F, .int .i64 T, .int .i64 L, .int .i64 Hh] (fun k => k ≠ g ∧ k ≠ q ∧ k ≠ p ∧ k ≠ o) (fun _ => False) rfl rfl (k44_mkM _ _ _ ⟨F, T, L, Hh⟩) (fun _ hk => hk.elim) ?aF hD14.out.own hD14.out.bel hD14.out.bel.size (by have := hi.out; omega) ?_; (case aF => intro k_ hk; have h1 := hD14.out.src.rd.lt; have h2 := blk_lt hD14.out.src.blk; have h3 := hD14.out.tr.lt; have h4 := blk_lt hD14.out.cl; omega); intro v7 w7 ho7 hb7 hg7 hat7; have hD16 := Aside0.mk (hD14.out.app ho7 hb7 hg7); clear ho7 hb7 hg7 hat7))
        go_roundg m
        case measure => omega
        case rel => exact ⟨s4, t4, u4_, F, _, i + 1, _, _, by first | rfl | simp [*], hD16, ⟨by have := hi.out; simp; omega⟩, h'⟩
end Go.Proofs.YtblbieenfghbdaaDoor.E
