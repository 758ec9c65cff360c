/- The call of codec.ReadInts comes to what codec_ReadInts.f gives, the list in new memory, whenever that function gives a result. -/
import Derived.Test.YtblbieenfghbdaaDoorKb
namespace Go.Proofs.YtblbieenfghbdaaDoor.D
open Go.RowKit Go.Proofs.YtblbieenfghbdaaDoorW.PrintWords Go.Proofs.YtblbieenfghbdaaDoorW.PrintLast Go.Proofs.YtblbieenfghbdaaDoorW.PrintMore
set_option linter.unusedVariables false
set_option linter.unusedSimpArgs false
/-- The rounds of ReadInts. -/
def codec_ReadInts.l0 (k : Nat) (f0 : List Int) : Nat → Int → Int → Bool → Int → Int → List Int → Option (List Int × Int × Int × Bool)
  | 0, f1, f2, bad, _, _, out => some (out, f1, f2, bad)
  | m + 1, f1, f2, bad, a, b, out => (codec_source_get.f k f0 f1 f2 bad).bind fun r =>
      if out.length < 17592186044416 then codec_ReadInts.l0 k f0 m r.2.1 r.2.2.1 r.2.2.2 (wrap64 (a + wrap64 (b + r.1))) (wrap64 (b + r.1)) (out ++ [wrap64 (a + wrap64 (b + r.1))]) else none
/-- The list of an encoding, or the error. -/
def codec_ReadInts.f (k : Nat) (l0 : List Int) : Option (List Int × Int) :=
  if l0.length ≤ 140737488355328 then
    (codec_source_get.f k l0 0 0 false).bind fun r =>
      if r.1 < 0 then some ([], 2) else if 8 * (l0.length : Int) < r.1 then some ([], 2) else
        (codec_ReadInts.l0 k l0 r.1.toNat r.2.1 r.2.2.1 r.2.2.2 0 0 []).bind fun s =>
          if s.2.2.2 = true then some ([], 2) else (bits_Reader_End.f k l0 s.2.1 s.2.2.1).bind fun e => if e.1 = 0 then some (s.1, 0) else some ([], 2)
  else none
theorem codec_source_get.mono (f0 : List Int) (f1 f2 : Int) (bad : Bool) (k : Nat) : LeO (codec_source_get.f k f0 f1 f2 bad) (codec_source_get.f (k + 1) f0 f1 f2 bad) := by
  unfold codec_source_get.f
  refine LeO.bind (bits_Reader_Unary.mono _ _ _ _ _) (fun u => LeO.ite (LeO.bind (bits_Reader_Bits.mono _ _ _ _ _) (fun z => LeO.refl _)) (LeO.refl _))
theorem codec_ReadInts.mono_l (f0 : List Int) (k : Nat) : ∀ (m : Nat) (f1 f2 : Int) (bad : Bool) (a b : Int) (out : List Int), LeO (codec_ReadInts.l0 k f0 m f1 f2 bad a b out) (codec_ReadInts.l0 (k + 1) f0 m f1 f2 bad a b out)
  | 0, _, _, _, _, _, _ => LeO.refl _
  | m + 1, f1, f2, bad, a, b, out => LeO.bind (codec_source_get.mono f0 f1 f2 bad k) (fun r => LeO.ite (codec_ReadInts.mono_l f0 k m _ _ _ _ _ _) (LeO.refl _))
theorem codec_ReadInts.mono (l0 : List Int) (k : Nat) : LeO (codec_ReadInts.f k l0) (codec_ReadInts.f (k + 1) l0) := by
  unfold codec_ReadInts.f
  refine LeO.ite (LeO.bind (codec_source_get.mono _ _ _ _ _) (fun r => LeO.ite (LeO.refl _) (LeO.ite (LeO.refl _) (LeO.bind (codec_ReadInts.mono_l _ _ _ _ _ _ _ _ _) (fun s => LeO.ite (LeO.refl _) (LeO.bind (bits_Reader_End.mono _ _ _ _) (fun e => LeO.refl _))))))) (LeO.refl _)
/-- The source, the trend and the list of a round. -/
structure RI (w0 W : World) (g q p : Nat) (f0 : List Int) (f1 f2 : Int) (bad : Bool) (a b : Int) (v : Value) (out : List Int) : Prop where
  src : SrcAt w0 W g q f0 f1 f2 bad
  tr : IsS104 w0 W p a b
  own : Kd.R (Kd.int .i64) 3 W w0.heap.size (fun k => k ≠ g ∧ k ≠ q ∧ k ≠ p) v out
  bel : Below w0.heap.size w0 W
theorem RI.gp {w0 W : World} {g q p : Nat} {f0 : List Int} {f1 f2 : Int} {bad : Bool} {a b : Int} {v : Value} {out : List Int} (h : RI w0 W g q p f0 f1 f2 bad a b v out) : p ≠ g ∧ p ≠ q :=
  ⟨fun e => h.src.rd.ne_blk h.tr.1 (by decide) e.symm, fun e => by
    have h1 := h.src.blk; have h2 := h.tr.1; rw [e, h1] at h2; injection h2 with h2; injection h2 with _ h2; cases h2⟩
theorem RI.get {w0 W W1 : World} {g q p : Nat} {f0 : List Int} {f1 f2 f1' f2' : Int} {bad bad' : Bool} {a b : Int} {v : Value} {out : List Int} (h : RI w0 W g q p f0 f1 f2 bad a b v out)
    (hs : SrcAt w0 W1 g q f0 f1' f2' bad') (hb : Below w0.heap.size w0 W1) (hk : Kept W W1 (fun k => k = g ∨ k = q)) : RI w0 W1 g q p f0 f1' f2' bad' a b v out :=
  ⟨hs, h.tr.kept hk (fun e => e.elim h.gp.1 h.gp.2), Kd.R_kept h.own hk (fun k hk e => e.elim hk.1 hk.2.1), hb⟩
theorem RI.back {w0 W W1 : World} {g q p : Nat} {f0 : List Int} {f1 f2 : Int} {bad : Bool} {a b a' b' : Int} {v : Value} {out : List Int} (h : RI w0 W g q p f0 f1 f2 bad a b v out)
    (hs : IsS104 w0 W1 p a' b') (hb : Below w0.heap.size w0 W1) (hk : KeepBut W W1 p none) : RI w0 W1 g q p f0 f1 f2 bad a' b' v out := by
  have hK : Kept W W1 (fun k => k = p) := (Kept.refl W _).of_keep hk (.inl rfl)
  exact ⟨h.src.kept hK (fun e => h.gp.1 e.symm) (fun e => h.gp.2 e.symm), hs, Kd.R_keep h.own hk (fun k hk => hk.2.2), hb⟩
theorem RI.app {w0 W W1 : World} {g q p : Nat} {f0 : List Int} {f1 f2 : Int} {bad : Bool} {a b : Int} {v v1 : Value} {out out1 : List Int} (h : RI w0 W g q p f0 f1 f2 bad a b v out)
    (ho : Kd.R (Kd.int .i64) 3 W1 w0.heap.size (fun k => k ≠ g ∧ k ≠ q ∧ k ≠ p) v1 out1) (hb : Below w0.heap.size w0 W1) (hg : W.grownBy W1 v.ownBlock) : RI w0 W1 g q p f0 f1 f2 bad a b v1 out1 := by
  have hK : Kept W W1 (fun k => some k = v.ownBlock) := (Kept.refl W _).of_grown hg (fun k e => .inl e.symm)
  have hn : ∀ k, some k = v.ownBlock → k ≠ g ∧ k ≠ q ∧ k ≠ p := fun k e => h.own.1 k e.symm
  exact ⟨h.src.kept hK (fun e => (hn _ e).1 rfl) (fun e => (hn _ e).2.1 rfl), h.tr.kept hK (fun e => (hn _ e).2.2 rfl), ho, hb⟩

/-! ### codec_ReadInts: function 22 -/
set_option maxHeartbeats 8000000 in
set_option maxRecDepth 100000 in
theorem codec_ReadInts.calls (k : Nat) (A0 : Option Addr) (c0 : Nat) (l0 : List Int) (r1 : List Int) (r2 : Int) (w : World) (hr0 : Kd.C (Kd.int .u8) w A0 l0.length l0) (hc0 : l0.length ≤ c0) (hG : Glob w) (h : codec_ReadInts.f k l0 = some (r1, r2)) :
    Calls Tryd.prog 22 #[.slice A0 l0.length c0] w fun e w' => ∃ v0_ : Value, e = .returned (.tuple #[v0_, .int .i64 r2]) ∧ Kd.R (Kd.int .i64) 3 w' w.heap.size (fun _ => True) v0_ r1 ∧ Below w.heap.size w w' := by
  unfold codec_ReadInts.f at h
  have hl : l0.length ≤ 140737488355328 := by
    by_cases hl : l0.length ≤ 140737488355328
    · exact hl
    · rw [if_neg hl] at h; cases h
  rw [if_pos hl] at h
  obtain ⟨⟨n, m1, m2, mb⟩, hget, h⟩ := Option.bind_eq_some_iff.mp h
  have H := Aside0.mk h
  have HGET := Aside0.mk hget
  clear h hget
  go_enter Tryd.func22, Tryd.ntmps22
  go_wp2_with (first | (go_at_call 69; refine (bits_Read.calls A0 c0 l0 w hr0 hl).mono ?_; rintro e w1 ⟨w0, g, rfl, hI, hw0, hw1⟩) | (go_at_call 70; fail))
  have hS : SrcAt w0 (w1.alloc (.cells #[.pointer (some ⟨g, 0, none⟩), .bool false] 113)) g w1.heap.size l0 0 0 false := ⟨hI.alloc _, by simpa using heap_alloc_new w1 _, hw1.size⟩
  have hB2 : Below w0.heap.size w0 (w1.alloc (.cells #[.pointer (some ⟨g, 0, none⟩), .bool false] 113)) := below_alloc hw1 _
  generalize hq : w1.heap.size = q at hS ⊢
  clear hq
  generalize w1.alloc (.cells #[.pointer (some ⟨g, 0, none⟩), .bool false] 113) = w2 at hS hB2 ⊢
  clear hI hw1
  have hG0 : Glob w0 := hG.below hw0
  refine (codec_source_get.calls k g q l0 0 0 false n m1 m2 mb w0 w2 hS hB2 hG0 HGET.out).mono ?_
  rintro e w3 ⟨rfl, hS3, hB3, hK3⟩
  clear hS hB2 hK3 HGET hG
  have h := H.out
  clear H
  have hx : wrap64 (8 * (l0.length : Int)) = 8 * (l0.length : Int) := wrap_in _ (by omega) (by omega)
  by_cases c1 : n < 0
  · rw [if_pos c1] at h
    simp only [Option.some.injEq, Prod.mk.injEq] at h
    obtain ⟨rfl, rfl⟩ := h
    have c1b : decide (n < 0) = true := decide_eq_true c1
    clear c1
    go_wp2
    go_ret2
    exact ⟨_, rfl, Kd.R_nil _ _ _ _ (fun _ => True), below_then hw0 hw0.size hB3⟩
  rw [if_neg c1] at h
  have c1b : decide (n < 0) = false := decide_eq_false c1
  by_cases c2 : 8 * (l0.length : Int) < n
  · rw [if_pos c2] at h
    simp only [Option.some.injEq, Prod.mk.injEq] at h
    obtain ⟨rfl, rfl⟩ := h
    have c2b : decide (n > 8 * (l0.length : Int)) = true := decide_eq_true c2
    clear c1 c2
    go_wp2
    go_ret2
    exact ⟨_, rfl, Kd.R_nil _ _ _ _ (fun _ => True), below_then hw0 hw0.size hB3⟩
  rw [if_neg c2] at h
  have c2b : decide (n > 8 * (l0.length : Int)) = false := decide_eq_false c2
  obtain ⟨⟨out, s1, s2, sb⟩, hloop, h⟩ := Option.bind_eq_some_iff.mp h
  have H := Aside0.mk h
  have HL := Aside0.mk hloop
  clear h hloop
  have hn : (0 : Int) ≤ n := by omega
  have hn2 : n ≤ 8 * (l0.length : Int) := by omega
  clear c1 c2
  go_wp2
  have hRI : RI w0 (w3.alloc (.cells #[.int .i64 0, .int .i64 0] 104)) g q w3.heap.size l0 m1 m2 mb 0 0 (.slice none 0 0) [] :=
    ⟨⟨hS3.rd.alloc _, blk_alloc hS3.blk _, hS3.hq⟩, ⟨by simpa using heap_alloc_new w3 _, hB3.size⟩, Kd.R_nil _ _ _ _ _, below_alloc hB3 _⟩
  generalize w3.heap.size = p at hRI ⊢
  generalize w3.alloc (.cells #[.int .i64 0, .int .i64 0] 104) = w4 at hRI ⊢
  clear hS3 hB3 w3 w2 w1
  have hRI0 := Aside0.mk hRI
  clear hRI
  go_loopg [7, 24] n.toNat (fun kq v7 v24 w' => ∃ (f1 f2 : Int) (bad : Bool) (a b i : Int) (o : List Int), v24 = .int .i64 i ∧ Aside0 (RI w0 w' g q p l0 f1 f2 bad a b v7 o) ∧ Aside0 (0 ≤ i ∧ i + (kq : Int) = n) ∧ Aside0 (codec_ReadInts.l0 k l0 kq f1 f2 bad a b o = some (out, s1, s2, sb)))
  case atStart => exact ⟨m1, m2, mb, 0, 0, 0, [], rfl, hRI0, ⟨by omega⟩, HL⟩
  case round =>
    obtain ⟨f1, f2, bad, a, b, i, o, rfl, hr, hi, hl0⟩ := hrel
    cases gk with
    | zero =>
      have cb : decide (i < n) = false := decide_eq_false (by have := hi.out; omega)
      have h := hl0.out
      simp only [codec_ReadInts.l0, Option.some.injEq, Prod.mk.injEq] at h
      obtain ⟨rfl, rfl, rfl, rfl⟩ := h
      have h := H.out
      clear H hl0
      cases bad with
      | true =>
        rw [if_pos rfl] at h
        simp only [Option.some.injEq, Prod.mk.injEq] at h
        obtain ⟨rfl, rfl⟩ := h
        go_wp2_with (first | (go_at_call 72; refine (codec_source_whole.calls k g q l0 f1 f2 true 0 0 0 w0 _ hr.out.src hr.out.bel (fun e => by cases e)).mono ?_; rintro e w5 ⟨rfl, hB5, hK5⟩))
        go_ret2
        exact ⟨_, rfl, Kd.R_nil _ _ _ _ (fun _ => True), below_then hw0 hw0.size hB5⟩
      | false =>
        rw [if_neg (by decide)] at h
        obtain ⟨⟨e1, e2, e3⟩, hend, h⟩ := Option.bind_eq_some_iff.mp h
        by_cases he : e1 = 0
        · rw [if_pos he] at h
          simp only [Option.some.injEq, Prod.mk.injEq] at h
          obtain ⟨rfl, rfl⟩ := h
          subst he
          go_wp2_with (first | (go_at_call 72; refine (codec_source_whole.calls k g q l0 f1 f2 false 0 e2 e3 w0 _ hr.out.src hr.out.bel (fun _ => hend)).mono ?_; rintro e w5 ⟨rfl, hB5, hK5⟩))
          go_ret2
          exact ⟨_, rfl, Kd.R_mono (Kd.R_lower (Kd.R_kept hr.out.own hK5 (fun k hk e => hk.1 e)) hw0.size) (fun _ _ => trivial), below_then hw0 hw0.size hB5⟩
        · rw [if_neg he] at h
          simp only [Option.some.injEq, Prod.mk.injEq] at h
          obtain ⟨rfl, rfl⟩ := h
          have he1 : decide (e1 = 0) = false := decide_eq_false he
          go_wp2_with (first | (go_at_call 72; refine (codec_source_whole.calls k g q l0 f1 f2 false e1 e2 e3 w0 _ hr.out.src hr.out.bel (fun _ => hend)).mono ?_; rintro e w5 ⟨rfl, hB5, hK5⟩))
          go_ret2
          exact ⟨_, rfl, Kd.R_nil _ _ _ _ (fun _ => True), below_then hw0 hw0.size hB5⟩
    | succ m =>
      have cb : decide (i < n) = true := decide_eq_true (by have := hi.out; omega)
      have h := hl0.out
      unfold codec_ReadInts.l0 at h
      obtain ⟨⟨x, f1', f2', bad'⟩, hget, h⟩ := Option.bind_eq_some_iff.mp h
      have hlen : o.length < 17592186044416 := by
        by_cases hc : o.length < 17592186044416
        · exact hc
        · rw [if_neg hc] at h; cases h
      rw [if_pos hlen] at h
      have h' := Aside0.mk h
      have hget' := Aside0.mk hget
      clear h hget hl0
      go_wp2_with (first | (go_at_call 70; refine (codec_source_get.calls k g q l0 f1 f2 bad x f1' f2' bad' w0 _ hr.out.src hr.out.bel hG0 hget'.out).mono ?_; rintro e w5 ⟨rfl, hS5, hB5, hK5⟩; have hr5 := Aside0.mk (hr.out.get hS5 hB5 hK5); clear hS5 hB5 hK5) | (go_at_call 71; refine (codec_trend_back.calls p a b x w0 _ hr5.out.tr hr5.out.bel).mono ?_; rintro e w6 ⟨rfl, hT6, hB6, hK6⟩; have hr6 := Aside0.mk (hr5.out.back hT6 hB6 hK6); clear hT6 hB6 hK6) | ((with_reducible refine gate_builtin (b := .append) (xs := #[.tmp 26, .tmp 30]) rfl ?_); at_builtin; refine Kd.R_append (Kd.int .i64) (w0 := w0) w0.heap.size rfl (.tmp 26) (.tmp 30) 22 3 (.int .i64 0) 8 rfl Tryd.underlying22 info3 rfl (by decide) (by omega) u7 o (wrap64 (a + wrap64 (b + x))) [.int .i64 (wrap64 (a + wrap64 (b + x)))] (fun k => k ≠ g ∧ k ≠ q ∧ k ≠ p) (fun _ => False) rfl rfl rfl (fun _ hk => hk.elim) ?aF hr6.out.own hr6.out.bel hr6.out.bel.size (by omega) ?_; (case aF => intro k_ hk; have h1 := hr6.out.src.rd.lt; have h2 := blk_lt hr6.out.src.blk; have h3 := hr6.out.tr.lt; omega); intro v7 w7 ho7 hb7 hg7 hat7; have hr7 := Aside0.mk (hr6.out.app ho7 hb7 hg7); clear ho7 hb7 hg7 hat7))
      have hi1 : wrap64 (i + 1) = i + 1 := wrap_in _ (by have := hi.out; omega) (by have := hi.out; omega)
      go_roundg m
      case measure => omega
      case rel => exact ⟨f1', f2', bad', _, _, i + 1, _, by first | rfl | simp [*], hr7, ⟨by have := hi.out; omega⟩, h'⟩
end Go.Proofs.YtblbieenfghbdaaDoor.D
