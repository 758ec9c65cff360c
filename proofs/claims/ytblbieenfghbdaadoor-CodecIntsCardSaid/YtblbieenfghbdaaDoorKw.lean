/- The calls of bits.Writer's push, Unary and Done, and what they leave in memory. -/
import Derived.Test.YtblbieenfghbdaaDoorKb
namespace Go.Proofs.YtblbieenfghbdaaDoor.D
open Go.RowKit Go.Proofs.YtblbieenfghbdaaDoorW.PrintWords Go.Proofs.YtblbieenfghbdaaDoorW.PrintLast Go.Proofs.YtblbieenfghbdaaDoorW.PrintMore
set_option linter.unusedVariables false
set_option linter.unusedSimpArgs false
/-- A writer at block g, its bytes in a row of its own. -/
structure Wr (w0 W : World) (g : Nat) (bs : List Int) (n : Int) (v : Value) : Prop where
  blk : W.heap[g]? = some (.cells #[v, .int .i64 n] 100 (0, 0))
  hg : w0.heap.size ≤ g
  own : Kd.R (Kd.int .u8) 5 W w0.heap.size (fun k => k ≠ g) v bs
  bel : Below w0.heap.size w0 W
/-- What stands outside of the writer's block and of rows of bytes, stays. -/
def KeepT (w W : World) (g : Nat) : Prop := w.heap.size ≤ W.heap.size ∧ ∀ k o, w.heap[k]? = some o → k ≠ g → (∀ cs fr, o ≠ .cells cs 5 fr) → W.heap[k]? = some o
theorem KeepT.refl (w : World) (g : Nat) : KeepT w w g := ⟨Nat.le_refl _, fun _ _ h _ _ => h⟩
theorem KeepT.trans {w W W2 : World} {g : Nat} (h : KeepT w W g) (k : KeepT W W2 g) : KeepT w W2 g := ⟨Nat.le_trans h.1 k.1, fun i o hi hn ht => k.2 i o (h.2 i o hi hn ht) hn ht⟩
theorem KeepT.below {w W : World} (h : Below w.heap.size w W) (g : Nat) : KeepT w W g := ⟨h.size, fun i o hi _ _ => (h.block i (blk_lt hi)).trans hi⟩
theorem KeepT.set_ {w W : World} {g : Nat} (h : KeepT w W g) (j : Nat) (u : Value) : KeepT w (W.setCell ⟨g, j, none⟩ u) g :=
  ⟨by simpa using h.1, fun i o hi hn ht => (Below.heap_setCell W ⟨g, j, none⟩ u i hn).trans (h.2 i o hi hn ht)⟩
theorem KeepT.drewN {w W : World} {g : Nat} (h : KeepT w W g) (m : Nat) : KeepT w (W.drewN m) g := h
theorem KeepT.drew {w W : World} {g : Nat} (h : KeepT w W g) : KeepT w W.drew g := h
theorem KeepT.alloc {w W : World} {g : Nat} (h : KeepT w W g) (o : Obj) : KeepT w (W.alloc o) g := h.trans (KeepT.below (below_alloc (Below.refl _ _) o) g)
theorem KeepT.grown {w W W2 : World} {g : Nat} {v : Value} {base : Nat} {ok : Nat → Prop} {bs : List Int} (h : KeepT w W g) (ho : Kd.R (Kd.int .u8) 5 W base ok v bs) (hg : W.grownBy W2 v.ownBlock) : KeepT w W2 g :=
  ⟨Nat.le_trans h.1 hg.size, fun i o hi hn ht => by
    have hW := h.2 i o hi hn ht
    refine (hg.block i (blk_lt hW) (fun e => ?_)).trans hW
    have hb := (Kd.R_bound ho).1 i e.symm
    obtain ⟨_, _, _, q, hq, cs, hc⟩ := hb
    rw [hW] at hc
    injection hc with hc
    have hq5 : q = 5 := by simpa [Kd.int, Kd.scalar] using hq
    subst hq5
    exact ht cs _ hc⟩
theorem Wr.drew {w0 W : World} {g : Nat} {bs : List Int} {n : Int} {v : Value} (h : Wr w0 W g bs n v) : Wr w0 W.drew g bs n v := ⟨h.blk, h.hg, Kd.R_drew h.own, below_drew1 h.bel⟩

/-- The bits of a byte behind a bit's entry. -/
def pushByte (x at_ bit : Int) : Int := bits .or .u8 x (IntKind.u8.wrap (IntKind.u8.wrap (bits .and .u64 bit 1) * 2 ^ (7 - at_).toNat))
/-- A stream's bytes behind one more bit. -/
def pushBits (bs : List Int) (n bit : Int) : List Int :=
  let at_ := Int.tmod n 8
  let xs := if at_ = 0 then bs ++ [0] else bs
  let ix := (xs.length : Int) - 1
  xs.set ix.toNat (pushByte (rdOf 0 xs ix) at_ bit)
/-! ### bits_Writer_push: function 129 -/
set_option maxHeartbeats 8000000 in
set_option maxRecDepth 100000 in
theorem bits_Writer_push.calls (g : Nat) (bs : List Int) (n bit : Int) (v : Value) (w0 w : World) (hI : Wr w0 w g bs n v) (hn : 0 ≤ n) (hb : Int.tmod n 8 ≠ 0 → bs ≠ []) (hl : bs.length < 140737488355328) :
    Calls Tryd.prog 129 #[.pointer (some ⟨g, 0, none⟩), .int .u64 bit] w fun e w' => e = .returned (.tuple #[]) ∧ ∃ v', Wr w0 w' g (pushBits bs n bit) (wrap64 (n + 1)) v' ∧ KeepT w w' g := by
  have h0 : w.cell? ⟨g, 0, none⟩ = some v := (blk_cell hI.blk 0).trans rfl
  have h1 : w.cell? ⟨g, 1, none⟩ = some (.int .i64 n) := (blk_cell hI.blk 1).trans rfl
  have f0 := blk_frozen hI.blk 0
  obtain ⟨at_, hat⟩ : ∃ x, Int.tmod n 8 = x := ⟨_, rfl⟩
  rw [hat] at hb
  obtain ⟨A, c, rfl⟩ := Kd.R_slice hI.own
  have ha0 : 0 ≤ at_ := by rw [← hat]; exact Int.tmod_nonneg 8 hn
  have ha8 : at_ < 8 := by rw [← hat]; exact Int.tmod_lt_of_pos n (by decide)
  go_enter Tryd.func129, Tryd.ntmps129
  have hc : True := trivial
  by_cases c0 : at_ = 0
  · have c0b : (at_ == 0) = true := beq_iff_eq.mpr c0
    replace c0 := Aside0.mk c0
    go_upto_region 3 with (first | ((with_reducible refine gate_builtin (b := .append) (xs := #[.tmp 16, .tmp 17]) rfl ?_); at_builtin; refine Kd.R_append (Kd.int .u8) (w0 := w0) w0.heap.size rfl (.tmp 16) (.tmp 17) 23 5 (.int .u8 0) 1 rfl Tryd.underlying23 info5 rfl (by decide) (by omega) (.slice A bs.length c) bs 0 [.int .u8 0] (fun k => k ≠ g) (fun _ => False) rfl rfl rfl (fun _ hk => hk.elim) (fun k hk => by have := blk_lt hI.blk; omega) hI.own hI.bel hI.bel.size (by omega) ?_; intro v1 w1 ho1 hb1 hg1 hat1; obtain ⟨A1, c1, rfl⟩ := Kd.R_slice ho1; have bk1 := blk_grown hI.blk hg1 (fun e => hI.own.1 g e.symm rfl); have f1 := blk_frozen bk1 0; have q1 : w1.cell? ⟨g, 0, none⟩ = some (.slice A bs.length c) := (blk_cell bk1 0).trans rfl; clear h0 h1 f0))
    obtain ⟨xs, hxs⟩ : ∃ xs : List Int, xs = bs ++ [0] := ⟨_, rfl⟩
    have hL : bs.length + 1 = xs.length := by rw [hxs]; simp
    rw [← hxs] at ho1
    rw [hL]
    have hp : 0 < xs.length := by omega
    have hW : Wr w0 (w1.setCell ⟨g, 0, none⟩ (.slice A1 xs.length c1)) g xs n (.slice A1 xs.length c1) :=
      ⟨by simpa using blk_set bk1 0 (.slice A1 xs.length c1), hI.hg, Kd.R_far (p := ⟨g, 0, none⟩) ho1 (fun k hk => hk) _, below_set hb1 hI.hg⟩
    have hk : KeepT w (w1.setCell ⟨g, 0, none⟩ (.slice A1 xs.length c1)) g := ((KeepT.refl w g).grown hI.own hg1).set_ 0 _
    generalize w1.setCell ⟨g, 0, none⟩ (.slice A1 xs.length c1) = W at hW hk ⊢
    have hl2 : xs.length ≤ 140737488355328 := by omega
    clear ho1 hb1 hg1 hat1 bk1 f1 q1 hI
    have hx : xs = if at_ = 0 then bs ++ [0] else bs := by rw [if_pos c0.out]; exact hxs
    obtain ⟨go, co, eo, gb, gl, cl, HGo⟩ := Kd.R_form hW.own hp
    cases eo
    have hne : go ≠ g := hW.own.1 go rfl
    obtain ⟨ix, hix⟩ : ∃ i : Int, (xs.length : Int) - 1 = i := ⟨_, rfl⟩
    have hwx : wrap64 ((xs.length : Int) - 1) = ix := by rw [← hix]; exact wrap_in _ (by omega) (by omega)
    have p9 : 0 ≤ ix := by omega
    have q9 : ix < (xs.length : Int) := by omega
    obtain ⟨hy, hz⟩ := Kd.R_celln 0 hW.own ix p9 q9
    have k0 : W.cell? ⟨g, 0, none⟩ = some (.slice (some ⟨go, 0, none⟩) xs.length c1) := (blk_cell hW.blk 0).trans rfl
    have ha7 : wrap64 (7 - at_) = 7 - at_ := wrap_in _ (by omega) (by omega)
    have hs7 : 0 ≤ 7 - at_ := by omega
    have hwx' : IntKind.i64.wrap ((xs.length : Int) - 1) = ix := (i64_w _).trans hwx
    have ha7' : IntKind.i64.wrap (7 - at_) = 7 - at_ := (i64_w _).trans ha7
    replace hx := Aside0.mk hx
    replace hix := Aside0.mk hix
    replace hat := Aside0.mk hat
    replace hc := Aside0.mk hc
    clear hxs
    try clear hL
    clear hl hl2
    go_still_tail 19, (by kernel_rfl)
    change wpList _ _ _ _ _ W.drew
    have hW1 := hW.drew
    replace hk := hk.drew
    replace hy : W.drew.cell? ⟨go, ix.toNat, none⟩ = some (.int .u8 (rdOf 0 xs ix)) := hy
    replace hz : W.drew.frozen? ⟨go, ix.toNat, none⟩ = false := hz
    clear k0 hW HGo hwx hwx'
    generalize W.drew = W1 at hW1 hk hy hz ⊢
    go_upto_region 4 with (fail)
    obtain ⟨HP, HG⟩ := Kd.R_putg hW1.own ix (pushByte (rdOf 0 xs ix) at_ bit)
    have hW2 : Wr w0 (W1.setCell ⟨go, ix.toNat, none⟩ (.int .u8 (pushByte (rdOf 0 xs ix) at_ bit))) g (xs.set ix.toNat (pushByte (rdOf 0 xs ix) at_ bit)) n (.slice (some ⟨go, 0, none⟩) xs.length c1) :=
      ⟨blk_far hW1.blk (p := ⟨go, ix.toNat, none⟩) (fun e => hne e.symm) _, hW1.hg, HP, below_set hW1.bel gb⟩
    replace hk := hk.grown hW1.own HG
    change Code.wp _ _ _ _ (W1.setCell ⟨go, ix.toNat, none⟩ (.int .u8 (pushByte (rdOf 0 xs ix) at_ bit)))
    generalize W1.setCell ⟨go, ix.toNat, none⟩ (.int .u8 (pushByte (rdOf 0 xs ix) at_ bit)) = W2 at hW2 hk ⊢
    clear HP HG hy hz hW1
    have k1 : W2.cell? ⟨g, 1, none⟩ = some (.int .i64 n) := (blk_cell hW2.blk 1).trans rfl
    have f1 := blk_frozen hW2.blk 1
    go_wp2
    go_end0
    refine ⟨rfl, .slice (some ⟨go, 0, none⟩) xs.length c1, ?_, hk.set_ 1 _⟩
    have he : pushBits bs n bit = xs.set ix.toNat (pushByte (rdOf 0 xs ix) at_ bit) := by
      rw [pushBits, hat.out, ← hx.out, hix.out]
    rw [he]
    exact ⟨by simpa using blk_set hW2.blk 1 (.int .i64 (wrap64 (n + 1))), hW2.hg, Kd.R_far (p := ⟨g, 1, none⟩) hW2.own (fun k hk => hk) _, below_set hW2.bel hW2.hg⟩
  · have c0b : (at_ == 0) = false := beq_eq_false_iff_ne.mpr c0
    obtain ⟨xs, hxs⟩ : ∃ xs : List Int, xs = bs := ⟨_, rfl⟩
    rw [← hxs] at hI hl hb h0
    go_upto_region 3 with (fail)
    have hp : 0 < xs.length := List.length_pos_iff.mpr (hb c0)
    have hW := hI
    have hk := KeepT.refl w g
    have hl2 : xs.length ≤ 140737488355328 := by omega
    have hx : xs = if at_ = 0 then bs ++ [0] else bs := by rw [if_neg c0]; exact hxs
    clear h0 h1 f0 hI
    obtain ⟨go, co, eo, gb, gl, cl, HGo⟩ := Kd.R_form hW.own hp
    cases eo
    have hne : go ≠ g := hW.own.1 go rfl
    obtain ⟨ix, hix⟩ : ∃ i : Int, (xs.length : Int) - 1 = i := ⟨_, rfl⟩
    have hwx : wrap64 ((xs.length : Int) - 1) = ix := by rw [← hix]; exact wrap_in _ (by omega) (by omega)
    have p9 : 0 ≤ ix := by omega
    have q9 : ix < (xs.length : Int) := by omega
    obtain ⟨hy, hz⟩ := Kd.R_celln 0 hW.own ix p9 q9
    have k0 : w.cell? ⟨g, 0, none⟩ = some (.slice (some ⟨go, 0, none⟩) xs.length c) := (blk_cell hW.blk 0).trans rfl
    have ha7 : wrap64 (7 - at_) = 7 - at_ := wrap_in _ (by omega) (by omega)
    have hs7 : 0 ≤ 7 - at_ := by omega
    have hwx' : IntKind.i64.wrap ((xs.length : Int) - 1) = ix := (i64_w _).trans hwx
    have ha7' : IntKind.i64.wrap (7 - at_) = 7 - at_ := (i64_w _).trans ha7
    replace hx := Aside0.mk hx
    replace hix := Aside0.mk hix
    replace hat := Aside0.mk hat
    replace hc := Aside0.mk hc
    clear hxs
    try clear hL
    clear hl hl2
    go_still_tail 19, (by kernel_rfl)
    change wpList _ _ _ _ _ w.drew
    have hW1 := hW.drew
    replace hk := hk.drew
    replace hy : w.drew.cell? ⟨go, ix.toNat, none⟩ = some (.int .u8 (rdOf 0 xs ix)) := hy
    replace hz : w.drew.frozen? ⟨go, ix.toNat, none⟩ = false := hz
    clear k0 hW HGo hwx hwx'
    generalize w.drew = W1 at hW1 hk hy hz ⊢
    go_upto_region 4 with (fail)
    obtain ⟨HP, HG⟩ := Kd.R_putg hW1.own ix (pushByte (rdOf 0 xs ix) at_ bit)
    have hW2 : Wr w0 (W1.setCell ⟨go, ix.toNat, none⟩ (.int .u8 (pushByte (rdOf 0 xs ix) at_ bit))) g (xs.set ix.toNat (pushByte (rdOf 0 xs ix) at_ bit)) n (.slice (some ⟨go, 0, none⟩) xs.length c) :=
      ⟨blk_far hW1.blk (p := ⟨go, ix.toNat, none⟩) (fun e => hne e.symm) _, hW1.hg, HP, below_set hW1.bel gb⟩
    replace hk := hk.grown hW1.own HG
    change Code.wp _ _ _ _ (W1.setCell ⟨go, ix.toNat, none⟩ (.int .u8 (pushByte (rdOf 0 xs ix) at_ bit)))
    generalize W1.setCell ⟨go, ix.toNat, none⟩ (.int .u8 (pushByte (rdOf 0 xs ix) at_ bit)) = W2 at hW2 hk ⊢
    clear HP HG hy hz hW1
    have k1 : W2.cell? ⟨g, 1, none⟩ = some (.int .i64 n) := (blk_cell hW2.blk 1).trans rfl
    have f1 := blk_frozen hW2.blk 1
    go_wp2
    go_end0
    refine ⟨rfl, .slice (some ⟨go, 0, none⟩) xs.length c, ?_, hk.set_ 1 _⟩
    have he : pushBits bs n bit = xs.set ix.toNat (pushByte (rdOf 0 xs ix) at_ bit) := by
      rw [pushBits, hat.out, ← hx.out, hix.out]
    rw [he]
    exact ⟨by simpa using blk_set hW2.blk 1 (.int .i64 (wrap64 (n + 1))), hW2.hg, Kd.R_far (p := ⟨g, 1, none⟩) hW2.own (fun k hk => hk) _, below_set hW2.bel hW2.hg⟩
end Go.Proofs.YtblbieenfghbdaaDoor.D
