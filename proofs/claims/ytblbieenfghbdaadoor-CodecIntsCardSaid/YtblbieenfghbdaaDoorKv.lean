/- The call of bits.Writer's Bits, whose loop goes over the iterator bits.down: the iterator's contract, and the bits that come behind the stream. -/
import Derived.RangeFuncNested
import Derived.RangeFuncBound
import Derived.RangeFuncCalls
import Derived.RangeFuncLeaves
import Derived.RangeFuncFrom
import Derived.Shelf.Abstract
import Derived.Shelf.RegionOpen
import Derived.WalkKit
import Derived.OwnWalkIn
import Derived.TacticsInMore
import Derived.LoopNIn
import Derived.LoopIn
import Derived.Sort.LoopGhostIn
import Derived.Laws.BitsAllLaws
import Derived.Test.YtblbieenfghbdaaDoorKu
namespace Go.Proofs.YtblbieenfghbdaaDoor.D
open Go.RowKit Go.Shelf Go.Proofs.YtblbieenfghbdaaDoorW.PrintWords Go.Proofs.YtblbieenfghbdaaDoorW.PrintLast Go.Proofs.YtblbieenfghbdaaDoorW.PrintMore
attribute [local go_sem] Oper.semAt_some
set_option linter.unusedVariables false
set_option linter.unusedSimpArgs false
/-- The numbers below k, downwards. -/
def downs : Nat → List Nat
  | 0 => []
  | k + 1 => k :: downs k
theorem downs_length (k : Nat) : (downs k).length = k := by induction k with
  | zero => rfl
  | succ k ih => rw [downs, List.length_cons, ih]
set_option maxHeartbeats 4000000 in
set_option maxRecDepth 100000 in
/-- The closure that bits.down hands back yields the numbers below n, downwards. -/
theorem bits_down_stops (m : Nat) (hm : 1 ≤ m) (n : Nat) (hn : n ≤ 64) (Bn : Nat) (w : World) (hc : w.cell? ⟨Bn, 0, none⟩ = some (.int .i64 (n : Int))) :
    SeqStopsK Fence.wide m Tryd.prog 149 #[.pointer (some ⟨Bn, 0, none⟩)] (fun x : Nat => #[.int .i64 (x : Int)]) KeepsWalks (fun xs => xs = downs n) (fun pre => pre <+: downs n) n w := fun l J Jx W hW hJ hJx hY h0 => by
  have hcW : W.cell? ⟨Bn, 0, none⟩ = some (.int .i64 (n : Int)) := pw_cell_below hW hc
  have hn1 : wrap64 ((n : Int) - 1) = (n : Int) - 1 := wrap_in _ (by omega) (by omega)
  refine callsIn_of_wp Tryd.func149 rfl trivial ?_ rfl
  simp only [Tryd.ntmps149, List.size_toArray, List.length_cons, List.length_nil, Nat.reduceAdd, Nat.reduceSub, Array.replicate_succ, Array.replicate_zero, List.push_toArray, List.append_toArray, List.nil_append, List.cons_append]
  gi_wp2
  gi_loopw [3] (fun p wr => ∃ (k : Nat) (pre : List Nat), p = .int .i64 ((k : Int) - 1) ∧ k ≤ n ∧ downs n = pre ++ downs k ∧ J pre wr) (fun p wr => (intOf p + 1).toNat)
  case atStart => exact ⟨n, [], rfl, Nat.le_refl _, rfl, h0⟩
  case round =>
    obtain ⟨k, pre, rfl, hk, hp, hJs⟩ := hrel
    cases k with
    | zero =>
      gi_wp2
      go_end0
      exact ⟨⟨_, rfl⟩, .inl ⟨pre, by rw [hp, downs, List.append_nil], hJs⟩⟩
    | succ k =>
      obtain ⟨fn, tmps, assign, body, hy, hR⟩ := hY pre k wr hJs (by have h := congrArg List.length hp; rw [downs_length, List.length_append, downs_length] at h; omega)
      have hk1 : wrap64 (((k + 1 : Nat) : Int) - 1 - 1) = ((k + 1 : Nat) : Int) - 1 - 1 := wrap_in _ (by omega) (by omega)
      gi_wp2
      refine hR.mono ?_
      rintro e W3 (⟨rfl, hJ3, hk3⟩ | ⟨rfl, hJx3⟩)
      · gi_wp2
        go_roundw
        case rel => exact ⟨k, pre ++ [k], by simp [hk1], by omega, by rw [hp, downs]; simp, hJ3⟩
        case measure => simp [intOf]
      · gi_wp2
        refine bodyPost_ret (results_none rfl _ _ _) rfl ?_
        exact ⟨⟨_, rfl⟩, .inr ⟨pre ++ [k], ⟨downs k, by rw [hp, downs]; simp⟩, hJx3⟩⟩
/-- Whether bit i of a number is set. -/
def bitOf (z : Int) (i : Nat) : Bool := decide (bits .and .u64 (z / 2 ^ min i 64) 1 = 1)
theorem and_one (v : Int) (h0 : 0 ≤ v) (h1 : v < 18446744073709551616) : bits .and .u64 v 1 = v % 2 := by
  rw [u64_and v 1 h0 h1 (by decide) (by decide)]
  have : v.toNat &&& (1 : Int).toNat = v.toNat % 2 := Nat.and_one_is_mod _
  rw [this]
  omega
theorem bitOf_ok (z : Int) (i : Nat) (h0 : 0 ≤ z) (h1 : z < 18446744073709551616) : bits .and .u64 (z / 2 ^ min i 64) 1 = if bitOf z i then 1 else 0 := by
  have hp : (0 : Int) < 2 ^ min i 64 := Int.pow_pos (by decide)
  have a0 : 0 ≤ z / 2 ^ min i 64 := Int.ediv_nonneg h0 (by omega)
  have a1 : z / 2 ^ min i 64 < 18446744073709551616 := Int.lt_of_le_of_lt (Int.ediv_le_self _ h0) h1
  unfold bitOf
  rw [and_one _ a0 a1]
  have : (z / 2 ^ min i 64) % 2 = 0 ∨ (z / 2 ^ min i 64) % 2 = 1 := by omega
  rcases this with h | h <;> rw [h] <;> rfl

set_option maxHeartbeats 4000000 in
/-- bits.down: function 130: a closure over the number's box. -/
theorem bits_down.calls (n : Int) (w : World) :
    Calls Tryd.prog 130 #[.int .i64 n] w fun e w' => e = .returned (.func (.func 149) #[] #[.pointer (some ⟨w.heap.size, 0, none⟩)]) ∧ w' = w.alloc (.cells #[.int .i64 n] 3) := by
  go_enter Tryd.func130, Tryd.ntmps130
  go_wp2
  go_ret
  exact ⟨rfl, rfl⟩
/-- A block that is no row of cells turns: the writer stands. -/
theorem WrB.turn {w0 W W' : World} {g : Nat} {β : List Bool} {row : Option Nat} (h : WrB w0 W g β) (hg : W.grownBy W' row) (hr : ∀ r, row = some r → w0.heap.size ≤ r ∧ ∃ o : Obj, W.heap[r]? = some o ∧ o.isCells = false) : WrB w0 W' g β := by
  obtain ⟨v, hv⟩ := h
  have hne : ∀ k cs t fr, W.heap[k]? = some (.cells cs t fr) → some k ≠ row := fun k cs t fr hk e => by
    obtain ⟨_, o, ho, hc⟩ := hr k e.symm
    rw [hk] at ho
    cases ho
    cases hc
  have hown := Kd.R_bound hv.own
  have hK : Kept W W' (fun k => some k = row) := (Kept.refl W _).of_grown hg (fun k e => .inl e.symm)
  exact ⟨v, (hg.block g (blk_lt hv.blk) (hne g _ _ _ hv.blk)).trans hv.blk, hv.hg, Kd.R_mono (Kd.R_kept hown hK (fun k hk e => by obtain ⟨_, _, _, q, _, cs, hc⟩ := hk; exact hne k _ _ _ hc e)) (fun k hk => hk.1), pw_below_grown hv.bel row hv.bel.size hg (fun k e => (hr k e).1)⟩
theorem KeepT.turn {w W W' : World} {g : Nat} {row : Option Nat} (h : KeepT w W g) (hg : W.grownBy W' row) (hr : ∀ r, row = some r → w.heap.size ≤ r) : KeepT w W' g :=
  ⟨Nat.le_trans h.1 hg.size, fun i o hi hn ht => (hg.block i (blk_lt (h.2 i o hi hn ht)) (fun e => by have := hr i e.symm; have := blk_lt hi; omega)).trans (h.2 i o hi hn ht)⟩
theorem blk_turn {W W' : World} {k B : Nat} {cs : Array Value} {t : TypeId} {fr : Nat × Nat} {row : Option Nat} (h : W.heap[k]? = some (.cells cs t fr)) (hg : W.grownBy W' row) (hr : ∀ r, row = some r → B ≤ r ∧ ∃ o : Obj, W.heap[r]? = some o ∧ o.isCells = false) : W'.heap[k]? = some (.cells cs t fr) :=
  (hg.block k (blk_lt h) (fun e => by
    obtain ⟨_, o, ho, hc⟩ := hr k e.symm
    rw [h] at ho
    cases ho
    cases hc)).trans h
theorem WrB.drew {w0 W : World} {g : Nat} {β : List Bool} (h : WrB w0 W g β) : WrB w0 W.drew g β := by obtain ⟨v, hv⟩ := h; exact ⟨v, hv.drew⟩
theorem WrB.block {w0 W : World} {g : Nat} {β : List Bool} (h : WrB w0 W g β) : ∃ v n, W.heap[g]? = some (.cells #[v, n] 100 (0, 0)) := by obtain ⟨v, hv⟩ := h; exact ⟨_, _, hv.blk⟩
theorem KeepT.others {w W : World} {g : Nat} (h : KeepT w W g) {cs : Array Value} {t : TypeId} (hg : w.heap[g]? = some (.cells cs t (0, 0))) : KeepsOthers w W :=
  ⟨h.1, fun k o hk ho => h.2 k o hk (fun e => by rw [e, hg] at hk; cases hk; cases ho) (fun cs fr e => by subst e; cases ho)⟩
theorem KeepT.blk {w W : World} {g k : Nat} (h : KeepT w W g) {cs cs' : Array Value} {t t' : TypeId} (hk : w.heap[k]? = some (.cells cs t (0, 0))) (hg : w.heap[g]? = some (.cells cs' t' (0, 0))) (ht : t ≠ t') (h5 : t ≠ 5) : W.heap[k]? = some (.cells cs t (0, 0)) :=
  h.2 k _ hk (fun e => by rw [e, hg] at hk; injection hk with hk; injection hk with _ hk; exact ht hk.symm) (fun cs fr e => by injection e with _ e; exact h5 e)
/-! ### bits_Writer_Bits: function 101 -/
set_option maxHeartbeats 8000000 in
set_option maxRecDepth 100000 in
theorem bits_Writer_Bits.calls (g : Nat) (β : List Bool) (z c : Int) (w0 w : World) (hI : WrB w0 w g β) (z0 : 0 ≤ z) (z1 : z < 18446744073709551616) (c0 : 0 ≤ c) (c1 : c ≤ 64) (hl : β.length < 549755813888) :
    Calls Tryd.prog 101 #[.pointer (some ⟨g, 0, none⟩), .int .u64 z, .int .i64 c] w fun e w' => e = .returned (.tuple #[]) ∧ WrB w0 w' g (β ++ (downs c.toNat).map (bitOf z)) ∧ KeepT w w' g := by
  have hcl : bits_clamp.f c 64 = some c := by
    simp only [bits_clamp.f, mx, mn, Option.some.injEq]
    (repeat' split) <;> omega
  have hI' := Aside0.mk hI
  clear hI
  refine (callsIn_wide (n := 5)).1 ?_
  refine callsIn_of_wp_marks Tryd.func101 rfl trivial ?_ rfl
  simp only [Tryd.ntmps101, List.size_toArray, List.length_cons, List.length_nil, Nat.reduceAdd, Nat.reduceSub, Array.replicate_succ, Array.replicate_zero, List.push_toArray, List.append_toArray, List.nil_append, List.cons_append]
  gi_wp2_with (first | (refine ⟨trivial, ?_⟩; gi_at_call 128; refine (callsIn_wide.2 (bits_clamp.calls c 64 c _ hcl)).mono ?_; rintro e w1 ⟨rfl, hB1⟩) | (refine ⟨trivial, ?_⟩; gi_at_call 130; refine (callsIn_wide.2 (bits_down.calls c _)).mono ?_; rintro e w2 ⟨rfl, rfl⟩))
  obtain ⟨W0, hW0⟩ : ∃ W0, w1.alloc (.cells #[.int .i64 c] 3) = W0 := ⟨_, rfl⟩
  have hBa : Below w.heap.size w ((w.alloc (.cells #[.pointer (some ⟨g, 0, none⟩)] 102)).alloc (.cells #[.int .u64 z] 87)) := below_alloc (below_alloc (Below.refl _ _) _) _
  have hP0 : ((w.alloc (.cells #[.pointer (some ⟨g, 0, none⟩)] 102)).alloc (.cells #[.int .u64 z] 87)).heap[w.heap.size]? = some (.cells #[.pointer (some ⟨g, 0, none⟩)] 102 (0, 0)) := blk_alloc (by simpa using heap_alloc_new w (.cells #[.pointer (some ⟨g, 0, none⟩)] 102)) _
  have hQ0 : ((w.alloc (.cells #[.pointer (some ⟨g, 0, none⟩)] 102)).alloc (.cells #[.int .u64 z] 87)).heap[w.heap.size + 1]? = some (.cells #[.int .u64 z] 87 (0, 0)) := by simpa using heap_alloc_new (w.alloc (.cells #[.pointer (some ⟨g, 0, none⟩)] 102)) (.cells #[.int .u64 z] 87)
  have hs0 : ((w.alloc (.cells #[.pointer (some ⟨g, 0, none⟩)] 102)).alloc (.cells #[.int .u64 z] 87)).heap.size = w.heap.size + 2 := by simp
  generalize (w.alloc (.cells #[.pointer (some ⟨g, 0, none⟩)] 102)).alloc (.cells #[.int .u64 z] 87) = wA at hB1 hBa hP0 hQ0 hs0
  have hB2 : Below wA.heap.size wA W0 := by rw [← hW0]; exact below_alloc hB1 _
  have hP1 : W0.heap[w.heap.size]? = some (.cells #[.pointer (some ⟨g, 0, none⟩)] 102 (0, 0)) := (hB2.block _ (by omega)).trans hP0
  have hQ1 : W0.heap[w.heap.size + 1]? = some (.cells #[.int .u64 z] 87 (0, 0)) := (hB2.block _ (by omega)).trans hQ0
  have hB3 : Below w.heap.size w W0 := below_then hBa hBa.size hB2
  have hw0 : WrB w0 W0 g β := hI'.out.below hB3
  have hk0 : KeepT w W0 g := KeepT.below hB3 g
  have hc0 : W0.cell? ⟨w1.heap.size, 0, none⟩ = some (.int .i64 ((c.toNat : Nat) : Int)) := by
    rw [← hW0, show ((c.toNat : Nat) : Int) = c by omega]
    exact (blk_cell (by simpa using heap_alloc_new w1 (.cells #[.int .i64 c] 3)) 0).trans rfl
  have hsz : w.heap.size + 2 ≤ W0.heap.size := by have := hB2.size; omega
  rw [hW0]
  clear hBa hP0 hQ0 hB1 hI'
  have hN : c.toNat ≤ 64 := by omega
  refine wpIn_rangeFunc_ownF rfl (by omega) (gf := 149) (lb := #[.pointer (some ⟨w1.heap.size, 0, none⟩)]) rfl trivial (enters_of Tryd.func149 (by kernel_rfl) rfl)
    (bits_down_stops 4 (by omega) c.toNat hN w1.heap.size W0 hc0) walksK_t walksK_b (Below.refl _ _) (fun _ => rfl)
    (fun pre W => (WrB w0 W g (β ++ pre.map (bitOf z)) ∧ KeepT w W g) ∧ W.heap[w.heap.size]? = some (.cells #[.pointer (some ⟨g, 0, none⟩)] 102 (0, 0)) ∧ W.heap[w.heap.size + 1]? = some (.cells #[.int .u64 z] 87 (0, 0)))
    (fun _ _ _ => False)
    (fun s A B row hs hg hr => ⟨⟨hs.1.1.turn hg (fun r e => ⟨Nat.le_trans hw0.bel.size (hr r e).1, (hr r e).2⟩), hs.1.2.turn hg (fun r e => Nat.le_trans hB3.size (hr r e).1)⟩, blk_turn hs.2.1 hg hr, blk_turn hs.2.2 hg hr⟩)
    (fun _ _ _ _ _ hs _ _ => hs)
    ⟨⟨by simpa using hw0, hk0⟩, hP1, hQ1⟩
    (fun x => { tmps := #[.pointer (some ⟨g, 0, none⟩), .int .u64 z, .int .i64 c, .pointer (some ⟨w.heap.size, 0, none⟩), .pointer (some ⟨w.heap.size + 1, 0, none⟩), undef, .int .i64 (x : Int), .int .i64 c, .int .i64 c, .func (.func 149) #[] #[.pointer (some ⟨w1.heap.size, 0, none⟩)], .int .i64 (x : Int), undef, undef, undef, undef, undef], defers := [] }) ?assign ?body ?done ?stop
  case assign =>
    intro l x W K hK
    gi_wp2
    exact hK
  case body =>
    rintro l pre x W ⟨⟨hw, hk⟩, hP, hQ⟩ hlen
    have cP : W.cell? ⟨w.heap.size, 0, none⟩ = some (.pointer (some ⟨g, 0, none⟩)) := (blk_cell hP 0).trans rfl
    have cQ : W.cell? ⟨w.heap.size + 1, 0, none⟩ = some (.int .u64 z) := (blk_cell hQ 0).trans rfl
    have hmx : Tryd.prog.follows .mixedOrders = true := by kernel_rfl
    have hl2 : (β ++ pre.map (bitOf z)).length < 1099511627776 := by rw [List.length_append, List.length_map]; omega
    gi_wp2
    gi_region_with_o (refine ⟨trivial, ?_⟩; gi_at_call 129; refine (CallsIn.inRound l (callsIn_wide.2 (bits_Writer_pushB.calls g (β ++ pre.map (bitOf z)) (bitOf z x) _ w0 _ hw.drew (bitOf_ok z x z0 z1) hl2))).mono ?_; rintro e w' ⟨rfl, hw2, hk2⟩)
    all_goals gi_wp2
    all_goals
      have hgb := hw.block
      obtain ⟨v, n, hgb⟩ := hgb
      replace hk2 : KeepT W w' g := hk2
      refine ⟨hk2.others hgb, (hk2.others hgb).walks, ⟨?_, hk.trans hk2⟩, hk2.blk hP hgb (by decide) (by decide), hk2.blk hQ hgb (by decide) (by decide)⟩
      rw [List.map_append, List.map_cons, List.map_nil, ← List.append_assoc]
      exact hw2
  case done =>
    rintro D xs W hD rfl ⟨⟨hw, hk⟩, _⟩ hK
    gi_wp2
    refine ⟨by simp, .inl ⟨_, _, rfl, run_takeDeferred hK, ?_⟩⟩
    refine ⟨_, results_none rfl _ _ _, rfl, ?_, ?_⟩
    · exact hw.turn (grownBy_putObj' W D _) (fun r e => by cases e; exact ⟨Nat.le_trans hw0.bel.size hD, _, hK, rfl⟩)
    · exact hk.turn (grownBy_putObj' W D _) (fun r e => by cases e; exact Nat.le_trans hB3.size hD)
  case stop =>
    rintro D c pre W _ _ h _
    exact h.elim
end Go.Proofs.YtblbieenfghbdaaDoor.D
