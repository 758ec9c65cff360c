/- The plain laws of codec.Undict, and what a dictionary's places lead back to. -/
import Derived.Test.YtblbieenfghbdaaDoorPd
namespace Go.Proofs.YtblbieenfghbdaaDoor.D
open Go.RowKit Go.Proofs.YtblbieenfghbdaaDoorW.PrintWords
theorem rd_at {l pre post : List Int} {x : Int} (h : l = pre ++ x :: post) : rd l (pre.length : Int) = x := by
  subst h
  simp [rd]
/-- Undict over places that lead somewhere. -/
theorem undict_ok (ws : List ByteArray) (l : List Int) (hl : l.length < 1000000) :
    ∀ (ts pre : List Int) (out : List ByteArray), l = pre ++ ts → out.length = pre.length → (∀ i, i ∈ ts → 0 ≤ i ∧ i < (ws.length : Int)) → Ev (fun k => codec_Undict.l0 k ws out l (l.length : Int) (pre.length : Int)) (out ++ ts.map (rdOf ByteArray.empty ws), 0)
  | [], pre, out, e, ho, hr => by
    refine Ev.step (fun k => ?_) (Ev.now _)
    rw [codec_Undict.l0, if_neg (by rw [e]; simp)]
    simp
  | x :: ts, pre, out, e, ho, hr => by
    have hlt : (pre.length : Int) < (l.length : Int) := by rw [e]; simp; omega
    have hpl : pre.length < l.length := by omega
    have hx := hr x List.mem_cons_self
    have hww : wrap64 ((pre.length : Int) + 1) = ((pre ++ [x]).length : Int) := by rw [wrap_at _ (by omega) (by omega)]; simp
    have ih := undict_ok ws l hl ts (pre ++ [x]) (out ++ [rdOf ByteArray.empty ws x]) (by rw [e]; simp) (by simp [ho]) (fun i hi => hr i (List.mem_cons_of_mem _ hi))
    rw [List.append_assoc] at ih
    refine Ev.step (fun k => ?_) ih
    rw [codec_Undict.l0, if_pos hlt, if_pos (by omega), if_pos hlt, rd_at e, if_neg (by omega), if_neg (by omega), if_pos hx.1, if_pos hx.2, if_pos (by omega), hww]
/-- Undict over places of which the last leads nowhere. -/
theorem undict_bad (ws : List ByteArray) (l : List Int) (hl : l.length < 1000000) (n : Int) (hn : n < 0 ∨ (ws.length : Int) ≤ n) :
    ∀ (ts pre : List Int) (out : List ByteArray), l = pre ++ (ts ++ [n]) → out.length = pre.length → (∀ i, i ∈ ts → 0 ≤ i ∧ i < (ws.length : Int)) → Ev (fun k => codec_Undict.l0 k ws out l (l.length : Int) (pre.length : Int)) (([] : List ByteArray), 1)
  | [], pre, out, e, ho, hr => by
    have hlt : (pre.length : Int) < (l.length : Int) := by rw [e]; simp; omega
    refine Ev.step (fun k => ?_) (Ev.now _)
    rw [codec_Undict.l0, if_pos hlt, if_pos (by omega), if_pos hlt, rd_at e]
    by_cases h : n < 0
    · rw [if_pos h]
    · rw [if_neg h, if_pos (by omega)]
  | x :: ts, pre, out, e, ho, hr => by
    have hlt : (pre.length : Int) < (l.length : Int) := by rw [e]; simp; omega
    have hpl : pre.length < l.length := by omega
    have hx := hr x List.mem_cons_self
    have hww : wrap64 ((pre.length : Int) + 1) = ((pre ++ [x]).length : Int) := by rw [wrap_at _ (by omega) (by omega)]; simp
    have ih := undict_bad ws l hl n hn ts (pre ++ [x]) (out ++ [rdOf ByteArray.empty ws x]) (by rw [e]; simp) (by simp [ho]) (fun i hi => hr i (List.mem_cons_of_mem _ hi))
    refine Ev.step (fun k => ?_) ih
    rw [codec_Undict.l0, if_pos hlt, if_pos (by omega), if_pos hlt, rd_at (x := x) (post := ts ++ [n]) e, if_neg (by omega), if_neg (by omega), if_pos hx.1, if_pos hx.2, if_pos (by omega), hww]
/-- What a dictionary under way says: its places lead back. -/
structure Back (pre ws : List ByteArray) (out : List Int) : Prop where
  range : ∀ i, i ∈ out → 0 ≤ i ∧ i < (ws.length : Int)
  back : out.map (rdOf ByteArray.empty ws) = pre
  len : ws.length ≤ pre.length
theorem rdOf_app (ws vs : List ByteArray) (i : Int) (h0 : 0 ≤ i) (h1 : i < (ws.length : Int)) : rdOf ByteArray.empty (ws ++ vs) i = rdOf ByteArray.empty ws i := by
  simp only [rdOf, List.getD_eq_getElem?_getD]
  rw [List.getElem?_append_left (by omega)]
theorem Back.step {pre ws : List ByteArray} {out : List Int} (h : Back pre ws out) (x : ByteArray) : Back (pre ++ [x]) (dictStep (ws, out) x).1 (dictStep (ws, out) x).2 := by
  by_cases hm : x ∈ ws
  · have hst : dictStep (ws, out) x = (ws, out ++ [((ws.findIdx fun t => decide (t = x) : Nat) : Int)]) := by simp only [dictStep, (memB_iff ws x).2 hm, if_true]
    have hidx : ws.findIdx (fun t => decide (t = x)) < ws.length := List.findIdx_lt_length_of_exists ⟨x, hm, by simp⟩
    have hat : rdOf ByteArray.empty ws ((ws.findIdx fun t => decide (t = x) : Nat) : Int) = x := by
      have := List.findIdx_getElem (xs := ws) (p := fun t => decide (t = x)) (w := hidx)
      simp only [decide_eq_true_eq] at this
      rw [rdOf, Int.toNat_natCast, List.getD_eq_getElem?_getD, List.getElem?_eq_getElem hidx]
      exact this
    rw [hst]
    refine ⟨fun i hi => ?_, by rw [List.map_append, h.back, List.map_cons, hat]; rfl, by simp; have := h.len; omega⟩
    rcases List.mem_append.1 hi with hi | hi
    · exact h.range i hi
    · simp at hi; subst hi; simp; omega
  · have hmb : ¬ memB ws x = true := fun h => hm ((memB_iff ws x).1 h)
    have hst : dictStep (ws, out) x = (ws ++ [x], out ++ [(ws.length : Int)]) := by simp only [dictStep, hmb]; rfl
    rw [hst]
    refine ⟨fun i hi => ?_, ?_, by simp; exact h.len⟩
    · rcases List.mem_append.1 hi with hi | hi
      · have := h.range i hi; simp; omega
      · simp at hi; subst hi; simp; omega
    · rw [List.map_append]
      have e1 : out.map (rdOf ByteArray.empty (ws ++ [x])) = out.map (rdOf ByteArray.empty ws) := List.map_congr_left (fun i hi => rdOf_app ws [x] i (h.range i hi).1 (h.range i hi).2)
      have e2 : rdOf ByteArray.empty (ws ++ [x]) (ws.length : Int) = x := rdOf_at rfl
      rw [e1, h.back, List.map_cons, e2]
      rfl
theorem Back.fold : ∀ (ts pre ws : List ByteArray) (out : List Int), Back pre ws out → Back (pre ++ ts) (ts.foldl dictStep (ws, out)).1 (ts.foldl dictStep (ws, out)).2
  | [], pre, ws, out, h => by simpa using h
  | x :: ts, pre, ws, out, h => by
    have ih := Back.fold ts (pre ++ [x]) _ _ (h.step x)
    rw [List.append_assoc] at ih
    exact ih
theorem back_all (l : List ByteArray) : Back l (l.foldl dictStep ([], [])).1 (l.foldl dictStep ([], [])).2 :=
  Back.fold l [] [] [] ⟨fun i h => (by cases h), rfl, Nat.le_refl _⟩
end Go.Proofs.YtblbieenfghbdaaDoor.D
