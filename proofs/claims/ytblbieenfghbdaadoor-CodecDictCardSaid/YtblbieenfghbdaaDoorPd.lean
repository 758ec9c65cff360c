/- The plain laws of codec's dictionary: the reference's Dict gives what dictStep gives; Undict gives the list back. -/
import Derived.Test.YtblbieenfghbdaaDoorKm
import Derived.Test.YtblbieenfghbdaaDoorPs
import Derived.Laws.Strings
import Derived.WideShapes
namespace Go.Proofs.YtblbieenfghbdaaDoor.D
open Go.RowKit Go.Proofs.YtblbieenfghbdaaDoorW.PrintWords
theorem text_eq {a b : ByteArray} : a.toList = b.toList ↔ a = b := by
  constructor
  · intro h
    rw [ByteArray.toList_eq, ByteArray.toList_eq] at h
    exact Go.WideShapes.bytes_inj h
  · rintro rfl; rfl
/-- The last place of a string among words, counted from i; else a. -/
def scan (x : ByteArray) : List ByteArray → Nat → Int → Int
  | [], _, a => a
  | t :: ts, i, a => scan x ts (i + 1) (if t = x then (i : Int) else a)
theorem scan_none (x : ByteArray) : ∀ (ts : List ByteArray) (i : Nat) (a : Int), x ∉ ts → scan x ts i a = a
  | [], _, _, _ => rfl
  | t :: ts, i, a, h => by
    rw [scan, if_neg (fun e => h (by rw [e]; exact List.mem_cons_self)), scan_none x ts _ _ (fun e => h (List.mem_cons_of_mem _ e))]
theorem scan_some (x : ByteArray) : ∀ (ts : List ByteArray) (i : Nat) (a : Int), x ∈ ts → ts.Nodup → scan x ts i a = ((i + ts.findIdx (fun t => decide (t = x)) : Nat) : Int)
  | [], _, _, h, _ => by cases h
  | t :: ts, i, a, h, hn => by
    rw [List.nodup_cons] at hn
    by_cases e : t = x
    · subst e
      rw [scan, if_pos rfl, scan_none t ts _ _ hn.1]
      simp [List.findIdx_cons]
    · rw [scan, if_neg e, scan_some x ts _ _ (by rcases List.mem_cons.1 h with h | h; exact absurd h.symm e; exact h) hn.2]
      simp only [List.findIdx_cons, e, decide_false, cond_false]
      omega
theorem rdOf_at {l pre post : List ByteArray} {x : ByteArray} (h : l = pre ++ x :: post) : rdOf ByteArray.empty l (pre.length : Int) = x := by
  subst h
  simp [rdOf]
/-- The inner loop's end: the place is a. -/
def refEnd (k : Nat) (x0 x4 : List ByteArray) (x5 : List Int) (x6 a : Int) : Option (List ByteArray × List Int) :=
  if a = (x4.length : Int) then (if 0 ≤ x6 then (if x6 < (x0.length : Int) then (if x4.length < 8796093022208 then (if x5.length < 17592186044416 then (intervalmonref15_Dict.l0 k x0 (x4 ++ [rdOf ByteArray.empty x0 x6]) (x5 ++ [a]) (wrap64 (x6 + 1))) else (none)) else (none)) else (none)) else (none)) else (if x5.length < 17592186044416 then (intervalmonref15_Dict.l0 k x0 x4 (x5 ++ [a]) (wrap64 (x6 + 1))) else (none))
theorem inner (x0 : List ByteArray) (x5 : List Int) (x6 : Int) (h0 : 0 ≤ x6) (h1 : x6 < (x0.length : Int)) (r : List ByteArray × List Int) :
    ∀ (ts pre x4 : List ByteArray) (a : Int), x4 = pre ++ ts → x4.length < 4611686018427387904 → Ev (fun k => refEnd k x0 x4 x5 x6 (scan (rdOf ByteArray.empty x0 x6) ts pre.length a)) r → Ev (fun k => intervalmonref15_Dict.l1 k x0 x4 x5 x6 a (pre.length : Int)) r
  | [], pre, x4, a, e, hl, h => by
    refine Ev.step (fun k => ?_) h
    rw [intervalmonref15_Dict.l1, if_neg (by rw [e]; simp), scan]
    rfl
  | t :: ts, pre, x4, a, e, hl, h => by
    have hlt : (pre.length : Int) < (x4.length : Int) := by rw [e]; simp; omega
    have hw : wrap64 ((pre.length : Int) + 1) = ((pre ++ [t]).length : Int) := by rw [wrap_at _ (by omega) (by omega)]; simp
    have ih := inner x0 x5 x6 h0 h1 r ts (pre ++ [t]) x4 (if t = rdOf ByteArray.empty x0 x6 then (pre.length : Int) else a) (by rw [e]; simp) hl (by
      have hle : (pre ++ [t]).length = pre.length + 1 := by simp
      rw [hle]
      rw [scan] at h
      exact h)
    refine Ev.step (fun k => ?_) ih
    rw [intervalmonref15_Dict.l1, if_pos hlt, if_pos (by omega), if_pos h0, if_pos h1, rdOf_at e, hw]
    by_cases ex : t = rdOf ByteArray.empty x0 x6
    · rw [if_pos (text_eq.2 ex), if_pos ex]
    · rw [if_neg (fun h => ex (text_eq.1 h)), if_neg ex]
theorem outer (x0 : List ByteArray) (hx0 : x0.length < 1000000) :
    ∀ (ts pre ws : List ByteArray) (out : List Int), x0 = pre ++ ts → ws.Nodup → ws.length ≤ pre.length → out.length = pre.length → Ev (fun k => intervalmonref15_Dict.l0 k x0 ws out (pre.length : Int)) (ts.foldl dictStep (ws, out))
  | [], pre, ws, out, e, hn, hw, ho => by
    refine Ev.step (fun k => ?_) (Ev.now _)
    rw [intervalmonref15_Dict.l0, if_neg (by rw [e]; simp)]
    rfl
  | x :: ts, pre, ws, out, e, hn, hw, ho => by
    have hlt : (pre.length : Int) < (x0.length : Int) := by rw [e]; simp; omega
    have hpl : pre.length < x0.length := by omega
    have hrd : rdOf ByteArray.empty x0 (pre.length : Int) = x := rdOf_at e
    have hww : wrap64 ((pre.length : Int) + 1) = ((pre ++ [x]).length : Int) := by rw [wrap_at _ (by omega) (by omega)]; simp
    rw [List.foldl_cons]
    have hin := inner x0 out (pre.length : Int) (by omega) hlt (ts.foldl dictStep (dictStep (ws, out) x)) ws [] ws (ws.length : Int) rfl (by omega)
    rw [hrd] at hin
    refine Ev.step (fun k => ?_) (hin ?_)
    · rw [intervalmonref15_Dict.l0, if_pos hlt]
      rfl
    · have hlen : (pre ++ [x]).length = pre.length + 1 := by simp
      by_cases hm : x ∈ ws
      · have hidx : ws.findIdx (fun t => decide (t = x)) < ws.length := List.findIdx_lt_length_of_exists ⟨x, hm, by simp⟩
        have hsc := scan_some x ws ([] : List ByteArray).length (ws.length : Int) hm hn
        simp only [List.length_nil, Nat.zero_add] at hsc
        have hst : dictStep (ws, out) x = (ws, out ++ [((ws.findIdx fun t => decide (t = x) : Nat) : Int)]) := by simp only [dictStep, (memB_iff ws x).2 hm, if_true]
        rw [hst]
        refine Ev.congr (fun k => ?_) (outer x0 hx0 ts (pre ++ [x]) ws _ (by rw [e]; simp) hn (by omega) (by rw [List.length_append, ho, hlen]; rfl))
        simp only [List.length_nil]
        rw [hsc, refEnd, if_neg (by omega), if_pos (by omega), hww]
      · have hsc := scan_none x ws ([] : List ByteArray).length (ws.length : Int) hm
        simp only [List.length_nil] at hsc
        have hmb : ¬ memB ws x = true := fun h => hm ((memB_iff ws x).1 h)
        have hst : dictStep (ws, out) x = (ws ++ [x], out ++ [(ws.length : Int)]) := by simp only [dictStep, hmb]; rfl
        rw [hst]
        refine Ev.congr (fun k => ?_) (outer x0 hx0 ts (pre ++ [x]) (ws ++ [x]) _ (by rw [e]; simp) (List.nodup_append.2 ⟨hn, by simp, fun a ha b hb => by simp at hb; subst hb; rintro rfl; exact hm ha⟩) (by simp; omega) (by rw [List.length_append, ho, hlen]; rfl))
        simp only [List.length_nil]
        rw [hsc, refEnd, if_pos rfl, if_pos (by omega), if_pos hlt, if_pos (by omega), if_pos (by omega), hrd, hww]
theorem ref_dict (l : List ByteArray) (hl : l.length < 1000000) : Ev (fun k => intervalmonref15_Dict.f k l) (l.foldl dictStep ([], [])) :=
  outer l hl l [] [] [] rfl List.nodup_nil (Nat.le_refl _) rfl
end Go.Proofs.YtblbieenfghbdaaDoor.D
