/- The call of codec.Dict comes to what codec_Dict.f gives, in new memory, whenever that function gives a result. -/
import Derived.Test.YtblbieenfghbdaaDoorDxA
import Derived.Maps.Own
import Derived.Maps.OwnOps
import Derived.Maps.OwnSet
import Derived.Maps.Views
namespace Go.Proofs.YtblbieenfghbdaaDoor.D
open Go.RowKit Go.Maps Go.WideMaps Go.Proofs.YtblbieenfghbdaaDoorW.PrintWords Go.Proofs.YtblbieenfghbdaaDoorW.PrintLast Go.Proofs.YtblbieenfghbdaaDoorW.PrintMore
set_option linter.unusedVariables false
set_option linter.unusedSimpArgs false
theorem law9 : Keyed Tryd.prog 9 := string_keyed Tryd.underlying9
theorem zeroE3 (w : World) : (zeroValue 3).run Tryd.prog w = .ok (.int .i64 0) w := by kernel_rfl
/-- Whether a string is among the words. -/
def memB (ws : List ByteArray) (x : ByteArray) : Bool := ws.any fun t => decide (t = x)
theorem memB_iff (ws : List ByteArray) (x : ByteArray) : memB ws x = true ↔ x ∈ ws := by simp [memB]
/-- One more string: its place among the words. -/
def dictStep (s : List ByteArray × List Int) (x : ByteArray) : List ByteArray × List Int :=
  if memB s.1 x = true then (s.1, s.2 ++ [((s.1.findIdx fun t => decide (t = x) : Nat) : Int)]) else (s.1 ++ [x], s.2 ++ [(s.1.length : Int)])
/-- The words of a list, and the list as their places. -/
def codec_Dict.f (l0 : List ByteArray) : Option (List ByteArray × List Int) :=
  if l0.length ≤ 4294967296 ∧ ∀ s, s ∈ l0 → s.size ≤ maxLen then some (l0.foldl dictStep ([], [])) else none
/-- What the map holds: the words, each at its place. -/
structure Told (D : DataW Unit) (ws : List ByteArray) : Prop where
  has : ∀ s : ByteArray, Maps.has D (.string s.data.toList) = memB ws s
  at_ : ∀ s : ByteArray, s ∈ ws → D.atKey (.string s.data.toList) (.lit (.int .i64 0)) = .lit (.int .i64 ((ws.findIdx fun t => decide (t = s) : Nat) : Int))
  isMap : IsMap D
theorem key_inj {s t : ByteArray} (h : (Lit.string s.data.toList) = Lit.string t.data.toList) : s = t := by
  injection h with h
  cases s; cases t
  exact congrArg ByteArray.mk (Array.toList_inj.mp h)
theorem Told.nil : Told (.map []) [] := ⟨fun s => rfl, fun s h => (by cases h), ⟨[], rfl⟩⟩
theorem Told.put {D : DataW Unit} {ws : List ByteArray} (h : Told D ws) {x : ByteArray} (hx : x ∉ ws) : Told (D.put (.string x.data.toList) (.lit (.int .i64 (ws.length : Int)))) (ws ++ [x]) := by
  have hkl : WideAt.IsKeyLit (.string x.data.toList) := by first | trivial | decide | simp [WideAt.IsKeyLit]
  refine ⟨fun s => ?_, fun s hs => ?_, ?_⟩
  · by_cases e : s = x
    · subst e; rw [has_put_same h.isMap hkl]; simp [memB]
    · rw [has_put_other (fun e2 => e (key_inj e2)), h.has]; simp [memB, show ¬ x = s from fun e2 => e e2.symm]
  · by_cases e : s = x
    · subst e
      rw [atKey_put_same h.isMap hkl]
      have : (ws ++ [s]).findIdx (fun t => decide (t = s)) = ws.length := by
        rw [List.findIdx_append]
        have hn : ws.findIdx (fun t => decide (t = s)) = ws.length := List.findIdx_eq_length.2 (fun t ht => by simp; rintro rfl; exact hx ht)
        rw [hn]; simp
      rw [this]
    · rw [atKey_put_other (fun e2 => e (key_inj e2))]
      have hs' : s ∈ ws := by simpa [e] using hs
      rw [h.at_ s hs']
      have hlt : ws.findIdx (fun t => decide (t = s)) < ws.length := List.findIdx_lt_length_of_exists ⟨s, hs', by simp⟩
      rw [List.findIdx_append, if_pos hlt]
  · obtain ⟨es, rfl⟩ := h.isMap
    exact ⟨_, rfl⟩

/-- The map, the words' row and the places' row of a round. -/
structure DI (w W : World) (B n : Nat) (v4 v5 : Value) (ws : List ByteArray) (out : List Int) (D : DataW Unit) : Prop where
  map : W.ownsMap Tryd.prog 9 (plainElem Tryd.prog 3) B n D
  told : Told D ws
  wsR : Kd.R Kd.string 9 W w.heap.size (fun _ => True) v4 ws
  outR : Kd.R (Kd.int .i64) 3 W w.heap.size (fun _ => True) v5 out
  bel : Below w.heap.size w W
  hB : w.heap.size ≤ B
theorem DI.mapAt {w W : World} {B n : Nat} {v4 v5 : Value} {ws : List ByteArray} {out : List Int} {D : DataW Unit} (h : DI w W B n v4 v5 ws out D) : ∃ es cl, W.heap[B]? = some (.map es cl) := by
  obtain ⟨es, cl, hb, _⟩ := h.map
  exact ⟨es, cl, hb⟩
theorem own_ne_map {α : Type} {d : Kd α} {e : Nat} {W : World} {base : Nat} {ok : Nat → Prop} {v : Value} {xs : List α} {B : Nat} {es : Array MapEntry} {cl : Nat} (h : d.R e W base ok v xs) (hm : W.heap[B]? = some (.map es cl)) : some B ≠ v.ownBlock := fun e_ => by
  obtain ⟨_, _, _, q, _, cs, hc⟩ := (Kd.R_bound h).1 B e_.symm
  rw [hm] at hc
  cases hc
theorem own_ne_own {α β : Type} {d : Kd α} {d' : Kd β} {e e' : Nat} {W : World} {base base' : Nat} {ok ok' : Nat → Prop} {v v' : Value} {xs : List α} {ys : List β} (h : d.R e W base ok v xs) (h' : d'.R e' W base' ok' v' ys) (hE : d.E = []) (hE' : d'.E = []) (hne : e ≠ e') : ∀ k, v.ownBlock = some k → some k ≠ v'.ownBlock := fun k hk hk' => by
  obtain ⟨_, _, _, q, hq, cs, hc⟩ := (Kd.R_bound h).1 k hk
  obtain ⟨_, _, _, q', hq', cs', hc'⟩ := (Kd.R_bound h').1 k hk'.symm
  rw [hE] at hq
  rw [hE'] at hq'
  rw [hc] at hc'
  have e1 : q = e := by simpa using hq
  have e2 : q' = e' := by simpa using hq'
  injection hc' with hc'
  injection hc' with _ hc'
  exact hne (by rw [← e1, ← e2]; exact hc')
theorem DI.store {w W W1 : World} {B n m : Nat} {v4 v5 : Value} {ws ws' : List ByteArray} {out : List Int} {D D' : DataW Unit} (h : DI w W B n v4 v5 ws out D) (hm : W1.ownsMap Tryd.prog 9 (plainElem Tryd.prog 3) B m D') (hg : W.grownBy W1 (some B)) :
    Kd.R Kd.string 9 W1 w.heap.size (fun _ => True) v4 ws ∧ Kd.R (Kd.int .i64) 3 W1 w.heap.size (fun _ => True) v5 out ∧ Below w.heap.size w W1 := by
  obtain ⟨es, cl, hb⟩ := h.mapAt
  exact ⟨Kd.R_grown2 h.wsR rfl hg (fun k e => by cases e; exact own_ne_map h.wsR hb), Kd.R_grown2 h.outR rfl hg (fun k e => by cases e; exact own_ne_map h.outR hb), pw_below_grown h.bel (some B) h.bel.size hg (fun k e => by cases e; exact h.hB)⟩
theorem wrap_in' (x : Int) (h : -9223372036854775808 ≤ x) (h2 : x < 9223372036854775808) : wrap64 x = x := by unfold wrap64; omega
/-! ### codec_Dict: function 26 -/
set_option maxHeartbeats 8000000 in
set_option maxRecDepth 100000 in
theorem codec_Dict.calls (A0 : Option Addr) (c0 : Nat) (l0 : List ByteArray) (r1 : List ByteArray) (r2 : List Int) (w : World) (hr0 : Kd.C Kd.string w A0 l0.length l0) (hc0 : l0.length ≤ c0) (h : codec_Dict.f l0 = some (r1, r2)) :
    Calls Tryd.prog 26 #[.slice A0 l0.length c0] w fun e w' => ∃ v0_ v1_ : Value, e = .returned (.tuple #[v0_, v1_]) ∧ Kd.R Kd.string 9 w' w.heap.size (fun _ => True) v0_ r1 ∧ Kd.R (Kd.int .i64) 3 w' w.heap.size (fun _ => True) v1_ r2 ∧ Below w.heap.size w w' := by
  unfold codec_Dict.f at h
  have hl : l0.length ≤ 4294967296 ∧ ∀ s, s ∈ l0 → s.size ≤ maxLen := by
    by_cases hl : l0.length ≤ 4294967296 ∧ ∀ s, s ∈ l0 → s.size ≤ maxLen
    · exact hl
    · rw [if_neg hl] at h; cases h
  rw [if_pos hl] at h
  have HT := Aside0.mk (Option.some.inj h)
  have HS := Aside0.mk hl.2
  have hl1 := hl.1
  clear h hl
  have hmm := @run_makeMap Tryd.prog
  go_enter Tryd.func26, Tryd.ntmps26
  go_wp2
  have hD0 : DI w (w.alloc (.map #[] 0)) w.heap.size 0 (.slice none 0 0) (.slice none 0 0) [] [] (.map []) :=
    ⟨World.ownsMap_made _ _ _ _, Told.nil, Kd.R_nil _ _ _ _ _, Kd.R_nil _ _ _ _ _, below_alloc (Below.refl _ _) _, Nat.le_refl _⟩
  generalize w.alloc (.map #[] 0) = w1 at hD0 ⊢
  obtain ⟨B, hB⟩ : ∃ B, w.heap.size = B := ⟨_, rfl⟩
  have hD1 : Aside0 (DI w w1 B 0 (.slice none 0 0) (.slice none 0 0) [] [] (.map [])) := ⟨hB ▸ hD0⟩
  rw [hB]
  clear hD0 hB hmm
  go_loopg [4, 5, 14] l0.length (fun kq v4 v5 v14 w' => ∃ (i n : Nat) (ws : List ByteArray) (out : List Int) (D : DataW Unit), v14 = .int .i64 (i : Int) ∧ Aside0 (DI w w' B n v4 v5 ws out D) ∧ Aside0 (i + kq = l0.length ∧ n ≤ i ∧ ws.length ≤ i ∧ out.length = i) ∧ Aside0 ((l0.drop i).foldl dictStep (ws, out) = (r1, r2)))
  case atStart => exact ⟨0, 0, [], [], _, rfl, hD1, ⟨by omega, by omega, Nat.le_refl _, rfl⟩, HT⟩
  case round =>
    clear hD1 HT
    obtain ⟨i, n, ws, out, D, rfl, hd, hi, hf⟩ := hrel
    cases gk with
    | zero =>
      have e1 : l0.length ≤ i := by have := hi.out; omega
      have c1 : decide ((i : Int) < (l0.length : Int)) = false := decide_eq_false (by omega)
      have c2 : decide (i < l0.length) = false := decide_eq_false (by omega)
      have hfin := hf.out
      rw [List.drop_eq_nil_of_le e1, List.foldl_nil] at hfin
      injection hfin with h1 h2
      subst h1
      subst h2
      go_wp2
      go_ret2
      exact ⟨_, _, rfl, hd.out.wsR, hd.out.outR, hd.out.bel⟩
    | succ m =>
      have p0 : (0 : Int) ≤ (i : Int) := by omega
      have q0 : (i : Int) < (l0.length : Int) := by have := hi.out; omega
      have c1 : decide ((i : Int) < (l0.length : Int)) = true := decide_eq_true q0
      have c2 : decide (i < l0.length) = true := decide_eq_true (by omega)
      have c3 : i < l0.length := by omega
      obtain ⟨ad, e, hx⟩ := Kd.at_string hr0 (i : Int) p0 q0
      subst e
      have hx1 := pw_cell_below hd.out.bel hx
      rw [Int.toNat_natCast] at hx1
      have hdrop : l0.drop i = rdOf ByteArray.empty l0 (i : Int) :: l0.drop (i + 1) := by
        rw [List.drop_eq_getElem_cons c3, rdOf, Int.toNat_natCast, List.getD_eq_getElem?_getD, List.getElem?_eq_getElem c3]; rfl
      have hmem : rdOf ByteArray.empty l0 (i : Int) ∈ l0 := by
        rw [rdOf, Int.toNat_natCast, List.getD_eq_getElem?_getD, List.getElem?_eq_getElem c3]; exact List.getElem_mem c3
      have hsz := HS.out _ hmem
      have hf' := hf.out
      rw [hdrop, List.foldl_cons] at hf'
      clear hmem hdrop
      obtain ⟨x, hxx⟩ : ∃ x, rdOf ByteArray.empty l0 (i : Int) = x := ⟨_, rfl⟩
      rw [hxx] at hx1 hf' hsz
      clear hxx hx hf
      have hkey : keyOf Tryd.prog 9 (.string x) = some (.string x.data.toList) := keyOf_string_mk Tryd.underlying9 hsz
      have hi1 : wrap64 ((i : Int) + 1) = (i : Int) + 1 := wrap_in' _ (by omega) (by omega)
      obtain ⟨A4, c4, rfl⟩ := Kd.R_slice hd.out.wsR
      cases hm : memB ws x with
      | true =>
        have hhas : Maps.has D (.string x.data.toList) = true := by rw [hd.out.told.has, hm]
        have hstep : dictStep (ws, out) x = (ws, out ++ [((ws.findIdx fun t => decide (t = x) : Nat) : Int)]) := by simp only [dictStep, hm, if_true]
        rw [hstep] at hf'
        replace hf' := Aside0.mk hf'
        have hatx := Aside0.mk (hd.out.told.at_ x ((memB_iff ws x).1 hm))
        clear hm hstep
        go_wp2_with (first | (at_lookup; refine wpList_lookup_own_ok_int _ rfl _ _ 121 rfl 9 3 .i64 law9 Tryd.underlying121 Tryd.underlying3 (zeroE3 _) B n D rfl hd.out.map _ (.string x.data.toList) rfl hkey ?_; intro c hat hwc; have hat' := Aside0.mk hat; clear hat hwc) | ((with_reducible refine gate_builtin (b := .append) (xs := #[.tmp 35, .tmp 37]) rfl ?_); at_builtin; refine Kd.R_append (Kd.int .i64) (w0 := w) w.heap.size rfl (.tmp 35) (.tmp 37) 22 3 (.int .i64 0) 8 rfl Tryd.underlying22 info3 rfl (by decide) (by omega) u5 out c [.int .i64 c] (fun _ => True) (fun _ => False) rfl rfl rfl (fun _ hk => hk.elim) (fun _ _ => trivial) hd.out.outR hd.out.bel hd.out.bel.size (by have := hi.out; omega) ?_; intro v7 w7 ho7 hb7 hg7 hat7))
        have hc : c = ((ws.findIdx fun t => decide (t = x) : Nat) : Int) := by
          have h1 := hat'.out
          rw [hatx.out] at h1
          injection h1 with h1
          injection h1 with h1 h2
          exact h2.symm
        rw [← hc] at hf'
        obtain ⟨es, cl, hb⟩ := hd.out.mapAt
        have hd7 : DI w w7 B n (.slice A4 ws.length c4) v7 ws (out ++ [c]) D :=
          ⟨hd.out.map.kept hg7 (own_ne_map hd.out.outR hb), hd.out.told, Kd.R_grown2 hd.out.wsR rfl hg7 (own_ne_own hd.out.outR hd.out.wsR rfl rfl (by decide)), ho7, hb7, hd.out.hB⟩
        go_roundg m
        case measure => omega
        case rel => exact ⟨i + 1, n, ws, out ++ [c], D, by simp, ⟨hd7⟩, ⟨by have := hi.out; simp; omega⟩, hf'⟩
      | false =>
        have hhas : Maps.has D (.string x.data.toList) = false := by rw [hd.out.told.has, hm]
        have hnm : x ∉ ws := fun e => by rw [(memB_iff ws x).2 e] at hm; cases hm
        have hstep : dictStep (ws, out) x = (ws ++ [x], out ++ [(ws.length : Int)]) := by simp only [dictStep, hm]; rfl
        rw [hstep] at hf'
        replace hf' := Aside0.mk hf'
        clear hm hstep
        have hwf : (Lit.int .i64 (ws.length : Int)).wf = true := WalkArith.wf_i64 (by have := hi.out; omega)
        have hnx : n < maxLen := by unfold maxLen; have := hi.out; omega
        go_wp2_with (first | (at_lookup; refine wpList_lookup_own_ok_int _ rfl _ _ 121 rfl 9 3 .i64 law9 Tryd.underlying121 Tryd.underlying3 (zeroE3 _) B n D rfl hd.out.map _ (.string x.data.toList) rfl hkey ?_; intro c hat hwc; clear hat hwc) | (at_mapUpdate; refine wpList_mapUpdate_own _ rfl _ _ _ 121 rfl 9 3 law9 Tryd.underlying121 (plainElem Tryd.prog 3) B n D rfl hd.out.map hnx _ _ (.string x.data.toList) rfl rfl hkey (.lit (.int .i64 (ws.length : Int))) [] (plainElem_int Tryd.underlying3 hwf) ?_; intro w5 hown5 hgrow5; have hst := hd.out.store (ws' := ws) hown5 hgrow5; obtain ⟨es5, cl5, hb5, _⟩ := id hown5) | ((with_reducible refine gate_builtin (b := .append) (xs := #[.tmp 31, .tmp 33]) rfl ?_); at_builtin; refine Kd.R_append Kd.string (w0 := w) w.heap.size rfl (.tmp 31) (.tmp 33) 36 9 (.string ⟨#[]⟩) 16 rfl Tryd.underlying36 info9 rfl (by decide) (by omega) (.slice A4 ws.length c4) ws x [.string x] (fun _ => True) (fun _ => False) rfl rfl rfl (fun _ hk => hk.elim) (fun _ _ => trivial) hst.1 hst.2.2 hst.2.2.size (by have := hi.out; omega) ?_; intro v6 w6 ho6 hb6 hg6 hat6; have ho6' := Kd.R_grown2 hst.2.1 rfl hg6 (own_ne_own hst.1 hst.2.1 rfl rfl (by decide)); have hm6 := hown5.kept hg6 (own_ne_map hst.1 hb5)) | ((with_reducible refine gate_builtin (b := .append) (xs := #[.tmp 35, .tmp 37]) rfl ?_); at_builtin; refine Kd.R_append (Kd.int .i64) (w0 := w) w.heap.size rfl (.tmp 35) (.tmp 37) 22 3 (.int .i64 0) 8 rfl Tryd.underlying22 info3 rfl (by decide) (by omega) u5 out (ws.length : Int) [.int .i64 (ws.length : Int)] (fun _ => True) (fun _ => False) rfl rfl rfl (fun _ hk => hk.elim) (fun _ _ => trivial) ho6' hb6 hb6.size (by have := hi.out; omega) ?_; intro v7 w7 ho7 hb7 hg7 hat7))
        obtain ⟨es6, cl6, hb6m, _⟩ := id hm6
        have hd7 : DI w w7 B (n + 1) v6 v7 (ws ++ [x]) (out ++ [(ws.length : Int)]) (D.put (.string x.data.toList) (.lit (.int .i64 (ws.length : Int)))) :=
          ⟨hm6.kept hg7 (own_ne_map ho6' hb6m), hd.out.told.put hnm, Kd.R_grown2 ho6 rfl hg7 (own_ne_own ho6' ho6 rfl rfl (by decide)), ho7, hb7, hd.out.hB⟩
        go_roundg m
        case measure => omega
        case rel => exact ⟨i + 1, n + 1, ws ++ [x], _, _, by simp, ⟨hd7⟩, ⟨by have := hi.out; simp; omega⟩, hf'⟩
end Go.Proofs.YtblbieenfghbdaaDoor.D
