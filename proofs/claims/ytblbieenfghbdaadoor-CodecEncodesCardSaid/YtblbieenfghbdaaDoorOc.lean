/- A slice of claims that comes in, opened: its elements' list. (open_slice_fields after extra-structs.md.) -/
import Derived.Test.YtblbieenfghbdaaDoorEx0
import Derived.Deep.Slices
import Derived.Deep.Fields
import Derived.ChangeSame
namespace Go.Proofs.YtblbieenfghbdaaDoor.E
open Go.RowKit Go.ChangeShapes Go.WideShapes Go.Deep Go.Proofs.YtblbieenfghbdaaDoor.D Go.Proofs.YtblbieenfghbdaaDoorW.PrintWords
set_option linter.unusedVariables false
section
variable {H : Type} {enc : TypeId × Value → H} {P : Program} {w : World} {base : Nat} {spare : Nat → Bool} {held : Bool}
theorem open_slice_fields {t e : TypeId} {fs : Array Field} {fuel : Nat} {cs : List Value} {x : DataW H × List MemPlace} (ht : P.underlying t = some (.slice e)) (he : P.underlying e = some (.struct fs))
    (hone : oneCellFields P fs = true) (hC : P.cellsOf e = fs.size) (h : DataW.trod enc P w base spare held fuel t cs = some x) :
    (cs = [.slice none 0 0] ∧ x = (.nil, [])) ∨
    ∃ (a : Addr) (len cap m : Nat) (D : Nat → DataW H) (Pl : Nat → List MemPlace), cs = [.slice (some a) len cap] ∧ base ≤ a.block ∧ len ≤ cap ∧ cap ≤ maxLen ∧ m = (if spare a.block then cap else len) ∧
      x = (.slice ((List.range len).map D) ((List.range (m - len)).map fun j => D (len + j)), MemPlace.row a (m * fs.size) ++ (List.range m).flatMap Pl) ∧
      ∀ i, i < m → ∃ (ys : List (DataW H × List MemPlace)) (n : Nat), D i = .agg (ys.map (·.1)) ∧ Pl i = ys.flatMap (·.2) ∧ ys.length = fs.size ∧
        ∀ (j : Nat) (f : Field), fs[j]? = some f → ∃ (v : Value) (y : DataW H × List MemPlace), w.cell? (a.add (i * fs.size + j)) = some v ∧ ys[j]? = some y ∧ DataW.trod enc P w base spare held n f.type [v] = some y := by
  rcases open_slice ht h with h0 | ⟨a, len, cap, m, n, D, Pl, hcs, hb, hl, hm, hmm, hx, hi⟩
  · exact .inl h0
  · refine .inr ⟨a, len, cap, m, D, Pl, hcs, hb, hl, hm, hmm, by rw [hC] at hx; exact hx, fun i him => ?_⟩
    obtain ⟨cs', hc, ht'⟩ := hi i him
    rw [hC] at hc
    obtain ⟨ys, n', hn', hy, hlen, hyl, hf⟩ := DataW.trod_struct he ht'
    obtain ⟨_, hcl, hat⟩ := World.cells?_some hc
    simp only [Prod.mk.injEq] at hy
    refine ⟨ys, n', hy.1, hy.2, hyl, fun j f hj => ?_⟩
    obtain ⟨ho, hk⟩ := hone_of hone j f hj
    have hjl : j < fs.size := (Array.getElem?_eq_some_iff.1 hj).1
    have hcell := hat j hjl
    have hv : cs'[j]? = some (cs'[j]'(by omega)) := List.getElem?_eq_getElem (by omega)
    have h1 := hf j f hj
    rw [ho, hk] at h1
    have hone' : (cs'.drop j).take 1 = [cs'[j]'(by omega)] := by
      rw [List.drop_eq_getElem_cons (by omega)]
      rfl
    rw [hone'] at h1
    have hys : ys[j]? = some (ys[j]'(by omega)) := List.getElem?_eq_getElem (by omega)
    refine ⟨_, _, ?_, hys, h1.trans hys⟩
    rw [← Go.Deep.add_add, hcell, hv]
end
theorem list_of {α : Type} {P : Nat → α → Prop} : ∀ n : Nat, (∀ i, i < n → ∃ x, P i x) → ∃ l : List α, l.length = n ∧ ∀ i x, l[i]? = some x → P i x
  | 0, _ => ⟨[], rfl, fun i x h => by simp at h⟩
  | n + 1, h => by
    obtain ⟨l, hl, hp⟩ := list_of n (fun i hi => h i (by omega))
    obtain ⟨x, hx⟩ := h n (by omega)
    refine ⟨l ++ [x], by simp [hl], fun i y hy => ?_⟩
    by_cases hi : i < n
    · rw [List.getElem?_append_left (by omega)] at hy
      exact hp i y hy
    · have hil := (List.getElem?_eq_some_iff.1 hy).1
      simp only [List.length_append, List.length_singleton] at hil
      obtain rfl : i = n := by omega
      rw [List.getElem?_append_right (by omega), hl, Nat.sub_self] at hy
      simp at hy
      exact hy ▸ hx
theorem one_ok : (match Tryd.prog.underlying 44 with | some (.struct fs) => oneCellFields Tryd.prog fs | _ => true) = true := by kernel_rfl
theorem one44 {fs : Array Field} (h : Tryd.prog.underlying 44 = some (.struct fs)) : fs.size = 4 ∧ ∀ j, j < 4 → ∃ f, fs[j]? = some f ∧ f.type = 3 := by
  rw [Tryd.underlying44] at h
  have h2 := Option.some.inj h
  injection h2 with h3
  subst h3
  refine ⟨rfl, fun j hj => ?_⟩
  have : j = 0 ∨ j = 1 ∨ j = 2 ∨ j = 3 := by omega
  rcases this with rfl | rfl | rfl | rfl <;> exact ⟨_, rfl, rfl⟩
set_option maxRecDepth 100000 in
theorem open_claims {H : Type} {enc : TypeId × Value → H} {w : World} {base : Nat} {spare : Nat → Bool} {held : Bool} {a : Option Addr} {len cap : Nat} {d : DataW H} {p : List MemPlace}
    (h : DataW.Trod enc Tryd.prog w base spare held 45 (.slice a len cap) d p) : ∃ l : List S44, l.length = len ∧ len ≤ cap ∧ Kd.C k44 w a l.length l := by
  obtain ⟨fuel, hf⟩ := h
  obtain ⟨fs, hfs⟩ : ∃ fs, Tryd.prog.underlying 44 = some (.struct fs) := ⟨_, Tryd.underlying44⟩
  have hone : oneCellFields Tryd.prog fs = true := by
    have h1 := one_ok
    rw [hfs] at h1
    exact h1
  obtain ⟨hsz, hty⟩ := one44 hfs
  have hC : Tryd.prog.cellsOf 44 = fs.size := by rw [hsz]; kernel_rfl
  rcases open_slice_fields Tryd.underlying45 hfs hone hC hf with ⟨hcs, _⟩ | ⟨x, ln, c, m, D, Pl, hcs, _, hl, hm, hmm, _, hcell⟩
  · simp [Value.cells] at hcs
    obtain ⟨rfl, rfl, rfl⟩ := hcs
    exact ⟨[], rfl, Nat.le_refl _, Kd.C_nil _ _⟩
  · simp [Value.cells] at hcs
    obtain ⟨rfl, rfl, rfl⟩ := hcs
    have hml : len ≤ m := by rw [hmm]; split <;> omega
    have key : ∀ i, i < len → ∃ s : S44, w.cell? (x.add (i * 4 + 0)) = some (.int .i64 s.f0) ∧ w.cell? (x.add (i * 4 + 1)) = some (.int .i64 s.f1) ∧ w.cell? (x.add (i * 4 + 2)) = some (.int .i64 s.f2) ∧ w.cell? (x.add (i * 4 + 3)) = some (.int .i64 s.f3) := by
      intro i hi
      obtain ⟨ys, n, _, _, _, hall⟩ := hcell i (by omega)
      rw [hsz] at hall
      have get : ∀ j, j < 4 → ∃ z : Int, w.cell? (x.add (i * 4 + j)) = some (.int .i64 z) := by
        intro j hj
        obtain ⟨f, hf1, hf2⟩ := hty j hj
        obtain ⟨v, y, hv, _, ht⟩ := hall j f hf1
        rw [hf2] at ht
        obtain ⟨z, hz, _, _⟩ := DataW.trod_int Tryd.underlying3 ht
        simp at hz
        subst hz
        exact ⟨z, hv⟩
      obtain ⟨z0, h0⟩ := get 0 (by omega)
      obtain ⟨z1, h1⟩ := get 1 (by omega)
      obtain ⟨z2, h2⟩ := get 2 (by omega)
      obtain ⟨z3, h3⟩ := get 3 (by omega)
      exact ⟨⟨z0, z1, z2, z3⟩, h0, h1, h2, h3⟩
    obtain ⟨l, hll, hlp⟩ := list_of len key
    refine ⟨l, hll, hl, ?_⟩
    refine ⟨rfl, by rw [hll]; unfold maxLen at hm; omega, fun hn => ⟨x, rfl, fun j s hj => ?_⟩⟩
    obtain ⟨h0, h1, h2, h3⟩ := hlp j s hj
    refine ⟨[.int .i64 s.f0, .int .i64 s.f1, .int .i64 s.f2, .int .i64 s.f3], rfl, ⟨_, _, rfl, rfl, ⟨_, _, rfl, rfl, ⟨_, _, rfl, rfl, rfl⟩⟩⟩, fun i u hu => ?_⟩
    have hi := (List.getElem?_eq_some_iff.1 hu).1
    simp only [List.length_cons, List.length_nil] at hi
    have : i = 0 ∨ i = 1 ∨ i = 2 ∨ i = 3 := by omega
    rcases this with rfl | rfl | rfl | rfl <;> (simp at hu; subst hu; assumption)
end Go.Proofs.YtblbieenfghbdaaDoor.E
