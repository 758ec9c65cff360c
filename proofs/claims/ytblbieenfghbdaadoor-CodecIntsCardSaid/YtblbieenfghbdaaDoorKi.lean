/- The call of codec.Ints comes to what codec_Ints.f gives, in new memory, whenever that function gives a result. -/
import Derived.Test.YtblbieenfghbdaaDoorKp
namespace Go.Proofs.YtblbieenfghbdaaDoor.D
open Go.RowKit Go.Proofs.YtblbieenfghbdaaDoorW.PrintWords Go.Proofs.YtblbieenfghbdaaDoorW.PrintLast Go.Proofs.YtblbieenfghbdaaDoorW.PrintMore
set_option linter.unusedVariables false
set_option linter.unusedSimpArgs false
theorem codeBits_length (n : Int) : (codeBits n).length ≤ 70 := by
  have h := codeIdx_lt (codec_zig n)
  have h2 := widths_le (codeIdx (codec_zig n) : Int) (by omega) (by omega)
  simp only [codeBits, List.length_append, List.length_replicate, List.length_singleton, List.length_map, downs_length]
  omega
/-- The codes of a list's numbers, each foretold by the two before it. -/
def trendBits : Int → Int → List Int → List Bool
  | _, _, [] => []
  | a, b, n :: l => codeBits (wrap64 (wrap64 (n - a) - b)) ++ trendBits n (wrap64 (n - a)) l
/-- The bytes of a list. -/
def codec_Ints.f (k : Nat) (l0 : List Int) : Option (List Int) :=
  if l0.length ≤ 4294967296 then some (packL (codeBits (l0.length : Int) ++ trendBits 0 0 l0)) else none
theorem codec_Ints.mono (l0 : List Int) (k : Nat) : LeO (codec_Ints.f k l0) (codec_Ints.f (k + 1) l0) := LeO.refl _
theorem WrB.keepBut {w0 W W1 : World} {g p : Nat} {β : List Bool} (h : WrB w0 W g β) {cs : Array Value} {t : TypeId} (hp : W.heap[p]? = some (.cells cs t (0, 0))) (h1 : t ≠ 100) (h5 : t ≠ 5) (hk : KeepBut W W1 p none) (hb : Below w0.heap.size w0 W1) : WrB w0 W1 g β := by
  obtain ⟨v, hv⟩ := h
  have hne : g ≠ p := fun e => by
    have h2 := hv.blk
    rw [e, hp] at h2
    injection h2 with h2
    injection h2 with _ h2
    exact h1 h2
  have ho := Kd.R_types hv.own hp (fun q hq => by have : q = 5 := by simpa [Kd.int, Kd.scalar] using hq
                                                  subst this; exact fun e => h5 e.symm)
  exact ⟨v, (hk.2 g (blk_lt hv.blk) hne (by simp)).trans hv.blk, hv.hg, Kd.R_mono (Kd.R_keep ho hk (fun k hk => hk.2)) (fun k hk => hk.1), hb⟩

/-! ### codec_Ints: function 17 -/
set_option maxHeartbeats 8000000 in
set_option maxRecDepth 100000 in
theorem codec_Ints.calls (k : Nat) (A0 : Option Addr) (c0 : Nat) (l0 : List Int) (r : List Int) (w : World) (hr0 : Kd.C (Kd.int .i64) w A0 l0.length l0) (hc0 : l0.length ≤ c0) (hG : Glob w) (h : codec_Ints.f k l0 = some r) :
    Calls Tryd.prog 17 #[.slice A0 l0.length c0] w fun e w' => ∃ v0_ : Value, e = .returned (v0_) ∧ Kd.R (Kd.int .u8) 5 w' w.heap.size (fun _ => True) v0_ r ∧ Below w.heap.size w w' := by
  unfold codec_Ints.f at h
  have hl : l0.length ≤ 4294967296 := by
    by_cases hl : l0.length ≤ 4294967296
    · exact hl
    · rw [if_neg hl] at h; cases h
  rw [if_pos hl] at h
  obtain rfl := Option.some.inj h
  clear h
  obtain ⟨T, hTot⟩ : ∃ T, codeBits (l0.length : Int) ++ trendBits 0 0 l0 = T := ⟨_, rfl⟩
  rw [hTot]
  replace hTot := Aside0.mk hTot
  go_enter Tryd.func17, Tryd.ntmps17
  go_upto_region 2 with (fail)
  have hW : WrB w (w.alloc (.cells #[.slice none 0 0, .int .i64 0] 100)) w.heap.size [] :=
    ⟨.slice none 0 0, by simpa using heap_alloc_new w _, Nat.le_refl _, Kd.R_nil _ _ _ _ _, below_alloc (Below.refl _ _) _⟩
  generalize hg_ : w.heap.size = g at hW ⊢
  replace hg_ := Aside0.mk hg_
  generalize w.alloc (.cells #[.slice none 0 0, .int .i64 0] 100) = w1 at hW ⊢
  have hW1 := Aside0.mk hW
  clear hW
  go_upto_region 4 with (first | (go_at_call 63; refine (codec_put.calls g [] (l0.length : Int) w w1 hW1.out hG (by simp)).mono ?_; rintro e w2 ⟨rfl, hW2, hk2⟩))
  rw [List.nil_append] at hW2
  have hT : IsS104 w (w2.alloc (.cells #[.int .i64 0, .int .i64 0] 104)) w2.heap.size 0 0 := ⟨by simpa using heap_alloc_new w2 _, hW2.bel.size⟩
  have hW3 := hW2.below (below_alloc (Below.refl _ _) (.cells #[.int .i64 0, .int .i64 0] 104))
  generalize w2.heap.size = p at hT ⊢
  generalize w2.alloc (.cells #[.int .i64 0, .int .i64 0] 104) = w3 at hT hW3 ⊢
  have hT3 := Aside0.mk hT
  have hW4 := Aside0.mk hW3
  clear hT hW3 hW2 hk2 hW1 w2 w1
  have hcb := Aside0.mk (codeBits_length (l0.length : Int))
  go_wp2
  go_loopg [6, 12] l0.length (fun kq v6 v12 w' => ∃ (i : Nat) (a b : Int) (β : List Bool), v12 = .int .i64 (i : Int) ∧ Aside0 (i + kq = l0.length) ∧ Aside0 (WrB w w' g β) ∧ Aside0 (IsS104 w w' p a b) ∧ Aside0 (β ++ trendBits a b (l0.drop i) = T) ∧ Aside0 (β.length ≤ 70 * (i + 1)))
  case atStart => exact ⟨0, 0, 0, _, rfl, ⟨by omega⟩, hW4, hT3, hTot, ⟨by have := hcb.out; omega⟩⟩
  case round =>
    clear hW4 hT3 hTot hcb
    obtain ⟨i, a, b, β, rfl, hi, hw, ht, hβ, hlen⟩ := hrel
    cases gk with
    | zero =>
      have e1 : i = l0.length := by have := hi.out; omega
      have c1 : decide ((i : Int) < (l0.length : Int)) = false := decide_eq_false (by omega)
      have c2 : decide (i < l0.length) = false := decide_eq_false (by omega)
      have c3 : l0.length ≤ i := by omega
      have hβ2 : β = T := by
        have h := hβ.out
        rw [e1, List.drop_length, trendBits, List.append_nil] at h
        exact h
      replace e1 := Aside0.mk e1
      replace hβ2 := Aside0.mk hβ2
      go_wp2_with (first | (go_at_call 65; refine (bits_Writer_Done.calls g β w wr hw.out (by have := hlen.out; have := e1.out; omega)).mono ?_; rintro e w5 ⟨v, rfl, hR, hB⟩))
      go_ret
      have hb := hw.out.bel
      exact ⟨v, rfl, by rw [← hβ2.out]; exact Kd.R_lower hR hb.size, below_then hb hb.size hB⟩
    | succ m =>
      have p0 : (0 : Int) ≤ (i : Int) := by omega
      have q0 : (i : Int) < (l0.length : Int) := by have := hi.out; omega
      have c1 : decide ((i : Int) < (l0.length : Int)) = true := decide_eq_true q0
      have c2 : decide (i < l0.length) = true := decide_eq_true (by omega)
      have c3 : i < l0.length := by omega
      obtain ⟨ad, e, hx⟩ := Kd.at_int hr0 (i : Int) p0 q0
      subst e
      have hx1 := pw_cell_below hw.out.bel hx
      rw [Int.toNat_natCast] at hx1
      have hdrop : l0.drop i = rd l0 (i : Int) :: l0.drop (i + 1) := by
        have hli : i < l0.length := by omega
        rw [List.drop_eq_getElem_cons hli, rd, Int.toNat_natCast, List.getD_eq_getElem?_getD, List.getElem?_eq_getElem hli]; rfl
      have hβ' := hβ.out
      rw [hdrop, trendBits, ← List.append_assoc] at hβ'
      obtain ⟨x, hxx⟩ : ∃ x, rd l0 (i : Int) = x := ⟨_, rfl⟩
      rw [hxx] at hx1 hβ'
      replace hβ' := Aside0.mk hβ'
      have hcb := Aside0.mk (codeBits_length (wrap64 (wrap64 (x - a) - b)))
      clear hx hdrop hxx hβ
      have hi1 : wrap64 ((i : Int) + 1) = (i : Int) + 1 := wrap_in _ (by omega) (by omega)
      have hl3 : β.length < 549755813000 := by have := hlen.out; have := hi.out; omega
      go_wp2_with (first | (go_at_call 64; refine (codec_trend_code.calls p a b x (wrap64 (wrap64 (x - a) - b)) x (wrap64 (x - a)) w wr ht.out hw.out.bel rfl).mono ?_; rintro e w5 ⟨rfl, hT5, hB5, hK5⟩; have hW5 := Aside0.mk (hw.out.keepBut ht.out.1 (by decide) (by decide) hK5 hB5); have hT5' := Aside0.mk hT5; clear hT5 hB5 hK5) | (go_at_call 63; refine (codec_put.calls g β (wrap64 (wrap64 (x - a) - b)) w w5 hW5.out hG hl3).mono ?_; rintro e w6 ⟨rfl, hW6, hk6⟩; obtain ⟨v_, m_, hb_⟩ := hW5.out.block; have hT6 := Aside0.mk (hk6.blk hT5'.out.1 hb_ (by decide) (by decide)); have hW6' := Aside0.mk hW6; clear hW6 hk6 hb_))
      go_roundg m
      case measure => omega
      case rel => exact ⟨i + 1, x, wrap64 (x - a), _, by simp [hi1], ⟨by have := hi.out; omega⟩, hW6', ⟨hT6.out, hT5'.out.2⟩, hβ', ⟨by rw [List.length_append]; have := hcb.out; have := hlen.out; omega⟩⟩
end Go.Proofs.YtblbieenfghbdaaDoor.D
