/- Lists of claims as codes in plain words: what is read from bits is what was written, and bytes that are read are the bytes of what they say. -/
import Derived.Test.YtblbieenfghbdaaDoorHa
import Derived.Test.YtblbieenfghbdaaDoorEx0
namespace Go.Proofs.YtblbieenfghbdaaDoor.E
open Go.RowKit Go.Proofs.YtblbieenfghbdaaDoor.D Go.Proofs.YtblbieenfghbdaaDoorW.PrintWords Go.Proofs.YtblbieenfghbdaaDoorW.PrintLast
set_option linter.unusedVariables false
set_option linter.unusedSimpArgs false
/-- A claim: from, to, low, high. -/
abbrev SC := S44
/-- Whether a number of a claim is small enough. -/
def smallB (n : Int) : Bool := decide (-1099511627776 ≤ n) && decide (n ≤ 1099511627776)
def encB (c : SC) : Bool := smallB c.f0 && smallB c.f1 && smallB c.f2 && smallB c.f3
theorem smallB_iff (n : Int) : smallB n = true ↔ -1099511627776 ≤ n ∧ n ≤ 1099511627776 := by simp [smallB]
theorem encB_iff (c : SC) : encB c = true ↔ (-1099511627776 ≤ c.f0 ∧ c.f0 ≤ 1099511627776) ∧ (-1099511627776 ≤ c.f1 ∧ c.f1 ≤ 1099511627776) ∧ (-1099511627776 ≤ c.f2 ∧ c.f2 ≤ 1099511627776) ∧ (-1099511627776 ≤ c.f3 ∧ c.f3 ≤ 1099511627776) := by
  simp only [encB, Bool.and_eq_true, smallB_iff, and_assoc]
/-- What stands behind a claim: its start, the step to it, its length, its low end, its width. -/
structure CSt where
  a : Int
  b : Int
  ln : Int
  lo : Int
  wd : Int
def CSt.zero : CSt := ⟨0, 0, 0, 0, 0⟩
def CSt.next (s : CSt) (c : SC) : CSt := ⟨c.f0, wrap64 (c.f0 - s.a), wrap64 (c.f1 - c.f0), c.f2, wrap64 (c.f3 - c.f2)⟩
structure CSt.ok (s : CSt) : Prop where
  a : I64 s.a
  b : I64 s.b
  ln : I64 s.ln
  lo : I64 s.lo
  wd : I64 s.wd
theorem CSt.zero_ok : CSt.zero.ok := ⟨by unfold I64 CSt.zero; simp, by unfold I64 CSt.zero; simp, by unfold I64 CSt.zero; simp, by unfold I64 CSt.zero; simp, by unfold I64 CSt.zero; simp⟩
theorem encB_i64 {c : SC} (h : encB c = true) : I64 c.f0 ∧ I64 c.f1 ∧ I64 c.f2 ∧ I64 c.f3 := by
  rw [encB_iff] at h
  unfold I64
  omega
theorem CSt.next_ok (s : CSt) {c : SC} (h : encB c = true) : (s.next c).ok := ⟨(encB_i64 h).1, I64.wrap _, I64.wrap _, (encB_i64 h).2.2.1, I64.wrap _⟩
/-- The codes of a claim. -/
def oneBits (s : CSt) (c : SC) : List Bool :=
  codeBits (wrap64 (wrap64 (c.f0 - s.a) - s.b)) ++ (codeBits (wrap64 (wrap64 (c.f1 - c.f0) - s.ln)) ++ (codeBits (wrap64 (c.f2 - s.lo)) ++ codeBits (wrap64 (wrap64 (c.f3 - c.f2) - s.wd))))
def claimBits : CSt → List SC → List Bool
  | _, [] => []
  | s, c :: l => oneBits s c ++ claimBits (s.next c) l
/-- The claim that four codes tell. -/
def made (s : CSt) (c1 c2 c3 c4 : Int) : SC :=
  ⟨wrap64 (s.a + wrap64 (s.b + c1)), wrap64 (wrap64 (s.a + wrap64 (s.b + c1)) + wrap64 (s.ln + c2)), wrap64 (s.lo + c3), wrap64 (wrap64 (s.lo + c3) + wrap64 (s.wd + c4))⟩
/-- A code that is not longer than it must be. -/
def get1 (R : List Bool) : Option (Int × List Bool) := (getP R).bind fun g => if g.2.1 = true then none else some (g.1, g.2.2)
theorem get1_code (n : Int) (h : I64 n) (S : List Bool) : get1 (codeBits n ++ S) = some (n, S) := by
  rw [get1, getP_code n h, Option.bind_some, if_neg (by simp)]
def rd4 (R : List Bool) : Option (Int × Int × Int × Int × List Bool) :=
  (get1 R).bind fun g1 => (get1 g1.2).bind fun g2 => (get1 g2.2).bind fun g3 => (get1 g3.2).bind fun g4 => some (g1.1, g2.1, g3.1, g4.1, g4.2)
/-- As many claims. -/
def rdClaims : Nat → List Bool → CSt → Option (List SC × List Bool)
  | 0, R, _ => some ([], R)
  | m + 1, R, s => (rd4 R).bind fun g => if encB (made s g.1 g.2.1 g.2.2.1 g.2.2.2.1) = true then
      (rdClaims m g.2.2.2.2 (s.next (made s g.1 g.2.1 g.2.2.1 g.2.2.2.1))).bind fun r => some (made s g.1 g.2.1 g.2.2.1 g.2.2.2.1 :: r.1, r.2) else none
theorem SC.ext {c d : SC} (h0 : c.f0 = d.f0) (h1 : c.f1 = d.f1) (h2 : c.f2 = d.f2) (h3 : c.f3 = d.f3) : c = d := by
  cases c; cases d; simp only at h0 h1 h2 h3; subst h0 h1 h2 h3; rfl
theorem made_of (s : CSt) (c : SC) (h : encB c = true) (hs : s.ok) :
    made s (wrap64 (wrap64 (c.f0 - s.a) - s.b)) (wrap64 (wrap64 (c.f1 - c.f0) - s.ln)) (wrap64 (c.f2 - s.lo)) (wrap64 (wrap64 (c.f3 - c.f2) - s.wd)) = c := by
  obtain ⟨h0, h1, h2, h3⟩ := encB_i64 h
  obtain ⟨i0, i1, i2, i3, i4⟩ := hs
  unfold I64 at *
  have e1 : wrap64 (s.b + wrap64 (wrap64 (c.f0 - s.a) - s.b)) = wrap64 (c.f0 - s.a) := by unfold wrap64; omega
  have e2 : wrap64 (s.a + wrap64 (c.f0 - s.a)) = c.f0 := by unfold wrap64; omega
  have e3 : wrap64 (s.ln + wrap64 (wrap64 (c.f1 - c.f0) - s.ln)) = wrap64 (c.f1 - c.f0) := by unfold wrap64; omega
  have e4 : wrap64 (c.f0 + wrap64 (c.f1 - c.f0)) = c.f1 := by unfold wrap64; omega
  have e5 : wrap64 (s.lo + wrap64 (c.f2 - s.lo)) = c.f2 := by unfold wrap64; omega
  have e6 : wrap64 (s.wd + wrap64 (wrap64 (c.f3 - c.f2) - s.wd)) = wrap64 (c.f3 - c.f2) := by unfold wrap64; omega
  have e7 : wrap64 (c.f2 + wrap64 (c.f3 - c.f2)) = c.f3 := by unfold wrap64; omega
  apply SC.ext
  · simp only [made]; rw [e1, e2]
  · simp only [made]; rw [e1, e2, e3, e4]
  · simp only [made]; rw [e5]
  · simp only [made]; rw [e5, e6, e7]
theorem rdClaims_bits (S : List Bool) : ∀ (l : List SC) (s : CSt), (∀ c, c ∈ l → encB c = true) → s.ok → rdClaims l.length (claimBits s l ++ S) s = some (l, S)
  | [], s, h, hs => rfl
  | c :: l, s, h, hs => by
    have hc := h c List.mem_cons_self
    have ih := rdClaims_bits S l (s.next c) (fun x hx => h x (List.mem_cons_of_mem _ hx)) (s.next_ok hc)
    have hm := made_of s c hc hs
    rw [claimBits, oneBits, List.length_cons, rdClaims, rd4]
    simp only [List.append_assoc]
    rw [get1_code _ (I64.wrap _), Option.bind_some]
    simp only []
    rw [get1_code _ (I64.wrap _), Option.bind_some]
    simp only []
    rw [get1_code _ (I64.wrap _), Option.bind_some]
    simp only []
    rw [get1_code _ (I64.wrap _), Option.bind_some, Option.bind_some]
    simp only []
    rw [hm, if_pos hc, ih, Option.bind_some]
/-- The bytes of a list of claims. -/
def claimsOf (l : List SC) : List Int := packL (codeBits (l.length : Int) ++ claimBits CSt.zero l)
/-- The claims that bytes tell. -/
def parseClaims (bs : List Int) : Option (List SC) :=
  (getP (unpack bs)).bind fun g => if g.2.1 = true ∨ g.1 < 0 ∨ 4096 < g.1 then none else
    (rdClaims g.1.toNat g.2.2 CSt.zero).bind fun s => if fills s.2 = true then some s.1 else none
theorem parse_claims (l : List SC) (hI : ∀ c, c ∈ l → encB c = true) (hl : l.length ≤ 4096) : parseClaims (claimsOf l) = some l := by
  have hp := packL_packed (codeBits (l.length : Int) ++ claimBits CSt.zero l)
  rw [parseClaims, claimsOf, hp.2, List.append_assoc, getP_code _ (by unfold I64; omega), Option.bind_some]
  simp only []
  rw [if_neg (by simp only [Bool.false_eq_true, false_or]; omega), Int.toNat_natCast, rdClaims_bits _ l _ hI CSt.zero_ok, Option.bind_some]
  simp only []
  rw [if_pos ((fills_iff _).2 ⟨_, by simp only [padN]; omega, rfl⟩)]
end Go.Proofs.YtblbieenfghbdaaDoor.E
