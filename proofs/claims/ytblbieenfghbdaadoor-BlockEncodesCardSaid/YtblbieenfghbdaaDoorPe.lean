/- Lists of claims as codes in plain words: what is read from bits is what was written, and bytes that are read are the bytes of what they say. -/
import Derived.Test.YtblbieenfghbdaaDoorHa
import Derived.Test.YtblbieenfghbdaaDoorEx0
namespace Go.Proofs.YtblbieenfghbdaaDoor.E
open Go.RowKit Go.Proofs.YtblbieenfghbdaaDoor.D Go.Proofs.YtblbieenfghbdaaDoorW.PrintWords Go.Proofs.YtblbieenfghbdaaDoorW.PrintLast
set_option linter.unusedVariables false
set_option linter.unusedSimpArgs false
/-- A claim: from, to, low, high. -/
abbrev SC := S44
/-- Whether a number of a claim is small enough. -/
def smallB (n : Int) : Bool := decide (-1099511627776 ≤ n) && decide (n ≤ 1099511627776)
def encB (c : SC) : Bool := smallB c.f0 && smallB c.f1 && smallB c.f2 && smallB c.f3
theorem smallB_iff (n : Int) : smallB n = true ↔ -1099511627776 ≤ n ∧ n ≤ 1099511627776 := by simp [smallB]
theorem encB_iff (c : SC) : encB c = true ↔ (-1099511627776 ≤ c.f0 ∧ c.f0 ≤ 1099511627776) ∧ (-1099511627776 ≤ c.f1 ∧ c.f1 ≤ 1099511627776) ∧ (-1099511627776 ≤ c.f2 ∧ c.f2 ≤ 1099511627776) ∧ (-1099511627776 ≤ c.f3 ∧ c.f3 ≤ 1099511627776) := by
  simp only [encB, Bool.and_eq_true, smallB_iff, and_assoc]
/-- What stands behind a claim: its start, the step to it, its length, its low end, its width. -/
structure CSt where
  a : Int
  b : Int
  ln : Int
  lo : Int
  wd : Int
def CSt.zero : CSt := ⟨0, 0, 0, 0, 0⟩
def CSt.next (s : CSt) (c : SC) : CSt := ⟨c.f0, wrap64 (c.f0 - s.a), wrap64 (c.f1 - c.f0), c.f2, wrap64 (c.f3 - c.f2)⟩
structure CSt.ok (s : CSt) : Prop where
  a : I64 s.a
  b : I64 s.b
  ln : I64 s.ln
  lo : I64 s.lo
  wd : I64 s.wd
theorem encB_i64 {c : SC} (h : encB c = true) : I64 c.f0 ∧ I64 c.f1 ∧ I64 c.f2 ∧ I64 c.f3 := by
  rw [encB_iff] at h
  unfold I64
  omega
/-- The codes of a claim. -/
def oneBits (s : CSt) (c : SC) : List Bool :=
  codeBits (wrap64 (wrap64 (c.f0 - s.a) - s.b)) ++ (codeBits (wrap64 (wrap64 (c.f1 - c.f0) - s.ln)) ++ (codeBits (wrap64 (c.f2 - s.lo)) ++ codeBits (wrap64 (wrap64 (c.f3 - c.f2) - s.wd))))
def claimBits : CSt → List SC → List Bool
  | _, [] => []
  | s, c :: l => oneBits s c ++ claimBits (s.next c) l
/-- The bytes of a list of claims. -/
def claimsOf (l : List SC) : List Int := packL (codeBits (l.length : Int) ++ claimBits CSt.zero l)
end Go.Proofs.YtblbieenfghbdaaDoor.E
