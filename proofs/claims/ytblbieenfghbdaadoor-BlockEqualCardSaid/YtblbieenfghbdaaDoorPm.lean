/- What codec.Encode gives, and how long it is. -/
import Derived.Test.YtblbieenfghbdaaDoorKh
namespace Go.Proofs.YtblbieenfghbdaaDoor.E
open Go.RowKit Go.Proofs.YtblbieenfghbdaaDoor.D Go.Proofs.YtblbieenfghbdaaDoorW.PrintWords Go.Proofs.YtblbieenfghbdaaDoorW.PrintLast Go.Proofs.YtblbieenfghbdaaDoorW.PrintMore
set_option linter.unusedVariables false
set_option linter.unusedSimpArgs false
theorem rdT_at {l : List S44} {p : Nat} (h : p < l.length) : rd_T44 l (p : Int) = l[p] := by
  rw [rd_T44, Int.toNat_natCast, List.getD_eq_getElem?_getD, List.getElem?_eq_getElem h]; rfl
/-- What Encode gives. -/
def encRes (l : List S44) : List Int × Int := if 4096 < l.length then ([], 4) else if l.all encB = true then (claimsOf l, 0) else ([], 5)
theorem codec_Encode_res (k : Nat) (l : List S44) : codec_Encode.f k l = some (encRes l) := by
  rw [codec_Encode.f, encRes]
  split
  · rfl
  · split <;> rfl
theorem claimBits_len : ∀ (l : List S44) (s : CSt), (claimBits s l).length ≤ 280 * l.length
  | [], s => by simp [claimBits]
  | c :: l, s => by
    rw [claimBits, List.length_append, List.length_cons]
    have h1 := oneBits_length s c
    have h2 := claimBits_len l (s.next c)
    omega
theorem claimsOf_len (l : List S44) : (claimsOf l).length ≤ 35 * l.length + 10 := by
  rw [claimsOf, packL_length, List.length_append]
  have h1 := codeBits_length (l.length : Int)
  have h2 := claimBits_len l CSt.zero
  omega
theorem claimsOf_all (l : List S44) : AllB (claimsOf l) := (packL_packed _).1
end Go.Proofs.YtblbieenfghbdaaDoor.E
