/- The plain laws of codec's examples: the section's examples hold. -/
import Derived.Test.YtblbieenfghbdaaDoorDxB0
namespace Go.Proofs.YtblbieenfghbdaaDoor.D
open Go.RowKit Go.Proofs.YtblbieenfghbdaaDoorW.PrintWords
set_option maxRecDepth 100000 in
theorem lives_at : intervalmonlaw15_lives.f 80 = some true := by kernel_rfl
theorem lives_true (k : Nat) (hk : 80 ≤ k) : intervalmonlaw15_lives.f k = some true := at_rounds intervalmonlaw15_lives.mono hk lives_at
end Go.Proofs.YtblbieenfghbdaaDoor.D
