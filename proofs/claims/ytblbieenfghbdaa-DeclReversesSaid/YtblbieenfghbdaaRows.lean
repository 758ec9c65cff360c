/-
  No cell of these rows narrows 'for every input' (looked for: loops, veiled, ifaces, maps, wideKeys, modest, calm, conditions, laid).
  DERIVED. THE GIVEN ROWS OF THIS SEAT. 7 by the template 'for every input the law returns true; each argument reads behind the call as it read before'; 0 by the template 'total and deterministic' (their statements: YtblbieenfghbdaaTotals.lean).
  GIVEN WITH THE SEED: the statements are not yours to turn. If you find one false, say at which input.
  Laid BY PROGRAM, IN A SANDBOX (cutbox-rows.mjs): the forced cells as the released guide's own fill.sh prints them over the translation 0c3a76ee47f384a8… (all of the seat's roots in one cut). By AI agents, Wed Nov 11 2026. No macro, syntax, notation, axiom, sorry.
-/
import Derived.Test.YtblbieenfghbdaaChecked
import GoSem.Claim
import GoSem.ClaimJoined
import GoSem.ClaimMapViews
import Derived.JoinedTies
import Derived.KernelRfl
namespace Go.Proofs.Ytblbieenfghbdaa
/- THE CELL 'sum', in the pinned program and in every row, IS THE sha256 OF THE DUMP (.gsa) THAT YtblbieenfghbdaaProg.lean LOADS. Nothing in Lean hashes anything: it is a label: what it is worth is what the hold of that sum in a sandbox is worth. -/
noncomputable def Try.pinned : Pinned := { name := "ytblbieenfghbdaa", sum := "0c3a76ee47f384a85dabc24bbbdc22224d1b1bc29100e0453cfdcfa1ac6b3bd4", checked := Try.checked }
namespace Rows
def none {H : Type} : Left H := { results := [], args := [] }

/-- 'intervalmonlaw10.DeclValid': WHATEVER THE INPUT: true; the input reads as it did. -/
def declValidSpec : ChangeSpec := { name := "declValid", fn := fun _ => fun
  | [d1, d2, d3, d4] => { results := [.lit (.bool true)], args := [d1, d2, d3, d4] }
  | _ => none }
def declValidRow : OpenClaim := { program := "ytblbieenfghbdaa", sum := "0c3a76ee47f384a85dabc24bbbdc22224d1b1bc29100e0453cfdcfa1ac6b3bd4", func := "intervalmon/intervalmonlaw10.DeclValid", spec := "declValid", inPlace := ["internal/bytealg.IndexByteString", "internal/bytealg.IndexString", "internal/abi.NoEscape"], unfollowed := true, recurses := true, named := ["internal/bytealg.MaxLen"], apart := false }
def DeclValidSaid : Prop := declValidRow.holds Try.pinned (OpenSpec.ofChange declValidSpec)

/-- ITS FALSE NEIGHBOUR: 'it returns false'. Refute it at one input. -/
def declValidWrong : ChangeSpec := { name := "declValid", fn := fun _ => fun
  | [d1, d2, d3, d4] => { results := [.lit (.bool false)], args := [d1, d2, d3, d4] }
  | _ => none }
def DeclValidWrongFalsely : Prop := declValidRow.holds Try.pinned (OpenSpec.ofChange declValidWrong)

/-- 'intervalmonlaw10.DeclSpread': WHATEVER THE INPUT: true; the input reads as it did. -/
def declSpreadSpec : ChangeSpec := { name := "declSpread", fn := fun _ => fun
  | [d1, d2, d3, d4, d5, d6] => { results := [.lit (.bool true)], args := [d1, d2, d3, d4, d5, d6] }
  | _ => none }
def declSpreadRow : OpenClaim := { program := "ytblbieenfghbdaa", sum := "0c3a76ee47f384a85dabc24bbbdc22224d1b1bc29100e0453cfdcfa1ac6b3bd4", func := "intervalmon/intervalmonlaw10.DeclSpread", spec := "declSpread", inPlace := ["internal/bytealg.IndexByteString", "internal/bytealg.IndexString", "internal/abi.NoEscape"], unfollowed := true, recurses := true, named := ["internal/bytealg.MaxLen"], apart := false }
def DeclSpreadSaid : Prop := declSpreadRow.holds Try.pinned (OpenSpec.ofChange declSpreadSpec)

/-- ITS FALSE NEIGHBOUR: 'it returns false'. Refute it at one input. -/
def declSpreadWrong : ChangeSpec := { name := "declSpread", fn := fun _ => fun
  | [d1, d2, d3, d4, d5, d6] => { results := [.lit (.bool false)], args := [d1, d2, d3, d4, d5, d6] }
  | _ => none }
def DeclSpreadWrongFalsely : Prop := declSpreadRow.holds Try.pinned (OpenSpec.ofChange declSpreadWrong)

/-- 'intervalmonlaw10.DeclComposes': WHATEVER THE INPUT: true; the input reads as it did. -/
def declComposesSpec : ChangeSpec := { name := "declComposes", fn := fun _ => fun
  | [d1, d2, d3, d4, d5, d6] => { results := [.lit (.bool true)], args := [d1, d2, d3, d4, d5, d6] }
  | _ => none }
def declComposesRow : OpenClaim := { program := "ytblbieenfghbdaa", sum := "0c3a76ee47f384a85dabc24bbbdc22224d1b1bc29100e0453cfdcfa1ac6b3bd4", func := "intervalmon/intervalmonlaw10.DeclComposes", spec := "declComposes", inPlace := ["internal/bytealg.IndexByteString", "internal/bytealg.IndexString", "internal/abi.NoEscape"], unfollowed := true, recurses := true, named := ["internal/bytealg.MaxLen"], apart := false }
def DeclComposesSaid : Prop := declComposesRow.holds Try.pinned (OpenSpec.ofChange declComposesSpec)

/-- ITS FALSE NEIGHBOUR: 'it returns false'. Refute it at one input. -/
def declComposesWrong : ChangeSpec := { name := "declComposes", fn := fun _ => fun
  | [d1, d2, d3, d4, d5, d6] => { results := [.lit (.bool false)], args := [d1, d2, d3, d4, d5, d6] }
  | _ => none }
def DeclComposesWrongFalsely : Prop := declComposesRow.holds Try.pinned (OpenSpec.ofChange declComposesWrong)

/-- 'intervalmonlaw10.DeclReverses': WHATEVER THE INPUT: true; the input reads as it did. -/
def declReversesSpec : ChangeSpec := { name := "declReverses", fn := fun _ => fun
  | [d1, d2, d3, d4, d5] => { results := [.lit (.bool true)], args := [d1, d2, d3, d4, d5] }
  | _ => none }
def declReversesRow : OpenClaim := { program := "ytblbieenfghbdaa", sum := "0c3a76ee47f384a85dabc24bbbdc22224d1b1bc29100e0453cfdcfa1ac6b3bd4", func := "intervalmon/intervalmonlaw10.DeclReverses", spec := "declReverses", inPlace := ["internal/bytealg.IndexByteString", "internal/bytealg.IndexString", "internal/abi.NoEscape"], unfollowed := true, recurses := true, named := ["internal/bytealg.MaxLen"], apart := false }
def DeclReversesSaid : Prop := declReversesRow.holds Try.pinned (OpenSpec.ofChange declReversesSpec)

/-- ITS FALSE NEIGHBOUR: 'it returns false'. Refute it at one input. -/
def declReversesWrong : ChangeSpec := { name := "declReverses", fn := fun _ => fun
  | [d1, d2, d3, d4, d5] => { results := [.lit (.bool false)], args := [d1, d2, d3, d4, d5] }
  | _ => none }
def DeclReversesWrongFalsely : Prop := declReversesRow.holds Try.pinned (OpenSpec.ofChange declReversesWrong)

/-- 'intervalmonlaw10.DeclWire': WHATEVER THE INPUT: true; the input reads as it did. -/
def declWireSpec : ChangeSpec := { name := "declWire", fn := fun _ => fun
  | [d] => { results := [.lit (.bool true)], args := [d] }
  | _ => none }
def declWireRow : OpenClaim := { program := "ytblbieenfghbdaa", sum := "0c3a76ee47f384a85dabc24bbbdc22224d1b1bc29100e0453cfdcfa1ac6b3bd4", func := "intervalmon/intervalmonlaw10.DeclWire", spec := "declWire", inPlace := ["internal/bytealg.IndexByteString", "internal/bytealg.IndexString", "internal/abi.NoEscape"], unfollowed := true, recurses := true, named := ["internal/bytealg.MaxLen"], apart := false }
def DeclWireSaid : Prop := declWireRow.holds Try.pinned (OpenSpec.ofChange declWireSpec)

/-- ITS FALSE NEIGHBOUR: 'it returns false'. Refute it at one input. -/
def declWireWrong : ChangeSpec := { name := "declWire", fn := fun _ => fun
  | [d] => { results := [.lit (.bool false)], args := [d] }
  | _ => none }
def DeclWireWrongFalsely : Prop := declWireRow.holds Try.pinned (OpenSpec.ofChange declWireWrong)

/-- 'intervalmonlaw10.DeclRound': WHATEVER THE INPUT: true; the input reads as it did. -/
def declRoundSpec : ChangeSpec := { name := "declRound", fn := fun _ => fun
  | [d1, d2] => { results := [.lit (.bool true)], args := [d1, d2] }
  | _ => none }
def declRoundRow : OpenClaim := { program := "ytblbieenfghbdaa", sum := "0c3a76ee47f384a85dabc24bbbdc22224d1b1bc29100e0453cfdcfa1ac6b3bd4", func := "intervalmon/intervalmonlaw10.DeclRound", spec := "declRound", inPlace := ["internal/bytealg.IndexByteString", "internal/bytealg.IndexString", "internal/abi.NoEscape"], unfollowed := true, recurses := true, named := ["internal/bytealg.MaxLen"], apart := false }
def DeclRoundSaid : Prop := declRoundRow.holds Try.pinned (OpenSpec.ofChange declRoundSpec)

/-- ITS FALSE NEIGHBOUR: 'it returns false'. Refute it at one input. -/
def declRoundWrong : ChangeSpec := { name := "declRound", fn := fun _ => fun
  | [d1, d2] => { results := [.lit (.bool false)], args := [d1, d2] }
  | _ => none }
def DeclRoundWrongFalsely : Prop := declRoundRow.holds Try.pinned (OpenSpec.ofChange declRoundWrong)

/-- 'intervalmonlaw10.DeclReads': WHATEVER THE INPUT: true; the input reads as it did. -/
def declReadsSpec : ChangeSpec := { name := "declReads", fn := fun _ => fun
  | [d1, d2, d3, d4] => { results := [.lit (.bool true)], args := [d1, d2, d3, d4] }
  | _ => none }
def declReadsRow : OpenClaim := { program := "ytblbieenfghbdaa", sum := "0c3a76ee47f384a85dabc24bbbdc22224d1b1bc29100e0453cfdcfa1ac6b3bd4", func := "intervalmon/intervalmonlaw10.DeclReads", spec := "declReads", inPlace := ["internal/bytealg.IndexByteString", "internal/bytealg.IndexString", "internal/abi.NoEscape"], unfollowed := true, recurses := true, named := ["internal/bytealg.MaxLen"], apart := false }
def DeclReadsSaid : Prop := declReadsRow.holds Try.pinned (OpenSpec.ofChange declReadsSpec)

/-- ITS FALSE NEIGHBOUR: 'it returns false'. Refute it at one input. -/
def declReadsWrong : ChangeSpec := { name := "declReads", fn := fun _ => fun
  | [d1, d2, d3, d4] => { results := [.lit (.bool false)], args := [d1, d2, d3, d4] }
  | _ => none }
def DeclReadsWrongFalsely : Prop := declReadsRow.holds Try.pinned (OpenSpec.ofChange declReadsWrong)

/- THE SECOND FORM. 'bulk': how many values and letters a reading holds, each counted each time it is reached (what is shared counts as often as it is met; a slice's spare places count too). A statement '..UptoSaid' is the law's where the arguments, and the package variables that the reading takes, are together of bulk at most 1048576: NARROWER than '..Said'. Prove '..Said' where nothing that the law and all that it calls make is longer than what came in: it says more and counts as full. Else prove '..UptoSaid'. A law counts once. -/
mutual
def uptoBulk {H : Type} : DataW H → Nat
  | .lit (.string bytes) => bytes.length + 1
  | .lit _ => 1
  | .nil => 1
  | .ptr d => uptoBulk d + 1
  | .slice elems spare => uptoBulkAll elems + uptoBulkAll spare + 1
  | .agg parts => uptoBulkAll parts + 1
  | .iface _ d => uptoBulk d + 1
  | .map entries => uptoBulkEntries entries + 1
  | .held _ => 1
def uptoBulkAll {H : Type} : List (DataW H) → Nat
  | [] => 0
  | d :: r => uptoBulk d + uptoBulkAll r
def uptoBulkEntries {H : Type} : List (Lit × DataW H) → Nat
  | [] => 0
  | x :: r => uptoBulkEntry x + uptoBulkEntries r
def uptoBulkEntry {H : Type} : Lit × DataW H → Nat
  | (.string bytes, d) => bytes.length + uptoBulk d + 1
  | (_, d) => uptoBulk d + 1
 end
def uptoSmall : (H : Type) → List (DataW H) → Bool := fun _ ds => decide (uptoBulkAll ds ≤ 1048576)
def OpenSpec.upto (s : _root_.Go.ChangeSpec) : _root_.Go.OpenSpec := { _root_.Go.OpenSpec.ofChange s with cond := some uptoSmall }

/-- 'intervalmonlaw10.DeclValid', WHERE WHAT IT READS IS OF BULK AT MOST 1048576: true; the input reads as it did. -/
def declValidUptoRow : OpenClaim := { program := "ytblbieenfghbdaa", sum := "0c3a76ee47f384a85dabc24bbbdc22224d1b1bc29100e0453cfdcfa1ac6b3bd4", func := "intervalmon/intervalmonlaw10.DeclValid", spec := "declValid", inPlace := ["internal/bytealg.IndexByteString", "internal/bytealg.IndexString", "internal/abi.NoEscape"], unfollowed := true, recurses := true, named := ["internal/bytealg.MaxLen"], apart := false, narrowed := true }
def DeclValidUptoSaid : Prop := declValidUptoRow.holds Try.pinned (OpenSpec.upto declValidSpec)

/-- 'intervalmonlaw10.DeclSpread', WHERE WHAT IT READS IS OF BULK AT MOST 1048576: true; the input reads as it did. -/
def declSpreadUptoRow : OpenClaim := { program := "ytblbieenfghbdaa", sum := "0c3a76ee47f384a85dabc24bbbdc22224d1b1bc29100e0453cfdcfa1ac6b3bd4", func := "intervalmon/intervalmonlaw10.DeclSpread", spec := "declSpread", inPlace := ["internal/bytealg.IndexByteString", "internal/bytealg.IndexString", "internal/abi.NoEscape"], unfollowed := true, recurses := true, named := ["internal/bytealg.MaxLen"], apart := false, narrowed := true }
def DeclSpreadUptoSaid : Prop := declSpreadUptoRow.holds Try.pinned (OpenSpec.upto declSpreadSpec)

/-- 'intervalmonlaw10.DeclComposes', WHERE WHAT IT READS IS OF BULK AT MOST 1048576: true; the input reads as it did. -/
def declComposesUptoRow : OpenClaim := { program := "ytblbieenfghbdaa", sum := "0c3a76ee47f384a85dabc24bbbdc22224d1b1bc29100e0453cfdcfa1ac6b3bd4", func := "intervalmon/intervalmonlaw10.DeclComposes", spec := "declComposes", inPlace := ["internal/bytealg.IndexByteString", "internal/bytealg.IndexString", "internal/abi.NoEscape"], unfollowed := true, recurses := true, named := ["internal/bytealg.MaxLen"], apart := false, narrowed := true }
def DeclComposesUptoSaid : Prop := declComposesUptoRow.holds Try.pinned (OpenSpec.upto declComposesSpec)

/-- 'intervalmonlaw10.DeclReverses', WHERE WHAT IT READS IS OF BULK AT MOST 1048576: true; the input reads as it did. -/
def declReversesUptoRow : OpenClaim := { program := "ytblbieenfghbdaa", sum := "0c3a76ee47f384a85dabc24bbbdc22224d1b1bc29100e0453cfdcfa1ac6b3bd4", func := "intervalmon/intervalmonlaw10.DeclReverses", spec := "declReverses", inPlace := ["internal/bytealg.IndexByteString", "internal/bytealg.IndexString", "internal/abi.NoEscape"], unfollowed := true, recurses := true, named := ["internal/bytealg.MaxLen"], apart := false, narrowed := true }
def DeclReversesUptoSaid : Prop := declReversesUptoRow.holds Try.pinned (OpenSpec.upto declReversesSpec)

/-- 'intervalmonlaw10.DeclWire', WHERE WHAT IT READS IS OF BULK AT MOST 1048576: true; the input reads as it did. -/
def declWireUptoRow : OpenClaim := { program := "ytblbieenfghbdaa", sum := "0c3a76ee47f384a85dabc24bbbdc22224d1b1bc29100e0453cfdcfa1ac6b3bd4", func := "intervalmon/intervalmonlaw10.DeclWire", spec := "declWire", inPlace := ["internal/bytealg.IndexByteString", "internal/bytealg.IndexString", "internal/abi.NoEscape"], unfollowed := true, recurses := true, named := ["internal/bytealg.MaxLen"], apart := false, narrowed := true }
def DeclWireUptoSaid : Prop := declWireUptoRow.holds Try.pinned (OpenSpec.upto declWireSpec)

/-- 'intervalmonlaw10.DeclRound', WHERE WHAT IT READS IS OF BULK AT MOST 1048576: true; the input reads as it did. -/
def declRoundUptoRow : OpenClaim := { program := "ytblbieenfghbdaa", sum := "0c3a76ee47f384a85dabc24bbbdc22224d1b1bc29100e0453cfdcfa1ac6b3bd4", func := "intervalmon/intervalmonlaw10.DeclRound", spec := "declRound", inPlace := ["internal/bytealg.IndexByteString", "internal/bytealg.IndexString", "internal/abi.NoEscape"], unfollowed := true, recurses := true, named := ["internal/bytealg.MaxLen"], apart := false, narrowed := true }
def DeclRoundUptoSaid : Prop := declRoundUptoRow.holds Try.pinned (OpenSpec.upto declRoundSpec)

/-- 'intervalmonlaw10.DeclReads', WHERE WHAT IT READS IS OF BULK AT MOST 1048576: true; the input reads as it did. -/
def declReadsUptoRow : OpenClaim := { program := "ytblbieenfghbdaa", sum := "0c3a76ee47f384a85dabc24bbbdc22224d1b1bc29100e0453cfdcfa1ac6b3bd4", func := "intervalmon/intervalmonlaw10.DeclReads", spec := "declReads", inPlace := ["internal/bytealg.IndexByteString", "internal/bytealg.IndexString", "internal/abi.NoEscape"], unfollowed := true, recurses := true, named := ["internal/bytealg.MaxLen"], apart := false, narrowed := true }
def DeclReadsUptoSaid : Prop := declReadsUptoRow.holds Try.pinned (OpenSpec.upto declReadsSpec)

end Rows
end Go.Proofs.Ytblbieenfghbdaa
