/-
  DERIVED. GIVEN WITH THE SEED: THE CARDS: each row of YtblbieenfghbdaaDoorRows.lean that lists a variable, with what it lists TIED to the program's text (the seventh form; the later family's looks); each row that meets fmt, with fmt's text TOLD by the authors' own Lean function (tested against real Go, not proved from fmt's source: count such statements apart). THE CARD IS WHAT COUNTS. Prove the row's statement (the work); the ties are given (YtblbieenfghbdaaDoorTie.lean); close each card by the builder's one call (the guide's Derived/Test/ToyasCard.lean, 'card_holds'). Laid BY PROGRAM, IN A SANDBOX (cutbox-door.mjs). By AI agents, Wed Nov 11 2026. No macro, syntax, notation, axiom, sorry.
-/
import Derived.Test.YtblbieenfghbdaaDoorRows
import GoSem.ClaimSeven
namespace Go.Proofs.YtblbieenfghbdaaDoor
namespace Rows

/-- THE TIED CARD OF 'intervalmonlaw15.CodecInts'. -/
def codecIntsCard : Claim7 := { stood := { row := codecIntsRow, standIns := [], harness := (true, "178b520d4444fd66c266bb3e889a9d2063315cf6731c57a491ab663cfa14f3dd"), looks := false }, kinds := [], alts := [], laidByText := true, laidKinds := [.widerDeep], laidTests := true, laidLooks := .later }
def CodecIntsCardSaid : Prop := Claim7.holds Tryd.pinned (.plain (OpenSpec.ofChange codecIntsSpec)) codecIntsCard

/-- THE TIED CARD OF 'intervalmonlaw15.CodecDict'. -/
def codecDictCard : Claim7 := { stood := { row := codecDictRow, standIns := [], harness := (true, "178b520d4444fd66c266bb3e889a9d2063315cf6731c57a491ab663cfa14f3dd"), looks := false }, kinds := [], alts := [], laidByText := true, laidKinds := [.widerDeep], laidTests := true, laidLooks := .later }
def CodecDictCardSaid : Prop := Claim7.holds Tryd.pinned (.plain (OpenSpec.ofChange codecDictSpec)) codecDictCard

/-- THE TIED CARD OF 'intervalmonlaw18.BlockEncodes'. -/
def blockEncodesCard : Claim7 := { stood := { row := blockEncodesRow, standIns := [], harness := (true, "178b520d4444fd66c266bb3e889a9d2063315cf6731c57a491ab663cfa14f3dd"), looks := false }, kinds := [], alts := [], laidByText := true, laidKinds := [.widerDeep, .data], laidTests := true, laidLooks := .later }
def BlockEncodesCardSaid : Prop := Claim7.holds Tryd.pinned (.plain (OpenSpec.ofChange blockEncodesSpec)) blockEncodesCard

/-- THE TIED CARD OF 'intervalmonlaw18.BlockEqual'. -/
def blockEqualCard : Claim7 := { stood := { row := blockEqualRow, standIns := [], harness := (true, "178b520d4444fd66c266bb3e889a9d2063315cf6731c57a491ab663cfa14f3dd"), looks := false }, kinds := [], alts := [], laidByText := true, laidKinds := [.widerDeep, .data], laidTests := true, laidLooks := .later }
def BlockEqualCardSaid : Prop := Claim7.holds Tryd.pinned (.plain (OpenSpec.ofChange blockEqualSpec)) blockEqualCard

/-- THE TIED CARD OF 'intervalmonlaw15.CodecEncodes'. -/
def codecEncodesCard : Claim7 := { stood := { row := codecEncodesRow, standIns := [], harness := (true, "178b520d4444fd66c266bb3e889a9d2063315cf6731c57a491ab663cfa14f3dd"), looks := false }, kinds := [], alts := [], laidByText := true, laidKinds := [.widerDeep], laidTests := true, laidLooks := .later }
def CodecEncodesCardSaid : Prop := Claim7.holds Tryd.pinned (.plain (OpenSpec.ofChange codecEncodesSpec)) codecEncodesCard

/-- THE TIED CARD OF 'intervalmonlaw15.CodecCompact'. -/
def codecCompactCard : Claim7 := { stood := { row := codecCompactRow, standIns := [], harness := (true, "178b520d4444fd66c266bb3e889a9d2063315cf6731c57a491ab663cfa14f3dd"), looks := false }, kinds := [], alts := [], laidByText := true, laidKinds := [.widerDeep], laidTests := true, laidLooks := .later }
def CodecCompactCardSaid : Prop := Claim7.holds Tryd.pinned (.plain (OpenSpec.ofChange codecCompactSpec)) codecCompactCard

/-- THE TIED CARD OF 'intervalmonlaw15.CodecDecodes'. -/
def codecDecodesCard : Claim7 := { stood := { row := codecDecodesRow, standIns := [], harness := (true, "178b520d4444fd66c266bb3e889a9d2063315cf6731c57a491ab663cfa14f3dd"), looks := false }, kinds := [], alts := [], laidByText := true, laidKinds := [.widerDeep], laidTests := true, laidLooks := .later }
def CodecDecodesCardSaid : Prop := Claim7.holds Tryd.pinned (.plain (OpenSpec.ofChange codecDecodesSpec)) codecDecodesCard

/-- THE TIED CARD OF 'intervalmonlaw15.CodecRound'. -/
def codecRoundCard : Claim7 := { stood := { row := codecRoundRow, standIns := [], harness := (true, "178b520d4444fd66c266bb3e889a9d2063315cf6731c57a491ab663cfa14f3dd"), looks := false }, kinds := [], alts := [], laidByText := true, laidKinds := [.widerDeep], laidTests := true, laidLooks := .later }
def CodecRoundCardSaid : Prop := Claim7.holds Tryd.pinned (.plain (OpenSpec.ofChange codecRoundSpec)) codecRoundCard

/-- THE TIED CARD OF 'intervalmonlaw15.CodecOne'. -/
def codecOneCard : Claim7 := { stood := { row := codecOneRow, standIns := [], harness := (true, "178b520d4444fd66c266bb3e889a9d2063315cf6731c57a491ab663cfa14f3dd"), looks := false }, kinds := [], alts := [], laidByText := true, laidKinds := [.widerDeep], laidTests := true, laidLooks := .later }
def CodecOneCardSaid : Prop := Claim7.holds Tryd.pinned (.plain (OpenSpec.ofChange codecOneSpec)) codecOneCard

/-- THE TIED CARD OF 'intervalmonlaw15.CodecKeys'. -/
def codecKeysCard : Claim7 := { stood := { row := codecKeysRow, standIns := [], harness := (true, "178b520d4444fd66c266bb3e889a9d2063315cf6731c57a491ab663cfa14f3dd"), looks := false }, kinds := [], alts := [], laidByText := true, laidKinds := [.widerDeep], laidTests := true, laidLooks := .later }
def CodecKeysCardSaid : Prop := Claim7.holds Tryd.pinned (.plain (OpenSpec.ofChange codecKeysSpec)) codecKeysCard

/-- THE TIED CARD OF 'intervalmonlaw18.BlockDetects'. -/
def blockDetectsCard : Claim7 := { stood := { row := blockDetectsRow, standIns := [], harness := (true, "178b520d4444fd66c266bb3e889a9d2063315cf6731c57a491ab663cfa14f3dd"), looks := false }, kinds := [], alts := [], laidByText := true, laidKinds := [.widerDeep, .data], laidTests := true, laidLooks := .later }
def BlockDetectsCardSaid : Prop := Claim7.holds Tryd.pinned (.plain (OpenSpec.ofChange blockDetectsSpec)) blockDetectsCard

/-- THE TIED CARD OF 'intervalmonlaw18.BlockRound'. -/
def blockRoundCard : Claim7 := { stood := { row := blockRoundRow, standIns := [], harness := (true, "178b520d4444fd66c266bb3e889a9d2063315cf6731c57a491ab663cfa14f3dd"), looks := false }, kinds := [], alts := [], laidByText := true, laidKinds := [.widerDeep, .data], laidTests := true, laidLooks := .later }
def BlockRoundCardSaid : Prop := Claim7.holds Tryd.pinned (.plain (OpenSpec.ofChange blockRoundSpec)) blockRoundCard

/-- THE TIED CARD OF 'intervalmonlaw18.BlockIds'. -/
def blockIdsCard : Claim7 := { stood := { row := blockIdsRow, standIns := [], harness := (true, "178b520d4444fd66c266bb3e889a9d2063315cf6731c57a491ab663cfa14f3dd"), looks := false }, kinds := [], alts := [], laidByText := true, laidKinds := [.widerDeep, .data], laidTests := true, laidLooks := .later }
def BlockIdsCardSaid : Prop := Claim7.holds Tryd.pinned (.plain (OpenSpec.ofChange blockIdsSpec)) blockIdsCard

/-- THE SECOND FORM's CARD OF 'intervalmonlaw15.CodecInts'. -/
def codecIntsUptoCard : Claim7 := { stood := { row := codecIntsUptoRow, standIns := [], harness := (true, "178b520d4444fd66c266bb3e889a9d2063315cf6731c57a491ab663cfa14f3dd"), looks := false }, kinds := [], alts := [], laidByText := true, laidKinds := [.widerDeep], laidTests := true, laidLooks := .later }
def CodecIntsUptoCardSaid : Prop := Claim7.holds Tryd.pinned (.plain (OpenSpec.upto codecIntsSpec)) codecIntsUptoCard

/-- THE SECOND FORM's CARD OF 'intervalmonlaw15.CodecDict'. -/
def codecDictUptoCard : Claim7 := { stood := { row := codecDictUptoRow, standIns := [], harness := (true, "178b520d4444fd66c266bb3e889a9d2063315cf6731c57a491ab663cfa14f3dd"), looks := false }, kinds := [], alts := [], laidByText := true, laidKinds := [.widerDeep], laidTests := true, laidLooks := .later }
def CodecDictUptoCardSaid : Prop := Claim7.holds Tryd.pinned (.plain (OpenSpec.upto codecDictSpec)) codecDictUptoCard

/-- THE SECOND FORM's CARD OF 'intervalmonlaw18.BlockEncodes'. -/
def blockEncodesUptoCard : Claim7 := { stood := { row := blockEncodesUptoRow, standIns := [], harness := (true, "178b520d4444fd66c266bb3e889a9d2063315cf6731c57a491ab663cfa14f3dd"), looks := false }, kinds := [], alts := [], laidByText := true, laidKinds := [.widerDeep, .data], laidTests := true, laidLooks := .later }
def BlockEncodesUptoCardSaid : Prop := Claim7.holds Tryd.pinned (.plain (OpenSpec.upto blockEncodesSpec)) blockEncodesUptoCard

/-- THE SECOND FORM's CARD OF 'intervalmonlaw18.BlockEqual'. -/
def blockEqualUptoCard : Claim7 := { stood := { row := blockEqualUptoRow, standIns := [], harness := (true, "178b520d4444fd66c266bb3e889a9d2063315cf6731c57a491ab663cfa14f3dd"), looks := false }, kinds := [], alts := [], laidByText := true, laidKinds := [.widerDeep, .data], laidTests := true, laidLooks := .later }
def BlockEqualUptoCardSaid : Prop := Claim7.holds Tryd.pinned (.plain (OpenSpec.upto blockEqualSpec)) blockEqualUptoCard

/-- THE SECOND FORM's CARD OF 'intervalmonlaw15.CodecEncodes'. -/
def codecEncodesUptoCard : Claim7 := { stood := { row := codecEncodesUptoRow, standIns := [], harness := (true, "178b520d4444fd66c266bb3e889a9d2063315cf6731c57a491ab663cfa14f3dd"), looks := false }, kinds := [], alts := [], laidByText := true, laidKinds := [.widerDeep], laidTests := true, laidLooks := .later }
def CodecEncodesUptoCardSaid : Prop := Claim7.holds Tryd.pinned (.plain (OpenSpec.upto codecEncodesSpec)) codecEncodesUptoCard

/-- THE SECOND FORM's CARD OF 'intervalmonlaw15.CodecCompact'. -/
def codecCompactUptoCard : Claim7 := { stood := { row := codecCompactUptoRow, standIns := [], harness := (true, "178b520d4444fd66c266bb3e889a9d2063315cf6731c57a491ab663cfa14f3dd"), looks := false }, kinds := [], alts := [], laidByText := true, laidKinds := [.widerDeep], laidTests := true, laidLooks := .later }
def CodecCompactUptoCardSaid : Prop := Claim7.holds Tryd.pinned (.plain (OpenSpec.upto codecCompactSpec)) codecCompactUptoCard

/-- THE SECOND FORM's CARD OF 'intervalmonlaw15.CodecDecodes'. -/
def codecDecodesUptoCard : Claim7 := { stood := { row := codecDecodesUptoRow, standIns := [], harness := (true, "178b520d4444fd66c266bb3e889a9d2063315cf6731c57a491ab663cfa14f3dd"), looks := false }, kinds := [], alts := [], laidByText := true, laidKinds := [.widerDeep], laidTests := true, laidLooks := .later }
def CodecDecodesUptoCardSaid : Prop := Claim7.holds Tryd.pinned (.plain (OpenSpec.upto codecDecodesSpec)) codecDecodesUptoCard

/-- THE SECOND FORM's CARD OF 'intervalmonlaw15.CodecRound'. -/
def codecRoundUptoCard : Claim7 := { stood := { row := codecRoundUptoRow, standIns := [], harness := (true, "178b520d4444fd66c266bb3e889a9d2063315cf6731c57a491ab663cfa14f3dd"), looks := false }, kinds := [], alts := [], laidByText := true, laidKinds := [.widerDeep], laidTests := true, laidLooks := .later }
def CodecRoundUptoCardSaid : Prop := Claim7.holds Tryd.pinned (.plain (OpenSpec.upto codecRoundSpec)) codecRoundUptoCard

/-- THE SECOND FORM's CARD OF 'intervalmonlaw15.CodecOne'. -/
def codecOneUptoCard : Claim7 := { stood := { row := codecOneUptoRow, standIns := [], harness := (true, "178b520d4444fd66c266bb3e889a9d2063315cf6731c57a491ab663cfa14f3dd"), looks := false }, kinds := [], alts := [], laidByText := true, laidKinds := [.widerDeep], laidTests := true, laidLooks := .later }
def CodecOneUptoCardSaid : Prop := Claim7.holds Tryd.pinned (.plain (OpenSpec.upto codecOneSpec)) codecOneUptoCard

/-- THE SECOND FORM's CARD OF 'intervalmonlaw15.CodecKeys'. -/
def codecKeysUptoCard : Claim7 := { stood := { row := codecKeysUptoRow, standIns := [], harness := (true, "178b520d4444fd66c266bb3e889a9d2063315cf6731c57a491ab663cfa14f3dd"), looks := false }, kinds := [], alts := [], laidByText := true, laidKinds := [.widerDeep], laidTests := true, laidLooks := .later }
def CodecKeysUptoCardSaid : Prop := Claim7.holds Tryd.pinned (.plain (OpenSpec.upto codecKeysSpec)) codecKeysUptoCard

/-- THE SECOND FORM's CARD OF 'intervalmonlaw18.BlockDetects'. -/
def blockDetectsUptoCard : Claim7 := { stood := { row := blockDetectsUptoRow, standIns := [], harness := (true, "178b520d4444fd66c266bb3e889a9d2063315cf6731c57a491ab663cfa14f3dd"), looks := false }, kinds := [], alts := [], laidByText := true, laidKinds := [.widerDeep, .data], laidTests := true, laidLooks := .later }
def BlockDetectsUptoCardSaid : Prop := Claim7.holds Tryd.pinned (.plain (OpenSpec.upto blockDetectsSpec)) blockDetectsUptoCard

/-- THE SECOND FORM's CARD OF 'intervalmonlaw18.BlockRound'. -/
def blockRoundUptoCard : Claim7 := { stood := { row := blockRoundUptoRow, standIns := [], harness := (true, "178b520d4444fd66c266bb3e889a9d2063315cf6731c57a491ab663cfa14f3dd"), looks := false }, kinds := [], alts := [], laidByText := true, laidKinds := [.widerDeep, .data], laidTests := true, laidLooks := .later }
def BlockRoundUptoCardSaid : Prop := Claim7.holds Tryd.pinned (.plain (OpenSpec.upto blockRoundSpec)) blockRoundUptoCard

/-- THE SECOND FORM's CARD OF 'intervalmonlaw18.BlockIds'. -/
def blockIdsUptoCard : Claim7 := { stood := { row := blockIdsUptoRow, standIns := [], harness := (true, "178b520d4444fd66c266bb3e889a9d2063315cf6731c57a491ab663cfa14f3dd"), looks := false }, kinds := [], alts := [], laidByText := true, laidKinds := [.widerDeep, .data], laidTests := true, laidLooks := .later }
def BlockIdsUptoCardSaid : Prop := Claim7.holds Tryd.pinned (.plain (OpenSpec.upto blockIdsSpec)) blockIdsUptoCard
end Rows
end Go.Proofs.YtblbieenfghbdaaDoor
