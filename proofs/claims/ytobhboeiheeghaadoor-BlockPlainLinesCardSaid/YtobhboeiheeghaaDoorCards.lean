/-
  DERIVED. GIVEN WITH THE SEED: THE CARDS: each row of YtobhboeiheeghaaDoorRows.lean that lists a variable, with what it lists TIED to the program's text (the seventh form; the later family's looks); each row that meets fmt, with fmt's text TOLD by the authors' own Lean function (tested against real Go, not proved from fmt's source: count such statements apart). THE CARD IS WHAT COUNTS. Prove the row's statement (the work); the ties are given (YtobhboeiheeghaaDoorTie.lean); close each card by the builder's one call (the guide's Derived/Test/ToyasCard.lean, 'card_holds'). Laid BY PROGRAM, IN A SANDBOX (cutbox-door.mjs). By AI agents, Wed Nov 11 2026. No macro, syntax, notation, axiom, sorry.
-/
import Derived.Test.YtobhboeiheeghaaDoorRows
import GoSem.ClaimSeven
namespace Go.Proofs.YtobhboeiheeghaaDoor
namespace Rows

/-- THE TIED CARD OF 'copydesklaw03.BlockValidMatchesReference'. -/
def blockValidMatchesReferenceCard : Claim7 := { stood := { row := blockValidMatchesReferenceRow, standIns := [], harness := (true, "74714fd6e1e6c10412f81196d54a8ba3e06529d4b3b8db7c7663c55f3446e11d"), looks := false }, kinds := [], alts := [], laidByText := true, laidKinds := [.data, .pinned], laidTests := true, laidLooks := .later }
def BlockValidMatchesReferenceCardSaid : Prop := Claim7.holds Tryd.pinned (.plain (OpenSpec.ofChange blockValidMatchesReferenceSpec)) blockValidMatchesReferenceCard

/-- THE TIED CARD OF 'copydesklaw03.BlockSameMatchesReference'. -/
def blockSameMatchesReferenceCard : Claim7 := { stood := { row := blockSameMatchesReferenceRow, standIns := [], harness := (true, "74714fd6e1e6c10412f81196d54a8ba3e06529d4b3b8db7c7663c55f3446e11d"), looks := false }, kinds := [], alts := [], laidByText := true, laidKinds := [.data, .pinned], laidTests := true, laidLooks := .later }
def BlockSameMatchesReferenceCardSaid : Prop := Claim7.holds Tryd.pinned (.plain (OpenSpec.ofChange blockSameMatchesReferenceSpec)) blockSameMatchesReferenceCard

/-- THE TIED CARD OF 'copydesklaw03.BlockEncodeMatchesReference'. -/
def blockEncodeMatchesReferenceCard : Claim7 := { stood := { row := blockEncodeMatchesReferenceRow, standIns := [], harness := (true, "74714fd6e1e6c10412f81196d54a8ba3e06529d4b3b8db7c7663c55f3446e11d"), looks := false }, kinds := [], alts := [], laidByText := true, laidKinds := [.data, .pinned], laidTests := true, laidLooks := .later }
def BlockEncodeMatchesReferenceCardSaid : Prop := Claim7.holds Tryd.pinned (.plain (OpenSpec.ofChange blockEncodeMatchesReferenceSpec)) blockEncodeMatchesReferenceCard

/-- THE TIED CARD OF 'copydesklaw03.BlockDecodeMatchesReference'. -/
def blockDecodeMatchesReferenceCard : Claim7 := { stood := { row := blockDecodeMatchesReferenceRow, standIns := [], harness := (true, "74714fd6e1e6c10412f81196d54a8ba3e06529d4b3b8db7c7663c55f3446e11d"), looks := false }, kinds := [], alts := [], laidByText := true, laidKinds := [.data, .pinned], laidTests := true, laidLooks := .later }
def BlockDecodeMatchesReferenceCardSaid : Prop := Claim7.holds Tryd.pinned (.plain (OpenSpec.ofChange blockDecodeMatchesReferenceSpec)) blockDecodeMatchesReferenceCard

/-- THE TIED CARD OF 'copydesklaw03.BlockSentencesMatchesReference'. -/
def blockSentencesMatchesReferenceCard : Claim7 := { stood := { row := blockSentencesMatchesReferenceRow, standIns := [], harness := (true, "74714fd6e1e6c10412f81196d54a8ba3e06529d4b3b8db7c7663c55f3446e11d"), looks := false }, kinds := [], alts := [], laidByText := true, laidKinds := [.data, .pinned], laidTests := true, laidLooks := .later }
def BlockSentencesMatchesReferenceCardSaid : Prop := Claim7.holds Tryd.pinned (.plain (OpenSpec.ofChange blockSentencesMatchesReferenceSpec)) blockSentencesMatchesReferenceCard

/-- THE TIED CARD OF 'copydesklaw03.BlockPlainMatchesReference'. -/
def blockPlainMatchesReferenceCard : Claim7 := { stood := { row := blockPlainMatchesReferenceRow, standIns := [], harness := (true, "74714fd6e1e6c10412f81196d54a8ba3e06529d4b3b8db7c7663c55f3446e11d"), looks := false }, kinds := [], alts := [], laidByText := true, laidKinds := [.data, .pinned], laidTests := true, laidLooks := .later }
def BlockPlainMatchesReferenceCardSaid : Prop := Claim7.holds Tryd.pinned (.plain (OpenSpec.ofChange blockPlainMatchesReferenceSpec)) blockPlainMatchesReferenceCard

/-- THE TIED CARD OF 'copydesklaw03.BlockRoundTrip'. -/
def blockRoundTripCard : Claim7 := { stood := { row := blockRoundTripRow, standIns := [], harness := (true, "74714fd6e1e6c10412f81196d54a8ba3e06529d4b3b8db7c7663c55f3446e11d"), looks := false }, kinds := [], alts := [], laidByText := true, laidKinds := [.data, .pinned], laidTests := true, laidLooks := .later }
def BlockRoundTripCardSaid : Prop := Claim7.holds Tryd.pinned (.plain (OpenSpec.ofChange blockRoundTripSpec)) blockRoundTripCard

/-- THE TIED CARD OF 'copydesklaw03.BlockDecodedAgain'. -/
def blockDecodedAgainCard : Claim7 := { stood := { row := blockDecodedAgainRow, standIns := [], harness := (true, "74714fd6e1e6c10412f81196d54a8ba3e06529d4b3b8db7c7663c55f3446e11d"), looks := false }, kinds := [], alts := [], laidByText := true, laidKinds := [.data, .pinned], laidTests := true, laidLooks := .later }
def BlockDecodedAgainCardSaid : Prop := Claim7.holds Tryd.pinned (.plain (OpenSpec.ofChange blockDecodedAgainSpec)) blockDecodedAgainCard

/-- THE TIED CARD OF 'copydesklaw03.BlockPrefixes'. -/
def blockPrefixesCard : Claim7 := { stood := { row := blockPrefixesRow, standIns := [], harness := (true, "74714fd6e1e6c10412f81196d54a8ba3e06529d4b3b8db7c7663c55f3446e11d"), looks := false }, kinds := [], alts := [], laidByText := true, laidKinds := [.data, .pinned], laidTests := true, laidLooks := .later }
def BlockPrefixesCardSaid : Prop := Claim7.holds Tryd.pinned (.plain (OpenSpec.ofChange blockPrefixesSpec)) blockPrefixesCard

/-- THE TIED CARD OF 'copydesklaw03.BlockSentencesShape'. -/
def blockSentencesShapeCard : Claim7 := { stood := { row := blockSentencesShapeRow, standIns := [], harness := (true, "74714fd6e1e6c10412f81196d54a8ba3e06529d4b3b8db7c7663c55f3446e11d"), looks := false }, kinds := [], alts := [], laidByText := true, laidKinds := [.data, .pinned], laidTests := true, laidLooks := .later }
def BlockSentencesShapeCardSaid : Prop := Claim7.holds Tryd.pinned (.plain (OpenSpec.ofChange blockSentencesShapeSpec)) blockSentencesShapeCard

/-- THE TIED CARD OF 'copydesklaw03.BlockSentencesJoined'. -/
def blockSentencesJoinedCard : Claim7 := { stood := { row := blockSentencesJoinedRow, standIns := [], harness := (true, "74714fd6e1e6c10412f81196d54a8ba3e06529d4b3b8db7c7663c55f3446e11d"), looks := false }, kinds := [], alts := [], laidByText := true, laidKinds := [.data, .pinned], laidTests := true, laidLooks := .later }
def BlockSentencesJoinedCardSaid : Prop := Claim7.holds Tryd.pinned (.plain (OpenSpec.ofChange blockSentencesJoinedSpec)) blockSentencesJoinedCard

/-- THE TIED CARD OF 'copydesklaw03.BlockSentencesBuilt'. -/
def blockSentencesBuiltCard : Claim7 := { stood := { row := blockSentencesBuiltRow, standIns := [], harness := (true, "74714fd6e1e6c10412f81196d54a8ba3e06529d4b3b8db7c7663c55f3446e11d"), looks := false }, kinds := [], alts := [], laidByText := true, laidKinds := [.data, .pinned], laidTests := true, laidLooks := .later }
def BlockSentencesBuiltCardSaid : Prop := Claim7.holds Tryd.pinned (.plain (OpenSpec.ofChange blockSentencesBuiltSpec)) blockSentencesBuiltCard

/-- THE TIED CARD OF 'copydesklaw03.BlockPlainParts'. -/
def blockPlainPartsCard : Claim7 := { stood := { row := blockPlainPartsRow, standIns := [], harness := (true, "74714fd6e1e6c10412f81196d54a8ba3e06529d4b3b8db7c7663c55f3446e11d"), looks := false }, kinds := [], alts := [], laidByText := true, laidKinds := [.data, .pinned], laidTests := true, laidLooks := .later }
def BlockPlainPartsCardSaid : Prop := Claim7.holds Tryd.pinned (.plain (OpenSpec.ofChange blockPlainPartsSpec)) blockPlainPartsCard

/-- THE TIED CARD OF 'copydesklaw03.BlockPlainLines'. -/
def blockPlainLinesCard : Claim7 := { stood := { row := blockPlainLinesRow, standIns := [], harness := (true, "74714fd6e1e6c10412f81196d54a8ba3e06529d4b3b8db7c7663c55f3446e11d"), looks := false }, kinds := [], alts := [], laidByText := true, laidKinds := [.data, .pinned], laidTests := true, laidLooks := .later }
def BlockPlainLinesCardSaid : Prop := Claim7.holds Tryd.pinned (.plain (OpenSpec.ofChange blockPlainLinesSpec)) blockPlainLinesCard

/-- THE SECOND FORM's CARD OF 'copydesklaw03.BlockValidMatchesReference'. -/
def blockValidMatchesReferenceUptoCard : Claim7 := { stood := { row := blockValidMatchesReferenceUptoRow, standIns := [], harness := (true, "74714fd6e1e6c10412f81196d54a8ba3e06529d4b3b8db7c7663c55f3446e11d"), looks := false }, kinds := [], alts := [], laidByText := true, laidKinds := [.data, .pinned], laidTests := true, laidLooks := .later }
def BlockValidMatchesReferenceUptoCardSaid : Prop := Claim7.holds Tryd.pinned (.plain (OpenSpec.upto blockValidMatchesReferenceSpec)) blockValidMatchesReferenceUptoCard

/-- THE SECOND FORM's CARD OF 'copydesklaw03.BlockSameMatchesReference'. -/
def blockSameMatchesReferenceUptoCard : Claim7 := { stood := { row := blockSameMatchesReferenceUptoRow, standIns := [], harness := (true, "74714fd6e1e6c10412f81196d54a8ba3e06529d4b3b8db7c7663c55f3446e11d"), looks := false }, kinds := [], alts := [], laidByText := true, laidKinds := [.data, .pinned], laidTests := true, laidLooks := .later }
def BlockSameMatchesReferenceUptoCardSaid : Prop := Claim7.holds Tryd.pinned (.plain (OpenSpec.upto blockSameMatchesReferenceSpec)) blockSameMatchesReferenceUptoCard

/-- THE SECOND FORM's CARD OF 'copydesklaw03.BlockEncodeMatchesReference'. -/
def blockEncodeMatchesReferenceUptoCard : Claim7 := { stood := { row := blockEncodeMatchesReferenceUptoRow, standIns := [], harness := (true, "74714fd6e1e6c10412f81196d54a8ba3e06529d4b3b8db7c7663c55f3446e11d"), looks := false }, kinds := [], alts := [], laidByText := true, laidKinds := [.data, .pinned], laidTests := true, laidLooks := .later }
def BlockEncodeMatchesReferenceUptoCardSaid : Prop := Claim7.holds Tryd.pinned (.plain (OpenSpec.upto blockEncodeMatchesReferenceSpec)) blockEncodeMatchesReferenceUptoCard

/-- THE SECOND FORM's CARD OF 'copydesklaw03.BlockDecodeMatchesReference'. -/
def blockDecodeMatchesReferenceUptoCard : Claim7 := { stood := { row := blockDecodeMatchesReferenceUptoRow, standIns := [], harness := (true, "74714fd6e1e6c10412f81196d54a8ba3e06529d4b3b8db7c7663c55f3446e11d"), looks := false }, kinds := [], alts := [], laidByText := true, laidKinds := [.data, .pinned], laidTests := true, laidLooks := .later }
def BlockDecodeMatchesReferenceUptoCardSaid : Prop := Claim7.holds Tryd.pinned (.plain (OpenSpec.upto blockDecodeMatchesReferenceSpec)) blockDecodeMatchesReferenceUptoCard

/-- THE SECOND FORM's CARD OF 'copydesklaw03.BlockSentencesMatchesReference'. -/
def blockSentencesMatchesReferenceUptoCard : Claim7 := { stood := { row := blockSentencesMatchesReferenceUptoRow, standIns := [], harness := (true, "74714fd6e1e6c10412f81196d54a8ba3e06529d4b3b8db7c7663c55f3446e11d"), looks := false }, kinds := [], alts := [], laidByText := true, laidKinds := [.data, .pinned], laidTests := true, laidLooks := .later }
def BlockSentencesMatchesReferenceUptoCardSaid : Prop := Claim7.holds Tryd.pinned (.plain (OpenSpec.upto blockSentencesMatchesReferenceSpec)) blockSentencesMatchesReferenceUptoCard

/-- THE SECOND FORM's CARD OF 'copydesklaw03.BlockPlainMatchesReference'. -/
def blockPlainMatchesReferenceUptoCard : Claim7 := { stood := { row := blockPlainMatchesReferenceUptoRow, standIns := [], harness := (true, "74714fd6e1e6c10412f81196d54a8ba3e06529d4b3b8db7c7663c55f3446e11d"), looks := false }, kinds := [], alts := [], laidByText := true, laidKinds := [.data, .pinned], laidTests := true, laidLooks := .later }
def BlockPlainMatchesReferenceUptoCardSaid : Prop := Claim7.holds Tryd.pinned (.plain (OpenSpec.upto blockPlainMatchesReferenceSpec)) blockPlainMatchesReferenceUptoCard

/-- THE SECOND FORM's CARD OF 'copydesklaw03.BlockRoundTrip'. -/
def blockRoundTripUptoCard : Claim7 := { stood := { row := blockRoundTripUptoRow, standIns := [], harness := (true, "74714fd6e1e6c10412f81196d54a8ba3e06529d4b3b8db7c7663c55f3446e11d"), looks := false }, kinds := [], alts := [], laidByText := true, laidKinds := [.data, .pinned], laidTests := true, laidLooks := .later }
def BlockRoundTripUptoCardSaid : Prop := Claim7.holds Tryd.pinned (.plain (OpenSpec.upto blockRoundTripSpec)) blockRoundTripUptoCard

/-- THE SECOND FORM's CARD OF 'copydesklaw03.BlockDecodedAgain'. -/
def blockDecodedAgainUptoCard : Claim7 := { stood := { row := blockDecodedAgainUptoRow, standIns := [], harness := (true, "74714fd6e1e6c10412f81196d54a8ba3e06529d4b3b8db7c7663c55f3446e11d"), looks := false }, kinds := [], alts := [], laidByText := true, laidKinds := [.data, .pinned], laidTests := true, laidLooks := .later }
def BlockDecodedAgainUptoCardSaid : Prop := Claim7.holds Tryd.pinned (.plain (OpenSpec.upto blockDecodedAgainSpec)) blockDecodedAgainUptoCard

/-- THE SECOND FORM's CARD OF 'copydesklaw03.BlockPrefixes'. -/
def blockPrefixesUptoCard : Claim7 := { stood := { row := blockPrefixesUptoRow, standIns := [], harness := (true, "74714fd6e1e6c10412f81196d54a8ba3e06529d4b3b8db7c7663c55f3446e11d"), looks := false }, kinds := [], alts := [], laidByText := true, laidKinds := [.data, .pinned], laidTests := true, laidLooks := .later }
def BlockPrefixesUptoCardSaid : Prop := Claim7.holds Tryd.pinned (.plain (OpenSpec.upto blockPrefixesSpec)) blockPrefixesUptoCard

/-- THE SECOND FORM's CARD OF 'copydesklaw03.BlockSentencesShape'. -/
def blockSentencesShapeUptoCard : Claim7 := { stood := { row := blockSentencesShapeUptoRow, standIns := [], harness := (true, "74714fd6e1e6c10412f81196d54a8ba3e06529d4b3b8db7c7663c55f3446e11d"), looks := false }, kinds := [], alts := [], laidByText := true, laidKinds := [.data, .pinned], laidTests := true, laidLooks := .later }
def BlockSentencesShapeUptoCardSaid : Prop := Claim7.holds Tryd.pinned (.plain (OpenSpec.upto blockSentencesShapeSpec)) blockSentencesShapeUptoCard

/-- THE SECOND FORM's CARD OF 'copydesklaw03.BlockSentencesJoined'. -/
def blockSentencesJoinedUptoCard : Claim7 := { stood := { row := blockSentencesJoinedUptoRow, standIns := [], harness := (true, "74714fd6e1e6c10412f81196d54a8ba3e06529d4b3b8db7c7663c55f3446e11d"), looks := false }, kinds := [], alts := [], laidByText := true, laidKinds := [.data, .pinned], laidTests := true, laidLooks := .later }
def BlockSentencesJoinedUptoCardSaid : Prop := Claim7.holds Tryd.pinned (.plain (OpenSpec.upto blockSentencesJoinedSpec)) blockSentencesJoinedUptoCard

/-- THE SECOND FORM's CARD OF 'copydesklaw03.BlockSentencesBuilt'. -/
def blockSentencesBuiltUptoCard : Claim7 := { stood := { row := blockSentencesBuiltUptoRow, standIns := [], harness := (true, "74714fd6e1e6c10412f81196d54a8ba3e06529d4b3b8db7c7663c55f3446e11d"), looks := false }, kinds := [], alts := [], laidByText := true, laidKinds := [.data, .pinned], laidTests := true, laidLooks := .later }
def BlockSentencesBuiltUptoCardSaid : Prop := Claim7.holds Tryd.pinned (.plain (OpenSpec.upto blockSentencesBuiltSpec)) blockSentencesBuiltUptoCard

/-- THE SECOND FORM's CARD OF 'copydesklaw03.BlockPlainParts'. -/
def blockPlainPartsUptoCard : Claim7 := { stood := { row := blockPlainPartsUptoRow, standIns := [], harness := (true, "74714fd6e1e6c10412f81196d54a8ba3e06529d4b3b8db7c7663c55f3446e11d"), looks := false }, kinds := [], alts := [], laidByText := true, laidKinds := [.data, .pinned], laidTests := true, laidLooks := .later }
def BlockPlainPartsUptoCardSaid : Prop := Claim7.holds Tryd.pinned (.plain (OpenSpec.upto blockPlainPartsSpec)) blockPlainPartsUptoCard

/-- THE SECOND FORM's CARD OF 'copydesklaw03.BlockPlainLines'. -/
def blockPlainLinesUptoCard : Claim7 := { stood := { row := blockPlainLinesUptoRow, standIns := [], harness := (true, "74714fd6e1e6c10412f81196d54a8ba3e06529d4b3b8db7c7663c55f3446e11d"), looks := false }, kinds := [], alts := [], laidByText := true, laidKinds := [.data, .pinned], laidTests := true, laidLooks := .later }
def BlockPlainLinesUptoCardSaid : Prop := Claim7.holds Tryd.pinned (.plain (OpenSpec.upto blockPlainLinesSpec)) blockPlainLinesUptoCard
end Rows
end Go.Proofs.YtobhboeiheeghaaDoor
