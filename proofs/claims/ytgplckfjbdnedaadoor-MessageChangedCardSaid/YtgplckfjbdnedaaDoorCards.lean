/-
  DERIVED. GIVEN WITH THE SEED: THE CARDS: each row of YtgplckfjbdnedaaDoorRows.lean that lists a variable, with what it lists TIED to the program's text (the seventh form; the later family's looks); each row that meets fmt, with fmt's text TOLD by the authors' own Lean function (tested against real Go, not proved from fmt's source: count such statements apart). THE CARD IS WHAT COUNTS. Prove the row's statement (the work); the ties are given (YtgplckfjbdnedaaDoorTie.lean); close each card by the builder's one call (the guide's Derived/Test/ToyasCard.lean, 'card_holds'). Laid BY PROGRAM, IN A SANDBOX (cutbox-door.mjs). By AI agents, Wed Nov 11 2026. No macro, syntax, notation, axiom, sorry.
-/
import Derived.Test.YtgplckfjbdnedaaDoorRows
import GoSem.ClaimSeven
namespace Go.Proofs.YtgplckfjbdnedaaDoor
namespace Rows

/-- THE TIED CARD OF 'copydesklaw20.MessageEncodeMatchesReference'. -/
def messageEncodeMatchesReferenceCard : Claim7 := { stood := { row := messageEncodeMatchesReferenceRow, standIns := [], harness := (true, "c636e55c424708c525e506a43fecfe15433409ba21f118bf30d4597e4b835174"), looks := true }, kinds := [], alts := [], laidByText := true, laidKinds := [.handle, .data], laidTests := true, laidLooks := .later }
def MessageEncodeMatchesReferenceCardSaid : Prop := Claim7.holds Tryd.pinned (.plain (OpenSpec.ofChange messageEncodeMatchesReferenceSpec)) messageEncodeMatchesReferenceCard

/-- THE TIED CARD OF 'copydesklaw20.MessageDecodeMatchesReference'. -/
def messageDecodeMatchesReferenceCard : Claim7 := { stood := { row := messageDecodeMatchesReferenceRow, standIns := [], harness := (true, "c636e55c424708c525e506a43fecfe15433409ba21f118bf30d4597e4b835174"), looks := true }, kinds := [], alts := [], laidByText := true, laidKinds := [.handle, .data], laidTests := true, laidLooks := .later }
def MessageDecodeMatchesReferenceCardSaid : Prop := Claim7.holds Tryd.pinned (.plain (OpenSpec.ofChange messageDecodeMatchesReferenceSpec)) messageDecodeMatchesReferenceCard

/-- THE TIED CARD OF 'copydesklaw20.MessageDecodeSealed'. -/
def messageDecodeSealedCard : Claim7 := { stood := { row := messageDecodeSealedRow, standIns := [], harness := (true, "c636e55c424708c525e506a43fecfe15433409ba21f118bf30d4597e4b835174"), looks := true }, kinds := [], alts := [], laidByText := true, laidKinds := [.handle, .data], laidTests := true, laidLooks := .later }
def MessageDecodeSealedCardSaid : Prop := Claim7.holds Tryd.pinned (.plain (OpenSpec.ofChange messageDecodeSealedSpec)) messageDecodeSealedCard

/-- THE TIED CARD OF 'copydesklaw20.MessageRoundTrip'. -/
def messageRoundTripCard : Claim7 := { stood := { row := messageRoundTripRow, standIns := [], harness := (true, "c636e55c424708c525e506a43fecfe15433409ba21f118bf30d4597e4b835174"), looks := true }, kinds := [], alts := [], laidByText := true, laidKinds := [.handle, .data], laidTests := true, laidLooks := .later }
def MessageRoundTripCardSaid : Prop := Claim7.holds Tryd.pinned (.plain (OpenSpec.ofChange messageRoundTripSpec)) messageRoundTripCard

/-- THE TIED CARD OF 'copydesklaw20.MessageDecodedAgain'. -/
def messageDecodedAgainCard : Claim7 := { stood := { row := messageDecodedAgainRow, standIns := [], harness := (true, "c636e55c424708c525e506a43fecfe15433409ba21f118bf30d4597e4b835174"), looks := true }, kinds := [], alts := [], laidByText := true, laidKinds := [.handle, .data], laidTests := true, laidLooks := .later }
def MessageDecodedAgainCardSaid : Prop := Claim7.holds Tryd.pinned (.plain (OpenSpec.ofChange messageDecodedAgainSpec)) messageDecodedAgainCard

/-- THE TIED CARD OF 'copydesklaw20.MessageChanged'. -/
def messageChangedCard : Claim7 := { stood := { row := messageChangedRow, standIns := [], harness := (true, "c636e55c424708c525e506a43fecfe15433409ba21f118bf30d4597e4b835174"), looks := true }, kinds := [], alts := [], laidByText := true, laidKinds := [.handle, .data], laidTests := true, laidLooks := .later }
def MessageChangedCardSaid : Prop := Claim7.holds Tryd.pinned (.plain (OpenSpec.ofChange messageChangedSpec)) messageChangedCard

/-- THE TIED CARD OF 'copydesklaw20.MessageLength'. -/
def messageLengthCard : Claim7 := { stood := { row := messageLengthRow, standIns := [], harness := (true, "c636e55c424708c525e506a43fecfe15433409ba21f118bf30d4597e4b835174"), looks := true }, kinds := [], alts := [], laidByText := true, laidKinds := [.handle, .data], laidTests := true, laidLooks := .later }
def MessageLengthCardSaid : Prop := Claim7.holds Tryd.pinned (.plain (OpenSpec.ofChange messageLengthSpec)) messageLengthCard

/-- THE SECOND FORM's CARD OF 'copydesklaw20.MessageEncodeMatchesReference'. -/
def messageEncodeMatchesReferenceUptoCard : Claim7 := { stood := { row := messageEncodeMatchesReferenceUptoRow, standIns := [], harness := (true, "c636e55c424708c525e506a43fecfe15433409ba21f118bf30d4597e4b835174"), looks := true }, kinds := [], alts := [], laidByText := true, laidKinds := [.handle, .data], laidTests := true, laidLooks := .later }
def MessageEncodeMatchesReferenceUptoCardSaid : Prop := Claim7.holds Tryd.pinned (.plain (OpenSpec.upto messageEncodeMatchesReferenceSpec)) messageEncodeMatchesReferenceUptoCard

/-- THE SECOND FORM's CARD OF 'copydesklaw20.MessageDecodeMatchesReference'. -/
def messageDecodeMatchesReferenceUptoCard : Claim7 := { stood := { row := messageDecodeMatchesReferenceUptoRow, standIns := [], harness := (true, "c636e55c424708c525e506a43fecfe15433409ba21f118bf30d4597e4b835174"), looks := true }, kinds := [], alts := [], laidByText := true, laidKinds := [.handle, .data], laidTests := true, laidLooks := .later }
def MessageDecodeMatchesReferenceUptoCardSaid : Prop := Claim7.holds Tryd.pinned (.plain (OpenSpec.upto messageDecodeMatchesReferenceSpec)) messageDecodeMatchesReferenceUptoCard

/-- THE SECOND FORM's CARD OF 'copydesklaw20.MessageDecodeSealed'. -/
def messageDecodeSealedUptoCard : Claim7 := { stood := { row := messageDecodeSealedUptoRow, standIns := [], harness := (true, "c636e55c424708c525e506a43fecfe15433409ba21f118bf30d4597e4b835174"), looks := true }, kinds := [], alts := [], laidByText := true, laidKinds := [.handle, .data], laidTests := true, laidLooks := .later }
def MessageDecodeSealedUptoCardSaid : Prop := Claim7.holds Tryd.pinned (.plain (OpenSpec.upto messageDecodeSealedSpec)) messageDecodeSealedUptoCard

/-- THE SECOND FORM's CARD OF 'copydesklaw20.MessageRoundTrip'. -/
def messageRoundTripUptoCard : Claim7 := { stood := { row := messageRoundTripUptoRow, standIns := [], harness := (true, "c636e55c424708c525e506a43fecfe15433409ba21f118bf30d4597e4b835174"), looks := true }, kinds := [], alts := [], laidByText := true, laidKinds := [.handle, .data], laidTests := true, laidLooks := .later }
def MessageRoundTripUptoCardSaid : Prop := Claim7.holds Tryd.pinned (.plain (OpenSpec.upto messageRoundTripSpec)) messageRoundTripUptoCard

/-- THE SECOND FORM's CARD OF 'copydesklaw20.MessageDecodedAgain'. -/
def messageDecodedAgainUptoCard : Claim7 := { stood := { row := messageDecodedAgainUptoRow, standIns := [], harness := (true, "c636e55c424708c525e506a43fecfe15433409ba21f118bf30d4597e4b835174"), looks := true }, kinds := [], alts := [], laidByText := true, laidKinds := [.handle, .data], laidTests := true, laidLooks := .later }
def MessageDecodedAgainUptoCardSaid : Prop := Claim7.holds Tryd.pinned (.plain (OpenSpec.upto messageDecodedAgainSpec)) messageDecodedAgainUptoCard

/-- THE SECOND FORM's CARD OF 'copydesklaw20.MessageChanged'. -/
def messageChangedUptoCard : Claim7 := { stood := { row := messageChangedUptoRow, standIns := [], harness := (true, "c636e55c424708c525e506a43fecfe15433409ba21f118bf30d4597e4b835174"), looks := true }, kinds := [], alts := [], laidByText := true, laidKinds := [.handle, .data], laidTests := true, laidLooks := .later }
def MessageChangedUptoCardSaid : Prop := Claim7.holds Tryd.pinned (.plain (OpenSpec.upto messageChangedSpec)) messageChangedUptoCard

/-- THE SECOND FORM's CARD OF 'copydesklaw20.MessageLength'. -/
def messageLengthUptoCard : Claim7 := { stood := { row := messageLengthUptoRow, standIns := [], harness := (true, "c636e55c424708c525e506a43fecfe15433409ba21f118bf30d4597e4b835174"), looks := true }, kinds := [], alts := [], laidByText := true, laidKinds := [.handle, .data], laidTests := true, laidLooks := .later }
def MessageLengthUptoCardSaid : Prop := Claim7.holds Tryd.pinned (.plain (OpenSpec.upto messageLengthSpec)) messageLengthUptoCard
end Rows
end Go.Proofs.YtgplckfjbdnedaaDoor
