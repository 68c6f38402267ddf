/-
  DERIVED. GIVEN WITH THE SEED: THE CARDS: each row of YtfobdgoklnhebaaGreatDoorRows.lean that lists a variable, with what it lists TIED to the program's text (the seventh form; the later family's looks); each row that meets fmt, with fmt's text TOLD by the authors' own Lean function (tested against real Go, not proved from fmt's source: count such statements apart). THE CARD IS WHAT COUNTS. Prove the row's statement (the work); the ties are given (YtfobdgoklnhebaaGreatDoorTie.lean); close each card by the builder's one call (the guide's Derived/Test/ToyasCard.lean, 'card_holds'). Laid BY PROGRAM, IN A SANDBOX (cutbox-door.mjs). By AI agents, Wed Nov 11 2026. No macro, syntax, notation, axiom, sorry.
-/
import Derived.Test.YtfobdgoklnhebaaGreatDoorRows
import GoSem.ClaimSeven
namespace Go.Proofs.YtfobdgoklnhebaaGreatDoor
namespace Rows

/-- THE TIED CARD OF 'copydesklaw24.JournalDamaged'. -/
def journalDamagedCard : Claim7 := { stood := { row := journalDamagedRow, standIns := [], harness := (true, "0a644ea0f639ef57f2f648ffcb337cb1229d4222cc83726b797bbdddd8e46639"), looks := true }, kinds := [], alts := [], laidByText := true, laidKinds := [.data, .data, .pinned], laidTests := true, laidLooks := .later }
def JournalDamagedCardSaid : Prop := Claim7.holds Tryz.pinned (.plain (OpenSpec.ofChange journalDamagedSpec)) journalDamagedCard

/-- THE TIED CARD OF 'copydesklaw24.JournalRefuses'. -/
def journalRefusesCard : Claim7 := { stood := { row := journalRefusesRow, standIns := [], harness := (true, "0a644ea0f639ef57f2f648ffcb337cb1229d4222cc83726b797bbdddd8e46639"), looks := true }, kinds := [], alts := [], laidByText := true, laidKinds := [.data, .data, .pinned], laidTests := true, laidLooks := .later }
def JournalRefusesCardSaid : Prop := Claim7.holds Tryz.pinned (.plain (OpenSpec.ofChange journalRefusesSpec)) journalRefusesCard

/-- THE TIED CARD OF 'copydesklaw24.JournalErases'. -/
def journalErasesCard : Claim7 := { stood := { row := journalErasesRow, standIns := [], harness := (true, "0a644ea0f639ef57f2f648ffcb337cb1229d4222cc83726b797bbdddd8e46639"), looks := true }, kinds := [], alts := [], laidByText := true, laidKinds := [.data, .data, .pinned], laidTests := true, laidLooks := .later }
def JournalErasesCardSaid : Prop := Claim7.holds Tryz.pinned (.plain (OpenSpec.ofChange journalErasesSpec)) journalErasesCard

/-- THE TIED CARD OF 'copydesklaw24.JournalReopens'. -/
def journalReopensCard : Claim7 := { stood := { row := journalReopensRow, standIns := [], harness := (true, "0a644ea0f639ef57f2f648ffcb337cb1229d4222cc83726b797bbdddd8e46639"), looks := true }, kinds := [], alts := [], laidByText := true, laidKinds := [.data, .data, .pinned], laidTests := true, laidLooks := .later }
def JournalReopensCardSaid : Prop := Claim7.holds Tryz.pinned (.plain (OpenSpec.ofChange journalReopensSpec)) journalReopensCard

/-- THE TIED CARD OF 'copydesklaw24.JournalOpensAnything'. -/
def journalOpensAnythingCard : Claim7 := { stood := { row := journalOpensAnythingRow, standIns := [], harness := (true, "0a644ea0f639ef57f2f648ffcb337cb1229d4222cc83726b797bbdddd8e46639"), looks := true }, kinds := [], alts := [], laidByText := true, laidKinds := [.data, .data, .pinned], laidTests := true, laidLooks := .later }
def JournalOpensAnythingCardSaid : Prop := Claim7.holds Tryz.pinned (.plain (OpenSpec.ofChange journalOpensAnythingSpec)) journalOpensAnythingCard

/-- THE TIED CARD OF 'copydesklaw24.JournalSurvives'. -/
def journalSurvivesCard : Claim7 := { stood := { row := journalSurvivesRow, standIns := [], harness := (true, "0a644ea0f639ef57f2f648ffcb337cb1229d4222cc83726b797bbdddd8e46639"), looks := true }, kinds := [], alts := [], laidByText := true, laidKinds := [.data, .data, .pinned], laidTests := true, laidLooks := .later }
def JournalSurvivesCardSaid : Prop := Claim7.holds Tryz.pinned (.plain (OpenSpec.ofChange journalSurvivesSpec)) journalSurvivesCard

/-- THE TIED CARD OF 'copydesklaw24.JournalOpensTwice'. -/
def journalOpensTwiceCard : Claim7 := { stood := { row := journalOpensTwiceRow, standIns := [], harness := (true, "0a644ea0f639ef57f2f648ffcb337cb1229d4222cc83726b797bbdddd8e46639"), looks := true }, kinds := [], alts := [], laidByText := true, laidKinds := [.data, .data, .pinned], laidTests := true, laidLooks := .later }
def JournalOpensTwiceCardSaid : Prop := Claim7.holds Tryz.pinned (.plain (OpenSpec.ofChange journalOpensTwiceSpec)) journalOpensTwiceCard

/-- THE SECOND FORM's CARD OF 'copydesklaw24.JournalDamaged'. -/
def journalDamagedUptoCard : Claim7 := { stood := { row := journalDamagedUptoRow, standIns := [], harness := (true, "0a644ea0f639ef57f2f648ffcb337cb1229d4222cc83726b797bbdddd8e46639"), looks := true }, kinds := [], alts := [], laidByText := true, laidKinds := [.data, .data, .pinned], laidTests := true, laidLooks := .later }
def JournalDamagedUptoCardSaid : Prop := Claim7.holds Tryz.pinned (.plain (OpenSpec.upto journalDamagedSpec)) journalDamagedUptoCard

/-- THE SECOND FORM's CARD OF 'copydesklaw24.JournalRefuses'. -/
def journalRefusesUptoCard : Claim7 := { stood := { row := journalRefusesUptoRow, standIns := [], harness := (true, "0a644ea0f639ef57f2f648ffcb337cb1229d4222cc83726b797bbdddd8e46639"), looks := true }, kinds := [], alts := [], laidByText := true, laidKinds := [.data, .data, .pinned], laidTests := true, laidLooks := .later }
def JournalRefusesUptoCardSaid : Prop := Claim7.holds Tryz.pinned (.plain (OpenSpec.upto journalRefusesSpec)) journalRefusesUptoCard

/-- THE SECOND FORM's CARD OF 'copydesklaw24.JournalErases'. -/
def journalErasesUptoCard : Claim7 := { stood := { row := journalErasesUptoRow, standIns := [], harness := (true, "0a644ea0f639ef57f2f648ffcb337cb1229d4222cc83726b797bbdddd8e46639"), looks := true }, kinds := [], alts := [], laidByText := true, laidKinds := [.data, .data, .pinned], laidTests := true, laidLooks := .later }
def JournalErasesUptoCardSaid : Prop := Claim7.holds Tryz.pinned (.plain (OpenSpec.upto journalErasesSpec)) journalErasesUptoCard

/-- THE SECOND FORM's CARD OF 'copydesklaw24.JournalReopens'. -/
def journalReopensUptoCard : Claim7 := { stood := { row := journalReopensUptoRow, standIns := [], harness := (true, "0a644ea0f639ef57f2f648ffcb337cb1229d4222cc83726b797bbdddd8e46639"), looks := true }, kinds := [], alts := [], laidByText := true, laidKinds := [.data, .data, .pinned], laidTests := true, laidLooks := .later }
def JournalReopensUptoCardSaid : Prop := Claim7.holds Tryz.pinned (.plain (OpenSpec.upto journalReopensSpec)) journalReopensUptoCard

/-- THE SECOND FORM's CARD OF 'copydesklaw24.JournalOpensAnything'. -/
def journalOpensAnythingUptoCard : Claim7 := { stood := { row := journalOpensAnythingUptoRow, standIns := [], harness := (true, "0a644ea0f639ef57f2f648ffcb337cb1229d4222cc83726b797bbdddd8e46639"), looks := true }, kinds := [], alts := [], laidByText := true, laidKinds := [.data, .data, .pinned], laidTests := true, laidLooks := .later }
def JournalOpensAnythingUptoCardSaid : Prop := Claim7.holds Tryz.pinned (.plain (OpenSpec.upto journalOpensAnythingSpec)) journalOpensAnythingUptoCard

/-- THE SECOND FORM's CARD OF 'copydesklaw24.JournalSurvives'. -/
def journalSurvivesUptoCard : Claim7 := { stood := { row := journalSurvivesUptoRow, standIns := [], harness := (true, "0a644ea0f639ef57f2f648ffcb337cb1229d4222cc83726b797bbdddd8e46639"), looks := true }, kinds := [], alts := [], laidByText := true, laidKinds := [.data, .data, .pinned], laidTests := true, laidLooks := .later }
def JournalSurvivesUptoCardSaid : Prop := Claim7.holds Tryz.pinned (.plain (OpenSpec.upto journalSurvivesSpec)) journalSurvivesUptoCard

/-- THE SECOND FORM's CARD OF 'copydesklaw24.JournalOpensTwice'. -/
def journalOpensTwiceUptoCard : Claim7 := { stood := { row := journalOpensTwiceUptoRow, standIns := [], harness := (true, "0a644ea0f639ef57f2f648ffcb337cb1229d4222cc83726b797bbdddd8e46639"), looks := true }, kinds := [], alts := [], laidByText := true, laidKinds := [.data, .data, .pinned], laidTests := true, laidLooks := .later }
def JournalOpensTwiceUptoCardSaid : Prop := Claim7.holds Tryz.pinned (.plain (OpenSpec.upto journalOpensTwiceSpec)) journalOpensTwiceUptoCard
end Rows
end Go.Proofs.YtfobdgoklnhebaaGreatDoor
