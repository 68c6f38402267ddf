/-
  NARROWER THAN 'FOR EVERY INPUT', by the rows' own cells (each row's printed sentence says how): JournalDamaged: laid · JournalRefuses: laid · JournalErases: laid · JournalReopens: laid · JournalOpensAnything: laid · JournalSurvives: laid · JournalOpensTwice: laid.
  DERIVED. THE GIVEN ROWS OF THIS SEAT. 7 by the template 'for every input the law returns true; each argument reads behind the call as it read before'; 0 by the template 'total and deterministic' (their statements: YtfobdgoklnhebaaGreatDoorTotals.lean).
  GIVEN WITH THE SEED: the statements are not yours to turn. If you find one false, say at which input.
  Laid BY PROGRAM, IN A SANDBOX (cutbox-rows.mjs): the forced cells as the released guide's own fill.sh prints them over the translation 31c93f56028cffd6… (all of the seat's roots in one cut). By AI agents, Wed Nov 11 2026. No macro, syntax, notation, axiom, sorry.
-/
import Derived.Test.YtfobdgoklnhebaaGreatDoorChecked
import GoSem.PinnedTables
import GoSem.Claim
import GoSem.ClaimJoined
import GoSem.ClaimMapViews
import Derived.JoinedTies
import Derived.KernelRfl
namespace Go.Proofs.YtfobdgoklnhebaaGreatDoor
/- THE CELL 'sum', in the pinned program and in every row, IS THE sha256 OF THE DUMP (.gsa) THAT YtfobdgoklnhebaaGreatDoorProg.lean LOADS. Nothing in Lean hashes anything: it is a label: what it is worth is what the hold of that sum in a sandbox is worth. -/
noncomputable def Tryz.pinned : Pinned := { name := "ytfobdgoklnhebaagreatdoor", sum := "31c93f56028cffd6c7c96df65cd7904dac63738c09090581e703b00547103834", checked := Tryz.checked }
namespace Rows
def none {H : Type} : Left H := { results := [], args := [] }

/- WHAT THE LISTED PACKAGE-LEVEL VARIABLES READ AS WHEN THE CALL BEGINS. Each datum BY PROGRAM (the guide's laid-datum.mjs) off the statement by which the dump's own 'gosem.cut.vars' lays the variable. In a bare row this is a premise. The card (YtfobdgoklnhebaaGreatDoorCards.lean) ties it to the program's text. -/
def laid_unicode_utf8_acceptRanges {H : Type} : DataW H := .agg [.agg [.lit (.int .u8 128), .lit (.int .u8 191)], .agg [.lit (.int .u8 160), .lit (.int .u8 191)], .agg [.lit (.int .u8 128), .lit (.int .u8 159)], .agg [.lit (.int .u8 144), .lit (.int .u8 191)], .agg [.lit (.int .u8 128), .lit (.int .u8 143)], .agg [.lit (.int .u8 0), .lit (.int .u8 0)], .agg [.lit (.int .u8 0), .lit (.int .u8 0)], .agg [.lit (.int .u8 0), .lit (.int .u8 0)], .agg [.lit (.int .u8 0), .lit (.int .u8 0)], .agg [.lit (.int .u8 0), .lit (.int .u8 0)], .agg [.lit (.int .u8 0), .lit (.int .u8 0)], .agg [.lit (.int .u8 0), .lit (.int .u8 0)], .agg [.lit (.int .u8 0), .lit (.int .u8 0)], .agg [.lit (.int .u8 0), .lit (.int .u8 0)], .agg [.lit (.int .u8 0), .lit (.int .u8 0)], .agg [.lit (.int .u8 0), .lit (.int .u8 0)]]
def laid_copydesk_wire_shifts {H : Type} : DataW H := .agg [.lit (.int .u32 0), .lit (.int .u32 274646895), .lit (.int .u32 549293790), .lit (.int .u32 820201905), .lit (.int .u32 1098587580), .lit (.int .u32 1361435347), .lit (.int .u32 1640403810), .lit (.int .u32 1905808397), .lit (.int .u32 2197175160), .lit (.int .u32 2460548119), .lit (.int .u32 2722870694), .lit (.int .u32 2987750089), .lit (.int .u32 3280807620), .lit (.int .u32 3553878443), .lit (.int .u32 3811616794), .lit (.int .u32 4084100981)]
/-- One of Go's own tables, pinned by name: the form's constant. -/
def laid_unicode_utf8_first : DataW Unit := Go.Pinned.utf8First

/-- 'copydesklaw24.JournalDamaged': WHATEVER THE INPUT: true; the input reads as it did. -/
def journalDamagedSpec : ChangeSpec := { name := "journalDamaged", fn := fun _ => fun
  | [d1, d2, d3, d4, d5] => { results := [.lit (.bool true)], args := [d1, d2, d3, d4, d5] }
  | _ => none }
def journalDamagedRow : OpenClaim := { program := "ytfobdgoklnhebaagreatdoor", sum := "31c93f56028cffd6c7c96df65cd7904dac63738c09090581e703b00547103834", func := "copydesk/copydesklaw24.JournalDamaged", spec := "journalDamaged", inPlace := ["internal/abi.NoEscape", "internal/bytealg.IndexByteString", "internal/bytealg.IndexString", "internal/bytealg.MakeNoZero"], unfollowed := true, recurses := true, named := ["copydesk/wire.shifts", "unicode/utf8.first", "unicode/utf8.acceptRanges", "internal/bytealg.MaxLen"], apart := false, laid := [("unicode/utf8.acceptRanges", laid_unicode_utf8_acceptRanges), ("copydesk/wire.shifts", laid_copydesk_wire_shifts), ("unicode/utf8.first", laid_unicode_utf8_first)] }
def JournalDamagedSaid : Prop := journalDamagedRow.holds Tryz.pinned (OpenSpec.ofChange journalDamagedSpec)

/-- ITS FALSE NEIGHBOUR: 'it returns false'. Refute it at one input. -/
def journalDamagedWrong : ChangeSpec := { name := "journalDamaged", fn := fun _ => fun
  | [d1, d2, d3, d4, d5] => { results := [.lit (.bool false)], args := [d1, d2, d3, d4, d5] }
  | _ => none }
def JournalDamagedWrongFalsely : Prop := journalDamagedRow.holds Tryz.pinned (OpenSpec.ofChange journalDamagedWrong)

/-- 'copydesklaw24.JournalRefuses': WHATEVER THE INPUT: true; the input reads as it did. -/
def journalRefusesSpec : ChangeSpec := { name := "journalRefuses", fn := fun _ => fun
  | [d1, d2, d3, d4] => { results := [.lit (.bool true)], args := [d1, d2, d3, d4] }
  | _ => none }
def journalRefusesRow : OpenClaim := { program := "ytfobdgoklnhebaagreatdoor", sum := "31c93f56028cffd6c7c96df65cd7904dac63738c09090581e703b00547103834", func := "copydesk/copydesklaw24.JournalRefuses", spec := "journalRefuses", inPlace := ["internal/abi.NoEscape", "internal/bytealg.IndexByteString", "internal/bytealg.IndexString", "internal/bytealg.MakeNoZero"], unfollowed := true, recurses := true, named := ["copydesk/wire.shifts", "unicode/utf8.first", "unicode/utf8.acceptRanges", "internal/bytealg.MaxLen"], apart := false, laid := [("unicode/utf8.acceptRanges", laid_unicode_utf8_acceptRanges), ("copydesk/wire.shifts", laid_copydesk_wire_shifts), ("unicode/utf8.first", laid_unicode_utf8_first)] }
def JournalRefusesSaid : Prop := journalRefusesRow.holds Tryz.pinned (OpenSpec.ofChange journalRefusesSpec)

/-- ITS FALSE NEIGHBOUR: 'it returns false'. Refute it at one input. -/
def journalRefusesWrong : ChangeSpec := { name := "journalRefuses", fn := fun _ => fun
  | [d1, d2, d3, d4] => { results := [.lit (.bool false)], args := [d1, d2, d3, d4] }
  | _ => none }
def JournalRefusesWrongFalsely : Prop := journalRefusesRow.holds Tryz.pinned (OpenSpec.ofChange journalRefusesWrong)

/-- 'copydesklaw24.JournalErases': WHATEVER THE INPUT: true; the input reads as it did. -/
def journalErasesSpec : ChangeSpec := { name := "journalErases", fn := fun _ => fun
  | [d1, d2] => { results := [.lit (.bool true)], args := [d1, d2] }
  | _ => none }
def journalErasesRow : OpenClaim := { program := "ytfobdgoklnhebaagreatdoor", sum := "31c93f56028cffd6c7c96df65cd7904dac63738c09090581e703b00547103834", func := "copydesk/copydesklaw24.JournalErases", spec := "journalErases", inPlace := ["internal/abi.NoEscape", "internal/bytealg.IndexByteString", "internal/bytealg.IndexString", "internal/bytealg.MakeNoZero"], unfollowed := true, recurses := true, named := ["copydesk/wire.shifts", "unicode/utf8.first", "unicode/utf8.acceptRanges", "internal/bytealg.MaxLen"], apart := false, laid := [("unicode/utf8.acceptRanges", laid_unicode_utf8_acceptRanges), ("copydesk/wire.shifts", laid_copydesk_wire_shifts), ("unicode/utf8.first", laid_unicode_utf8_first)] }
def JournalErasesSaid : Prop := journalErasesRow.holds Tryz.pinned (OpenSpec.ofChange journalErasesSpec)

/-- ITS FALSE NEIGHBOUR: 'it returns false'. Refute it at one input. -/
def journalErasesWrong : ChangeSpec := { name := "journalErases", fn := fun _ => fun
  | [d1, d2] => { results := [.lit (.bool false)], args := [d1, d2] }
  | _ => none }
def JournalErasesWrongFalsely : Prop := journalErasesRow.holds Tryz.pinned (OpenSpec.ofChange journalErasesWrong)

/-- 'copydesklaw24.JournalReopens': WHATEVER THE INPUT: true; the input reads as it did. -/
def journalReopensSpec : ChangeSpec := { name := "journalReopens", fn := fun _ => fun
  | [d1, d2] => { results := [.lit (.bool true)], args := [d1, d2] }
  | _ => none }
def journalReopensRow : OpenClaim := { program := "ytfobdgoklnhebaagreatdoor", sum := "31c93f56028cffd6c7c96df65cd7904dac63738c09090581e703b00547103834", func := "copydesk/copydesklaw24.JournalReopens", spec := "journalReopens", inPlace := ["internal/abi.NoEscape", "internal/bytealg.IndexByteString", "internal/bytealg.IndexString", "internal/bytealg.MakeNoZero"], unfollowed := true, recurses := true, named := ["copydesk/wire.shifts", "unicode/utf8.first", "unicode/utf8.acceptRanges", "internal/bytealg.MaxLen"], apart := false, laid := [("unicode/utf8.acceptRanges", laid_unicode_utf8_acceptRanges), ("copydesk/wire.shifts", laid_copydesk_wire_shifts), ("unicode/utf8.first", laid_unicode_utf8_first)] }
def JournalReopensSaid : Prop := journalReopensRow.holds Tryz.pinned (OpenSpec.ofChange journalReopensSpec)

/-- ITS FALSE NEIGHBOUR: 'it returns false'. Refute it at one input. -/
def journalReopensWrong : ChangeSpec := { name := "journalReopens", fn := fun _ => fun
  | [d1, d2] => { results := [.lit (.bool false)], args := [d1, d2] }
  | _ => none }
def JournalReopensWrongFalsely : Prop := journalReopensRow.holds Tryz.pinned (OpenSpec.ofChange journalReopensWrong)

/-- 'copydesklaw24.JournalOpensAnything': WHATEVER THE INPUT: true; the input reads as it did. -/
def journalOpensAnythingSpec : ChangeSpec := { name := "journalOpensAnything", fn := fun _ => fun
  | [d1, d2, d3, d4, d5, d6] => { results := [.lit (.bool true)], args := [d1, d2, d3, d4, d5, d6] }
  | _ => none }
def journalOpensAnythingRow : OpenClaim := { program := "ytfobdgoklnhebaagreatdoor", sum := "31c93f56028cffd6c7c96df65cd7904dac63738c09090581e703b00547103834", func := "copydesk/copydesklaw24.JournalOpensAnything", spec := "journalOpensAnything", inPlace := ["internal/abi.NoEscape", "internal/bytealg.IndexByteString", "internal/bytealg.IndexString", "internal/bytealg.MakeNoZero"], unfollowed := true, recurses := true, named := ["copydesk/wire.shifts", "unicode/utf8.first", "unicode/utf8.acceptRanges", "internal/bytealg.MaxLen"], apart := false, laid := [("unicode/utf8.acceptRanges", laid_unicode_utf8_acceptRanges), ("copydesk/wire.shifts", laid_copydesk_wire_shifts), ("unicode/utf8.first", laid_unicode_utf8_first)] }
def JournalOpensAnythingSaid : Prop := journalOpensAnythingRow.holds Tryz.pinned (OpenSpec.ofChange journalOpensAnythingSpec)

/-- ITS FALSE NEIGHBOUR: 'it returns false'. Refute it at one input. -/
def journalOpensAnythingWrong : ChangeSpec := { name := "journalOpensAnything", fn := fun _ => fun
  | [d1, d2, d3, d4, d5, d6] => { results := [.lit (.bool false)], args := [d1, d2, d3, d4, d5, d6] }
  | _ => none }
def JournalOpensAnythingWrongFalsely : Prop := journalOpensAnythingRow.holds Tryz.pinned (OpenSpec.ofChange journalOpensAnythingWrong)

/-- 'copydesklaw24.JournalSurvives': WHATEVER THE INPUT: true; the input reads as it did. -/
def journalSurvivesSpec : ChangeSpec := { name := "journalSurvives", fn := fun _ => fun
  | [d1, d2, d3, d4, d5] => { results := [.lit (.bool true)], args := [d1, d2, d3, d4, d5] }
  | _ => none }
def journalSurvivesRow : OpenClaim := { program := "ytfobdgoklnhebaagreatdoor", sum := "31c93f56028cffd6c7c96df65cd7904dac63738c09090581e703b00547103834", func := "copydesk/copydesklaw24.JournalSurvives", spec := "journalSurvives", inPlace := ["internal/abi.NoEscape", "internal/bytealg.IndexByteString", "internal/bytealg.IndexString", "internal/bytealg.MakeNoZero"], unfollowed := true, recurses := true, named := ["copydesk/wire.shifts", "unicode/utf8.first", "unicode/utf8.acceptRanges", "internal/bytealg.MaxLen"], apart := false, laid := [("unicode/utf8.acceptRanges", laid_unicode_utf8_acceptRanges), ("copydesk/wire.shifts", laid_copydesk_wire_shifts), ("unicode/utf8.first", laid_unicode_utf8_first)] }
def JournalSurvivesSaid : Prop := journalSurvivesRow.holds Tryz.pinned (OpenSpec.ofChange journalSurvivesSpec)

/-- ITS FALSE NEIGHBOUR: 'it returns false'. Refute it at one input. -/
def journalSurvivesWrong : ChangeSpec := { name := "journalSurvives", fn := fun _ => fun
  | [d1, d2, d3, d4, d5] => { results := [.lit (.bool false)], args := [d1, d2, d3, d4, d5] }
  | _ => none }
def JournalSurvivesWrongFalsely : Prop := journalSurvivesRow.holds Tryz.pinned (OpenSpec.ofChange journalSurvivesWrong)

/-- 'copydesklaw24.JournalOpensTwice': WHATEVER THE INPUT: true; the input reads as it did. -/
def journalOpensTwiceSpec : ChangeSpec := { name := "journalOpensTwice", fn := fun _ => fun
  | [d1, d2, d3, d4, d5, d6] => { results := [.lit (.bool true)], args := [d1, d2, d3, d4, d5, d6] }
  | _ => none }
def journalOpensTwiceRow : OpenClaim := { program := "ytfobdgoklnhebaagreatdoor", sum := "31c93f56028cffd6c7c96df65cd7904dac63738c09090581e703b00547103834", func := "copydesk/copydesklaw24.JournalOpensTwice", spec := "journalOpensTwice", inPlace := ["internal/abi.NoEscape", "internal/bytealg.IndexByteString", "internal/bytealg.IndexString", "internal/bytealg.MakeNoZero"], unfollowed := true, recurses := true, named := ["copydesk/wire.shifts", "unicode/utf8.first", "unicode/utf8.acceptRanges", "internal/bytealg.MaxLen"], apart := false, laid := [("unicode/utf8.acceptRanges", laid_unicode_utf8_acceptRanges), ("copydesk/wire.shifts", laid_copydesk_wire_shifts), ("unicode/utf8.first", laid_unicode_utf8_first)] }
def JournalOpensTwiceSaid : Prop := journalOpensTwiceRow.holds Tryz.pinned (OpenSpec.ofChange journalOpensTwiceSpec)

/-- ITS FALSE NEIGHBOUR: 'it returns false'. Refute it at one input. -/
def journalOpensTwiceWrong : ChangeSpec := { name := "journalOpensTwice", fn := fun _ => fun
  | [d1, d2, d3, d4, d5, d6] => { results := [.lit (.bool false)], args := [d1, d2, d3, d4, d5, d6] }
  | _ => none }
def JournalOpensTwiceWrongFalsely : Prop := journalOpensTwiceRow.holds Tryz.pinned (OpenSpec.ofChange journalOpensTwiceWrong)

/- THE SECOND FORM. 'bulk': how many values and letters a reading holds, each counted each time it is reached (what is shared counts as often as it is met; a slice's spare places count too). A statement '..UptoSaid' is the law's where the arguments, and the package variables that the reading takes, are together of bulk at most 1048576: NARROWER than '..Said'. Prove '..Said' where nothing that the law and all that it calls make is longer than what came in: it says more and counts as full. Else prove '..UptoSaid'. A law counts once. -/
mutual
def uptoBulk {H : Type} : DataW H → Nat
  | .lit (.string bytes) => bytes.length + 1
  | .lit _ => 1
  | .nil => 1
  | .ptr d => uptoBulk d + 1
  | .slice elems spare => uptoBulkAll elems + uptoBulkAll spare + 1
  | .agg parts => uptoBulkAll parts + 1
  | .iface _ d => uptoBulk d + 1
  | .map entries => uptoBulkEntries entries + 1
  | .held _ => 1
def uptoBulkAll {H : Type} : List (DataW H) → Nat
  | [] => 0
  | d :: r => uptoBulk d + uptoBulkAll r
def uptoBulkEntries {H : Type} : List (Lit × DataW H) → Nat
  | [] => 0
  | x :: r => uptoBulkEntry x + uptoBulkEntries r
def uptoBulkEntry {H : Type} : Lit × DataW H → Nat
  | (.string bytes, d) => bytes.length + uptoBulk d + 1
  | (_, d) => uptoBulk d + 1
 end
def uptoSmall : (H : Type) → List (DataW H) → Bool := fun _ ds => decide (uptoBulkAll ds ≤ 1048576)
def OpenSpec.upto (s : _root_.Go.ChangeSpec) : _root_.Go.OpenSpec := { _root_.Go.OpenSpec.ofChange s with cond := some uptoSmall }

/-- 'copydesklaw24.JournalDamaged', WHERE WHAT IT READS IS OF BULK AT MOST 1048576: true; the input reads as it did. -/
def journalDamagedUptoRow : OpenClaim := { program := "ytfobdgoklnhebaagreatdoor", sum := "31c93f56028cffd6c7c96df65cd7904dac63738c09090581e703b00547103834", func := "copydesk/copydesklaw24.JournalDamaged", spec := "journalDamaged", inPlace := ["internal/abi.NoEscape", "internal/bytealg.IndexByteString", "internal/bytealg.IndexString", "internal/bytealg.MakeNoZero"], unfollowed := true, recurses := true, named := ["copydesk/wire.shifts", "unicode/utf8.first", "unicode/utf8.acceptRanges", "internal/bytealg.MaxLen"], apart := false, laid := [("unicode/utf8.acceptRanges", laid_unicode_utf8_acceptRanges), ("copydesk/wire.shifts", laid_copydesk_wire_shifts), ("unicode/utf8.first", laid_unicode_utf8_first)], narrowed := true }
def JournalDamagedUptoSaid : Prop := journalDamagedUptoRow.holds Tryz.pinned (OpenSpec.upto journalDamagedSpec)

/-- 'copydesklaw24.JournalRefuses', WHERE WHAT IT READS IS OF BULK AT MOST 1048576: true; the input reads as it did. -/
def journalRefusesUptoRow : OpenClaim := { program := "ytfobdgoklnhebaagreatdoor", sum := "31c93f56028cffd6c7c96df65cd7904dac63738c09090581e703b00547103834", func := "copydesk/copydesklaw24.JournalRefuses", spec := "journalRefuses", inPlace := ["internal/abi.NoEscape", "internal/bytealg.IndexByteString", "internal/bytealg.IndexString", "internal/bytealg.MakeNoZero"], unfollowed := true, recurses := true, named := ["copydesk/wire.shifts", "unicode/utf8.first", "unicode/utf8.acceptRanges", "internal/bytealg.MaxLen"], apart := false, laid := [("unicode/utf8.acceptRanges", laid_unicode_utf8_acceptRanges), ("copydesk/wire.shifts", laid_copydesk_wire_shifts), ("unicode/utf8.first", laid_unicode_utf8_first)], narrowed := true }
def JournalRefusesUptoSaid : Prop := journalRefusesUptoRow.holds Tryz.pinned (OpenSpec.upto journalRefusesSpec)

/-- 'copydesklaw24.JournalErases', WHERE WHAT IT READS IS OF BULK AT MOST 1048576: true; the input reads as it did. -/
def journalErasesUptoRow : OpenClaim := { program := "ytfobdgoklnhebaagreatdoor", sum := "31c93f56028cffd6c7c96df65cd7904dac63738c09090581e703b00547103834", func := "copydesk/copydesklaw24.JournalErases", spec := "journalErases", inPlace := ["internal/abi.NoEscape", "internal/bytealg.IndexByteString", "internal/bytealg.IndexString", "internal/bytealg.MakeNoZero"], unfollowed := true, recurses := true, named := ["copydesk/wire.shifts", "unicode/utf8.first", "unicode/utf8.acceptRanges", "internal/bytealg.MaxLen"], apart := false, laid := [("unicode/utf8.acceptRanges", laid_unicode_utf8_acceptRanges), ("copydesk/wire.shifts", laid_copydesk_wire_shifts), ("unicode/utf8.first", laid_unicode_utf8_first)], narrowed := true }
def JournalErasesUptoSaid : Prop := journalErasesUptoRow.holds Tryz.pinned (OpenSpec.upto journalErasesSpec)

/-- 'copydesklaw24.JournalReopens', WHERE WHAT IT READS IS OF BULK AT MOST 1048576: true; the input reads as it did. -/
def journalReopensUptoRow : OpenClaim := { program := "ytfobdgoklnhebaagreatdoor", sum := "31c93f56028cffd6c7c96df65cd7904dac63738c09090581e703b00547103834", func := "copydesk/copydesklaw24.JournalReopens", spec := "journalReopens", inPlace := ["internal/abi.NoEscape", "internal/bytealg.IndexByteString", "internal/bytealg.IndexString", "internal/bytealg.MakeNoZero"], unfollowed := true, recurses := true, named := ["copydesk/wire.shifts", "unicode/utf8.first", "unicode/utf8.acceptRanges", "internal/bytealg.MaxLen"], apart := false, laid := [("unicode/utf8.acceptRanges", laid_unicode_utf8_acceptRanges), ("copydesk/wire.shifts", laid_copydesk_wire_shifts), ("unicode/utf8.first", laid_unicode_utf8_first)], narrowed := true }
def JournalReopensUptoSaid : Prop := journalReopensUptoRow.holds Tryz.pinned (OpenSpec.upto journalReopensSpec)

/-- 'copydesklaw24.JournalOpensAnything', WHERE WHAT IT READS IS OF BULK AT MOST 1048576: true; the input reads as it did. -/
def journalOpensAnythingUptoRow : OpenClaim := { program := "ytfobdgoklnhebaagreatdoor", sum := "31c93f56028cffd6c7c96df65cd7904dac63738c09090581e703b00547103834", func := "copydesk/copydesklaw24.JournalOpensAnything", spec := "journalOpensAnything", inPlace := ["internal/abi.NoEscape", "internal/bytealg.IndexByteString", "internal/bytealg.IndexString", "internal/bytealg.MakeNoZero"], unfollowed := true, recurses := true, named := ["copydesk/wire.shifts", "unicode/utf8.first", "unicode/utf8.acceptRanges", "internal/bytealg.MaxLen"], apart := false, laid := [("unicode/utf8.acceptRanges", laid_unicode_utf8_acceptRanges), ("copydesk/wire.shifts", laid_copydesk_wire_shifts), ("unicode/utf8.first", laid_unicode_utf8_first)], narrowed := true }
def JournalOpensAnythingUptoSaid : Prop := journalOpensAnythingUptoRow.holds Tryz.pinned (OpenSpec.upto journalOpensAnythingSpec)

/-- 'copydesklaw24.JournalSurvives', WHERE WHAT IT READS IS OF BULK AT MOST 1048576: true; the input reads as it did. -/
def journalSurvivesUptoRow : OpenClaim := { program := "ytfobdgoklnhebaagreatdoor", sum := "31c93f56028cffd6c7c96df65cd7904dac63738c09090581e703b00547103834", func := "copydesk/copydesklaw24.JournalSurvives", spec := "journalSurvives", inPlace := ["internal/abi.NoEscape", "internal/bytealg.IndexByteString", "internal/bytealg.IndexString", "internal/bytealg.MakeNoZero"], unfollowed := true, recurses := true, named := ["copydesk/wire.shifts", "unicode/utf8.first", "unicode/utf8.acceptRanges", "internal/bytealg.MaxLen"], apart := false, laid := [("unicode/utf8.acceptRanges", laid_unicode_utf8_acceptRanges), ("copydesk/wire.shifts", laid_copydesk_wire_shifts), ("unicode/utf8.first", laid_unicode_utf8_first)], narrowed := true }
def JournalSurvivesUptoSaid : Prop := journalSurvivesUptoRow.holds Tryz.pinned (OpenSpec.upto journalSurvivesSpec)

/-- 'copydesklaw24.JournalOpensTwice', WHERE WHAT IT READS IS OF BULK AT MOST 1048576: true; the input reads as it did. -/
def journalOpensTwiceUptoRow : OpenClaim := { program := "ytfobdgoklnhebaagreatdoor", sum := "31c93f56028cffd6c7c96df65cd7904dac63738c09090581e703b00547103834", func := "copydesk/copydesklaw24.JournalOpensTwice", spec := "journalOpensTwice", inPlace := ["internal/abi.NoEscape", "internal/bytealg.IndexByteString", "internal/bytealg.IndexString", "internal/bytealg.MakeNoZero"], unfollowed := true, recurses := true, named := ["copydesk/wire.shifts", "unicode/utf8.first", "unicode/utf8.acceptRanges", "internal/bytealg.MaxLen"], apart := false, laid := [("unicode/utf8.acceptRanges", laid_unicode_utf8_acceptRanges), ("copydesk/wire.shifts", laid_copydesk_wire_shifts), ("unicode/utf8.first", laid_unicode_utf8_first)], narrowed := true }
def JournalOpensTwiceUptoSaid : Prop := journalOpensTwiceUptoRow.holds Tryz.pinned (OpenSpec.upto journalOpensTwiceSpec)

end Rows
end Go.Proofs.YtfobdgoklnhebaaGreatDoor
