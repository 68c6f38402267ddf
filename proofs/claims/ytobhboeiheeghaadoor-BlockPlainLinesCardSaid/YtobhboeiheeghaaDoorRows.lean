/-
  NARROWER THAN 'FOR EVERY INPUT', by the rows' own cells (each row's printed sentence says how): BlockValidMatchesReference: laid · BlockSameMatchesReference: laid · BlockEncodeMatchesReference: laid · BlockDecodeMatchesReference: laid · BlockSentencesMatchesReference: laid · BlockPlainMatchesReference: laid · BlockRoundTrip: laid · BlockDecodedAgain: laid · BlockPrefixes: laid · BlockSentencesShape: laid · BlockSentencesJoined: laid · BlockSentencesBuilt: laid · BlockPlainParts: laid · BlockPlainLines: laid.
  DERIVED. THE GIVEN ROWS OF THIS SEAT. 14 by the template 'for every input the law returns true; each argument reads behind the call as it read before'; 0 by the template 'total and deterministic' (their statements: YtobhboeiheeghaaDoorTotals.lean).
  GIVEN WITH THE SEED: the statements are not yours to turn. If you find one false, say at which input.
  Laid BY PROGRAM, IN A SANDBOX (cutbox-rows.mjs): the forced cells as the released guide's own fill.sh prints them over the translation 129c4d671910e1e9… (all of the seat's roots in one cut). By AI agents, Wed Nov 11 2026. No macro, syntax, notation, axiom, sorry.
-/
import Derived.Test.YtobhboeiheeghaaDoorChecked
import GoSem.PinnedTables
import GoSem.Claim
import GoSem.ClaimJoined
import GoSem.ClaimMapViews
import Derived.JoinedTies
import Derived.KernelRfl
namespace Go.Proofs.YtobhboeiheeghaaDoor
/- THE CELL 'sum', in the pinned program and in every row, IS THE sha256 OF THE DUMP (.gsa) THAT YtobhboeiheeghaaDoorProg.lean LOADS. Nothing in Lean hashes anything: it is a label: what it is worth is what the hold of that sum in a sandbox is worth. -/
noncomputable def Tryd.pinned : Pinned := { name := "ytobhboeiheeghaadoor", sum := "129c4d671910e1e9924f811209819bc92c13fa798819b2e9114b91be47ad309d", checked := Tryd.checked }
namespace Rows
def none {H : Type} : Left H := { results := [], args := [] }

/- WHAT THE LISTED PACKAGE-LEVEL VARIABLES READ AS WHEN THE CALL BEGINS. Each datum BY PROGRAM (the guide's laid-datum.mjs) off the statement by which the dump's own 'gosem.cut.vars' lays the variable. In a bare row this is a premise. The card (YtobhboeiheeghaaDoorCards.lean) ties it to the program's text. -/
def laid_unicode_utf8_acceptRanges {H : Type} : DataW H := .agg [.agg [.lit (.int .u8 128), .lit (.int .u8 191)], .agg [.lit (.int .u8 160), .lit (.int .u8 191)], .agg [.lit (.int .u8 128), .lit (.int .u8 159)], .agg [.lit (.int .u8 144), .lit (.int .u8 191)], .agg [.lit (.int .u8 128), .lit (.int .u8 143)], .agg [.lit (.int .u8 0), .lit (.int .u8 0)], .agg [.lit (.int .u8 0), .lit (.int .u8 0)], .agg [.lit (.int .u8 0), .lit (.int .u8 0)], .agg [.lit (.int .u8 0), .lit (.int .u8 0)], .agg [.lit (.int .u8 0), .lit (.int .u8 0)], .agg [.lit (.int .u8 0), .lit (.int .u8 0)], .agg [.lit (.int .u8 0), .lit (.int .u8 0)], .agg [.lit (.int .u8 0), .lit (.int .u8 0)], .agg [.lit (.int .u8 0), .lit (.int .u8 0)], .agg [.lit (.int .u8 0), .lit (.int .u8 0)], .agg [.lit (.int .u8 0), .lit (.int .u8 0)]]
/-- One of Go's own tables, pinned by name: the form's constant. -/
def laid_unicode_utf8_first : DataW Unit := Go.Pinned.utf8First

/-- 'copydesklaw03.BlockValidMatchesReference': WHATEVER THE INPUT: true; the input reads as it did. -/
def blockValidMatchesReferenceSpec : ChangeSpec := { name := "blockValidMatchesReference", fn := fun _ => fun
  | [d1, d2] => { results := [.lit (.bool true)], args := [d1, d2] }
  | _ => none }
def blockValidMatchesReferenceRow : OpenClaim := { program := "ytobhboeiheeghaadoor", sum := "129c4d671910e1e9924f811209819bc92c13fa798819b2e9114b91be47ad309d", func := "copydesk/copydesklaw03.BlockValidMatchesReference", spec := "blockValidMatchesReference", inPlace := ["internal/bytealg.IndexByteString", "internal/bytealg.IndexString", "internal/abi.NoEscape", "internal/bytealg.MakeNoZero"], unfollowed := true, recurses := true, named := ["unicode/utf8.first", "unicode/utf8.acceptRanges", "internal/bytealg.MaxLen"], apart := false, laid := [("unicode/utf8.acceptRanges", laid_unicode_utf8_acceptRanges), ("unicode/utf8.first", laid_unicode_utf8_first)] }
def BlockValidMatchesReferenceSaid : Prop := blockValidMatchesReferenceRow.holds Tryd.pinned (OpenSpec.ofChange blockValidMatchesReferenceSpec)

/-- ITS FALSE NEIGHBOUR: 'it returns false'. Refute it at one input. -/
def blockValidMatchesReferenceWrong : ChangeSpec := { name := "blockValidMatchesReference", fn := fun _ => fun
  | [d1, d2] => { results := [.lit (.bool false)], args := [d1, d2] }
  | _ => none }
def BlockValidMatchesReferenceWrongFalsely : Prop := blockValidMatchesReferenceRow.holds Tryd.pinned (OpenSpec.ofChange blockValidMatchesReferenceWrong)

/-- 'copydesklaw03.BlockSameMatchesReference': WHATEVER THE INPUT: true; the input reads as it did. -/
def blockSameMatchesReferenceSpec : ChangeSpec := { name := "blockSameMatchesReference", fn := fun _ => fun
  | [d1, d2] => { results := [.lit (.bool true)], args := [d1, d2] }
  | _ => none }
def blockSameMatchesReferenceRow : OpenClaim := { program := "ytobhboeiheeghaadoor", sum := "129c4d671910e1e9924f811209819bc92c13fa798819b2e9114b91be47ad309d", func := "copydesk/copydesklaw03.BlockSameMatchesReference", spec := "blockSameMatchesReference", inPlace := ["internal/bytealg.IndexByteString", "internal/bytealg.IndexString", "internal/abi.NoEscape", "internal/bytealg.MakeNoZero"], unfollowed := true, recurses := true, named := ["unicode/utf8.first", "unicode/utf8.acceptRanges", "internal/bytealg.MaxLen"], apart := false, laid := [("unicode/utf8.acceptRanges", laid_unicode_utf8_acceptRanges), ("unicode/utf8.first", laid_unicode_utf8_first)] }
def BlockSameMatchesReferenceSaid : Prop := blockSameMatchesReferenceRow.holds Tryd.pinned (OpenSpec.ofChange blockSameMatchesReferenceSpec)

/-- ITS FALSE NEIGHBOUR: 'it returns false'. Refute it at one input. -/
def blockSameMatchesReferenceWrong : ChangeSpec := { name := "blockSameMatchesReference", fn := fun _ => fun
  | [d1, d2] => { results := [.lit (.bool false)], args := [d1, d2] }
  | _ => none }
def BlockSameMatchesReferenceWrongFalsely : Prop := blockSameMatchesReferenceRow.holds Tryd.pinned (OpenSpec.ofChange blockSameMatchesReferenceWrong)

/-- 'copydesklaw03.BlockEncodeMatchesReference': WHATEVER THE INPUT: true; the input reads as it did. -/
def blockEncodeMatchesReferenceSpec : ChangeSpec := { name := "blockEncodeMatchesReference", fn := fun _ => fun
  | [d] => { results := [.lit (.bool true)], args := [d] }
  | _ => none }
def blockEncodeMatchesReferenceRow : OpenClaim := { program := "ytobhboeiheeghaadoor", sum := "129c4d671910e1e9924f811209819bc92c13fa798819b2e9114b91be47ad309d", func := "copydesk/copydesklaw03.BlockEncodeMatchesReference", spec := "blockEncodeMatchesReference", inPlace := ["internal/bytealg.IndexByteString", "internal/bytealg.IndexString", "internal/abi.NoEscape", "internal/bytealg.MakeNoZero"], unfollowed := true, recurses := true, named := ["unicode/utf8.first", "unicode/utf8.acceptRanges", "internal/bytealg.MaxLen"], apart := false, laid := [("unicode/utf8.acceptRanges", laid_unicode_utf8_acceptRanges), ("unicode/utf8.first", laid_unicode_utf8_first)] }
def BlockEncodeMatchesReferenceSaid : Prop := blockEncodeMatchesReferenceRow.holds Tryd.pinned (OpenSpec.ofChange blockEncodeMatchesReferenceSpec)

/-- ITS FALSE NEIGHBOUR: 'it returns false'. Refute it at one input. -/
def blockEncodeMatchesReferenceWrong : ChangeSpec := { name := "blockEncodeMatchesReference", fn := fun _ => fun
  | [d] => { results := [.lit (.bool false)], args := [d] }
  | _ => none }
def BlockEncodeMatchesReferenceWrongFalsely : Prop := blockEncodeMatchesReferenceRow.holds Tryd.pinned (OpenSpec.ofChange blockEncodeMatchesReferenceWrong)

/-- 'copydesklaw03.BlockDecodeMatchesReference': WHATEVER THE INPUT: true; the input reads as it did. -/
def blockDecodeMatchesReferenceSpec : ChangeSpec := { name := "blockDecodeMatchesReference", fn := fun _ => fun
  | [d] => { results := [.lit (.bool true)], args := [d] }
  | _ => none }
def blockDecodeMatchesReferenceRow : OpenClaim := { program := "ytobhboeiheeghaadoor", sum := "129c4d671910e1e9924f811209819bc92c13fa798819b2e9114b91be47ad309d", func := "copydesk/copydesklaw03.BlockDecodeMatchesReference", spec := "blockDecodeMatchesReference", inPlace := ["internal/bytealg.IndexByteString", "internal/bytealg.IndexString", "internal/abi.NoEscape", "internal/bytealg.MakeNoZero"], unfollowed := true, recurses := true, named := ["unicode/utf8.first", "unicode/utf8.acceptRanges", "internal/bytealg.MaxLen"], apart := false, laid := [("unicode/utf8.acceptRanges", laid_unicode_utf8_acceptRanges), ("unicode/utf8.first", laid_unicode_utf8_first)] }
def BlockDecodeMatchesReferenceSaid : Prop := blockDecodeMatchesReferenceRow.holds Tryd.pinned (OpenSpec.ofChange blockDecodeMatchesReferenceSpec)

/-- ITS FALSE NEIGHBOUR: 'it returns false'. Refute it at one input. -/
def blockDecodeMatchesReferenceWrong : ChangeSpec := { name := "blockDecodeMatchesReference", fn := fun _ => fun
  | [d] => { results := [.lit (.bool false)], args := [d] }
  | _ => none }
def BlockDecodeMatchesReferenceWrongFalsely : Prop := blockDecodeMatchesReferenceRow.holds Tryd.pinned (OpenSpec.ofChange blockDecodeMatchesReferenceWrong)

/-- 'copydesklaw03.BlockSentencesMatchesReference': WHATEVER THE INPUT: true; the input reads as it did. -/
def blockSentencesMatchesReferenceSpec : ChangeSpec := { name := "blockSentencesMatchesReference", fn := fun _ => fun
  | [d] => { results := [.lit (.bool true)], args := [d] }
  | _ => none }
def blockSentencesMatchesReferenceRow : OpenClaim := { program := "ytobhboeiheeghaadoor", sum := "129c4d671910e1e9924f811209819bc92c13fa798819b2e9114b91be47ad309d", func := "copydesk/copydesklaw03.BlockSentencesMatchesReference", spec := "blockSentencesMatchesReference", inPlace := ["internal/bytealg.IndexByteString", "internal/bytealg.IndexString", "internal/abi.NoEscape", "internal/bytealg.MakeNoZero"], unfollowed := true, recurses := true, named := ["unicode/utf8.first", "unicode/utf8.acceptRanges", "internal/bytealg.MaxLen"], apart := false, laid := [("unicode/utf8.acceptRanges", laid_unicode_utf8_acceptRanges), ("unicode/utf8.first", laid_unicode_utf8_first)] }
def BlockSentencesMatchesReferenceSaid : Prop := blockSentencesMatchesReferenceRow.holds Tryd.pinned (OpenSpec.ofChange blockSentencesMatchesReferenceSpec)

/-- ITS FALSE NEIGHBOUR: 'it returns false'. Refute it at one input. -/
def blockSentencesMatchesReferenceWrong : ChangeSpec := { name := "blockSentencesMatchesReference", fn := fun _ => fun
  | [d] => { results := [.lit (.bool false)], args := [d] }
  | _ => none }
def BlockSentencesMatchesReferenceWrongFalsely : Prop := blockSentencesMatchesReferenceRow.holds Tryd.pinned (OpenSpec.ofChange blockSentencesMatchesReferenceWrong)

/-- 'copydesklaw03.BlockPlainMatchesReference': WHATEVER THE INPUT: true; the input reads as it did. -/
def blockPlainMatchesReferenceSpec : ChangeSpec := { name := "blockPlainMatchesReference", fn := fun _ => fun
  | [d] => { results := [.lit (.bool true)], args := [d] }
  | _ => none }
def blockPlainMatchesReferenceRow : OpenClaim := { program := "ytobhboeiheeghaadoor", sum := "129c4d671910e1e9924f811209819bc92c13fa798819b2e9114b91be47ad309d", func := "copydesk/copydesklaw03.BlockPlainMatchesReference", spec := "blockPlainMatchesReference", inPlace := ["internal/bytealg.IndexByteString", "internal/bytealg.IndexString", "internal/abi.NoEscape", "internal/bytealg.MakeNoZero"], unfollowed := true, recurses := true, named := ["unicode/utf8.first", "unicode/utf8.acceptRanges", "internal/bytealg.MaxLen"], apart := false, laid := [("unicode/utf8.acceptRanges", laid_unicode_utf8_acceptRanges), ("unicode/utf8.first", laid_unicode_utf8_first)] }
def BlockPlainMatchesReferenceSaid : Prop := blockPlainMatchesReferenceRow.holds Tryd.pinned (OpenSpec.ofChange blockPlainMatchesReferenceSpec)

/-- ITS FALSE NEIGHBOUR: 'it returns false'. Refute it at one input. -/
def blockPlainMatchesReferenceWrong : ChangeSpec := { name := "blockPlainMatchesReference", fn := fun _ => fun
  | [d] => { results := [.lit (.bool false)], args := [d] }
  | _ => none }
def BlockPlainMatchesReferenceWrongFalsely : Prop := blockPlainMatchesReferenceRow.holds Tryd.pinned (OpenSpec.ofChange blockPlainMatchesReferenceWrong)

/-- 'copydesklaw03.BlockRoundTrip': WHATEVER THE INPUT: true; the input reads as it did. -/
def blockRoundTripSpec : ChangeSpec := { name := "blockRoundTrip", fn := fun _ => fun
  | [d1, d2] => { results := [.lit (.bool true)], args := [d1, d2] }
  | _ => none }
def blockRoundTripRow : OpenClaim := { program := "ytobhboeiheeghaadoor", sum := "129c4d671910e1e9924f811209819bc92c13fa798819b2e9114b91be47ad309d", func := "copydesk/copydesklaw03.BlockRoundTrip", spec := "blockRoundTrip", inPlace := ["internal/bytealg.IndexByteString", "internal/bytealg.IndexString", "internal/abi.NoEscape", "internal/bytealg.MakeNoZero"], unfollowed := true, recurses := true, named := ["unicode/utf8.first", "unicode/utf8.acceptRanges", "internal/bytealg.MaxLen"], apart := false, laid := [("unicode/utf8.acceptRanges", laid_unicode_utf8_acceptRanges), ("unicode/utf8.first", laid_unicode_utf8_first)] }
def BlockRoundTripSaid : Prop := blockRoundTripRow.holds Tryd.pinned (OpenSpec.ofChange blockRoundTripSpec)

/-- ITS FALSE NEIGHBOUR: 'it returns false'. Refute it at one input. -/
def blockRoundTripWrong : ChangeSpec := { name := "blockRoundTrip", fn := fun _ => fun
  | [d1, d2] => { results := [.lit (.bool false)], args := [d1, d2] }
  | _ => none }
def BlockRoundTripWrongFalsely : Prop := blockRoundTripRow.holds Tryd.pinned (OpenSpec.ofChange blockRoundTripWrong)

/-- 'copydesklaw03.BlockDecodedAgain': WHATEVER THE INPUT: true; the input reads as it did. -/
def blockDecodedAgainSpec : ChangeSpec := { name := "blockDecodedAgain", fn := fun _ => fun
  | [d] => { results := [.lit (.bool true)], args := [d] }
  | _ => none }
def blockDecodedAgainRow : OpenClaim := { program := "ytobhboeiheeghaadoor", sum := "129c4d671910e1e9924f811209819bc92c13fa798819b2e9114b91be47ad309d", func := "copydesk/copydesklaw03.BlockDecodedAgain", spec := "blockDecodedAgain", inPlace := ["internal/bytealg.IndexByteString", "internal/bytealg.IndexString", "internal/abi.NoEscape", "internal/bytealg.MakeNoZero"], unfollowed := true, recurses := true, named := ["unicode/utf8.first", "unicode/utf8.acceptRanges", "internal/bytealg.MaxLen"], apart := false, laid := [("unicode/utf8.acceptRanges", laid_unicode_utf8_acceptRanges), ("unicode/utf8.first", laid_unicode_utf8_first)] }
def BlockDecodedAgainSaid : Prop := blockDecodedAgainRow.holds Tryd.pinned (OpenSpec.ofChange blockDecodedAgainSpec)

/-- ITS FALSE NEIGHBOUR: 'it returns false'. Refute it at one input. -/
def blockDecodedAgainWrong : ChangeSpec := { name := "blockDecodedAgain", fn := fun _ => fun
  | [d] => { results := [.lit (.bool false)], args := [d] }
  | _ => none }
def BlockDecodedAgainWrongFalsely : Prop := blockDecodedAgainRow.holds Tryd.pinned (OpenSpec.ofChange blockDecodedAgainWrong)

/-- 'copydesklaw03.BlockPrefixes': WHATEVER THE INPUT: true; the input reads as it did. -/
def blockPrefixesSpec : ChangeSpec := { name := "blockPrefixes", fn := fun _ => fun
  | [d1, d2, d3] => { results := [.lit (.bool true)], args := [d1, d2, d3] }
  | _ => none }
def blockPrefixesRow : OpenClaim := { program := "ytobhboeiheeghaadoor", sum := "129c4d671910e1e9924f811209819bc92c13fa798819b2e9114b91be47ad309d", func := "copydesk/copydesklaw03.BlockPrefixes", spec := "blockPrefixes", inPlace := ["internal/bytealg.IndexByteString", "internal/bytealg.IndexString", "internal/abi.NoEscape", "internal/bytealg.MakeNoZero"], unfollowed := true, recurses := true, named := ["unicode/utf8.first", "unicode/utf8.acceptRanges", "internal/bytealg.MaxLen"], apart := false, laid := [("unicode/utf8.acceptRanges", laid_unicode_utf8_acceptRanges), ("unicode/utf8.first", laid_unicode_utf8_first)] }
def BlockPrefixesSaid : Prop := blockPrefixesRow.holds Tryd.pinned (OpenSpec.ofChange blockPrefixesSpec)

/-- ITS FALSE NEIGHBOUR: 'it returns false'. Refute it at one input. -/
def blockPrefixesWrong : ChangeSpec := { name := "blockPrefixes", fn := fun _ => fun
  | [d1, d2, d3] => { results := [.lit (.bool false)], args := [d1, d2, d3] }
  | _ => none }
def BlockPrefixesWrongFalsely : Prop := blockPrefixesRow.holds Tryd.pinned (OpenSpec.ofChange blockPrefixesWrong)

/-- 'copydesklaw03.BlockSentencesShape': WHATEVER THE INPUT: true; the input reads as it did. -/
def blockSentencesShapeSpec : ChangeSpec := { name := "blockSentencesShape", fn := fun _ => fun
  | [d] => { results := [.lit (.bool true)], args := [d] }
  | _ => none }
def blockSentencesShapeRow : OpenClaim := { program := "ytobhboeiheeghaadoor", sum := "129c4d671910e1e9924f811209819bc92c13fa798819b2e9114b91be47ad309d", func := "copydesk/copydesklaw03.BlockSentencesShape", spec := "blockSentencesShape", inPlace := ["internal/bytealg.IndexByteString", "internal/bytealg.IndexString", "internal/abi.NoEscape", "internal/bytealg.MakeNoZero"], unfollowed := true, recurses := true, named := ["unicode/utf8.first", "unicode/utf8.acceptRanges", "internal/bytealg.MaxLen"], apart := false, laid := [("unicode/utf8.acceptRanges", laid_unicode_utf8_acceptRanges), ("unicode/utf8.first", laid_unicode_utf8_first)] }
def BlockSentencesShapeSaid : Prop := blockSentencesShapeRow.holds Tryd.pinned (OpenSpec.ofChange blockSentencesShapeSpec)

/-- ITS FALSE NEIGHBOUR: 'it returns false'. Refute it at one input. -/
def blockSentencesShapeWrong : ChangeSpec := { name := "blockSentencesShape", fn := fun _ => fun
  | [d] => { results := [.lit (.bool false)], args := [d] }
  | _ => none }
def BlockSentencesShapeWrongFalsely : Prop := blockSentencesShapeRow.holds Tryd.pinned (OpenSpec.ofChange blockSentencesShapeWrong)

/-- 'copydesklaw03.BlockSentencesJoined': WHATEVER THE INPUT: true; the input reads as it did. -/
def blockSentencesJoinedSpec : ChangeSpec := { name := "blockSentencesJoined", fn := fun _ => fun
  | [d] => { results := [.lit (.bool true)], args := [d] }
  | _ => none }
def blockSentencesJoinedRow : OpenClaim := { program := "ytobhboeiheeghaadoor", sum := "129c4d671910e1e9924f811209819bc92c13fa798819b2e9114b91be47ad309d", func := "copydesk/copydesklaw03.BlockSentencesJoined", spec := "blockSentencesJoined", inPlace := ["internal/bytealg.IndexByteString", "internal/bytealg.IndexString", "internal/abi.NoEscape", "internal/bytealg.MakeNoZero"], unfollowed := true, recurses := true, named := ["unicode/utf8.first", "unicode/utf8.acceptRanges", "internal/bytealg.MaxLen"], apart := false, laid := [("unicode/utf8.acceptRanges", laid_unicode_utf8_acceptRanges), ("unicode/utf8.first", laid_unicode_utf8_first)] }
def BlockSentencesJoinedSaid : Prop := blockSentencesJoinedRow.holds Tryd.pinned (OpenSpec.ofChange blockSentencesJoinedSpec)

/-- ITS FALSE NEIGHBOUR: 'it returns false'. Refute it at one input. -/
def blockSentencesJoinedWrong : ChangeSpec := { name := "blockSentencesJoined", fn := fun _ => fun
  | [d] => { results := [.lit (.bool false)], args := [d] }
  | _ => none }
def BlockSentencesJoinedWrongFalsely : Prop := blockSentencesJoinedRow.holds Tryd.pinned (OpenSpec.ofChange blockSentencesJoinedWrong)

/-- 'copydesklaw03.BlockSentencesBuilt': WHATEVER THE INPUT: true; the input reads as it did. -/
def blockSentencesBuiltSpec : ChangeSpec := { name := "blockSentencesBuilt", fn := fun _ => fun
  | [d1, d2, d3] => { results := [.lit (.bool true)], args := [d1, d2, d3] }
  | _ => none }
def blockSentencesBuiltRow : OpenClaim := { program := "ytobhboeiheeghaadoor", sum := "129c4d671910e1e9924f811209819bc92c13fa798819b2e9114b91be47ad309d", func := "copydesk/copydesklaw03.BlockSentencesBuilt", spec := "blockSentencesBuilt", inPlace := ["internal/bytealg.IndexByteString", "internal/bytealg.IndexString", "internal/abi.NoEscape", "internal/bytealg.MakeNoZero"], unfollowed := true, recurses := true, named := ["unicode/utf8.first", "unicode/utf8.acceptRanges", "internal/bytealg.MaxLen"], apart := false, laid := [("unicode/utf8.acceptRanges", laid_unicode_utf8_acceptRanges), ("unicode/utf8.first", laid_unicode_utf8_first)] }
def BlockSentencesBuiltSaid : Prop := blockSentencesBuiltRow.holds Tryd.pinned (OpenSpec.ofChange blockSentencesBuiltSpec)

/-- ITS FALSE NEIGHBOUR: 'it returns false'. Refute it at one input. -/
def blockSentencesBuiltWrong : ChangeSpec := { name := "blockSentencesBuilt", fn := fun _ => fun
  | [d1, d2, d3] => { results := [.lit (.bool false)], args := [d1, d2, d3] }
  | _ => none }
def BlockSentencesBuiltWrongFalsely : Prop := blockSentencesBuiltRow.holds Tryd.pinned (OpenSpec.ofChange blockSentencesBuiltWrong)

/-- 'copydesklaw03.BlockPlainParts': WHATEVER THE INPUT: true; the input reads as it did. -/
def blockPlainPartsSpec : ChangeSpec := { name := "blockPlainParts", fn := fun _ => fun
  | [d1, d2] => { results := [.lit (.bool true)], args := [d1, d2] }
  | _ => none }
def blockPlainPartsRow : OpenClaim := { program := "ytobhboeiheeghaadoor", sum := "129c4d671910e1e9924f811209819bc92c13fa798819b2e9114b91be47ad309d", func := "copydesk/copydesklaw03.BlockPlainParts", spec := "blockPlainParts", inPlace := ["internal/bytealg.IndexByteString", "internal/bytealg.IndexString", "internal/abi.NoEscape", "internal/bytealg.MakeNoZero"], unfollowed := true, recurses := true, named := ["unicode/utf8.first", "unicode/utf8.acceptRanges", "internal/bytealg.MaxLen"], apart := false, laid := [("unicode/utf8.acceptRanges", laid_unicode_utf8_acceptRanges), ("unicode/utf8.first", laid_unicode_utf8_first)] }
def BlockPlainPartsSaid : Prop := blockPlainPartsRow.holds Tryd.pinned (OpenSpec.ofChange blockPlainPartsSpec)

/-- ITS FALSE NEIGHBOUR: 'it returns false'. Refute it at one input. -/
def blockPlainPartsWrong : ChangeSpec := { name := "blockPlainParts", fn := fun _ => fun
  | [d1, d2] => { results := [.lit (.bool false)], args := [d1, d2] }
  | _ => none }
def BlockPlainPartsWrongFalsely : Prop := blockPlainPartsRow.holds Tryd.pinned (OpenSpec.ofChange blockPlainPartsWrong)

/-- 'copydesklaw03.BlockPlainLines': WHATEVER THE INPUT: true; the input reads as it did. -/
def blockPlainLinesSpec : ChangeSpec := { name := "blockPlainLines", fn := fun _ => fun
  | [d] => { results := [.lit (.bool true)], args := [d] }
  | _ => none }
def blockPlainLinesRow : OpenClaim := { program := "ytobhboeiheeghaadoor", sum := "129c4d671910e1e9924f811209819bc92c13fa798819b2e9114b91be47ad309d", func := "copydesk/copydesklaw03.BlockPlainLines", spec := "blockPlainLines", inPlace := ["internal/bytealg.IndexByteString", "internal/bytealg.IndexString", "internal/abi.NoEscape", "internal/bytealg.MakeNoZero"], unfollowed := true, recurses := true, named := ["unicode/utf8.first", "unicode/utf8.acceptRanges", "internal/bytealg.MaxLen"], apart := false, laid := [("unicode/utf8.acceptRanges", laid_unicode_utf8_acceptRanges), ("unicode/utf8.first", laid_unicode_utf8_first)] }
def BlockPlainLinesSaid : Prop := blockPlainLinesRow.holds Tryd.pinned (OpenSpec.ofChange blockPlainLinesSpec)

/-- ITS FALSE NEIGHBOUR: 'it returns false'. Refute it at one input. -/
def blockPlainLinesWrong : ChangeSpec := { name := "blockPlainLines", fn := fun _ => fun
  | [d] => { results := [.lit (.bool false)], args := [d] }
  | _ => none }
def BlockPlainLinesWrongFalsely : Prop := blockPlainLinesRow.holds Tryd.pinned (OpenSpec.ofChange blockPlainLinesWrong)

/- THE SECOND FORM. 'bulk': how many values and letters a reading holds, each counted each time it is reached (what is shared counts as often as it is met; a slice's spare places count too). A statement '..UptoSaid' is the law's where the arguments, and the package variables that the reading takes, are together of bulk at most 1048576: NARROWER than '..Said'. Prove '..Said' where nothing that the law and all that it calls make is longer than what came in: it says more and counts as full. Else prove '..UptoSaid'. A law counts once. -/
mutual
def uptoBulk {H : Type} : DataW H → Nat
  | .lit (.string bytes) => bytes.length + 1
  | .lit _ => 1
  | .nil => 1
  | .ptr d => uptoBulk d + 1
  | .slice elems spare => uptoBulkAll elems + uptoBulkAll spare + 1
  | .agg parts => uptoBulkAll parts + 1
  | .iface _ d => uptoBulk d + 1
  | .map entries => uptoBulkEntries entries + 1
  | .held _ => 1
def uptoBulkAll {H : Type} : List (DataW H) → Nat
  | [] => 0
  | d :: r => uptoBulk d + uptoBulkAll r
def uptoBulkEntries {H : Type} : List (Lit × DataW H) → Nat
  | [] => 0
  | x :: r => uptoBulkEntry x + uptoBulkEntries r
def uptoBulkEntry {H : Type} : Lit × DataW H → Nat
  | (.string bytes, d) => bytes.length + uptoBulk d + 1
  | (_, d) => uptoBulk d + 1
 end
def uptoSmall : (H : Type) → List (DataW H) → Bool := fun _ ds => decide (uptoBulkAll ds ≤ 1048576)
def OpenSpec.upto (s : _root_.Go.ChangeSpec) : _root_.Go.OpenSpec := { _root_.Go.OpenSpec.ofChange s with cond := some uptoSmall }

/-- 'copydesklaw03.BlockValidMatchesReference', WHERE WHAT IT READS IS OF BULK AT MOST 1048576: true; the input reads as it did. -/
def blockValidMatchesReferenceUptoRow : OpenClaim := { program := "ytobhboeiheeghaadoor", sum := "129c4d671910e1e9924f811209819bc92c13fa798819b2e9114b91be47ad309d", func := "copydesk/copydesklaw03.BlockValidMatchesReference", spec := "blockValidMatchesReference", inPlace := ["internal/bytealg.IndexByteString", "internal/bytealg.IndexString", "internal/abi.NoEscape", "internal/bytealg.MakeNoZero"], unfollowed := true, recurses := true, named := ["unicode/utf8.first", "unicode/utf8.acceptRanges", "internal/bytealg.MaxLen"], apart := false, laid := [("unicode/utf8.acceptRanges", laid_unicode_utf8_acceptRanges), ("unicode/utf8.first", laid_unicode_utf8_first)], narrowed := true }
def BlockValidMatchesReferenceUptoSaid : Prop := blockValidMatchesReferenceUptoRow.holds Tryd.pinned (OpenSpec.upto blockValidMatchesReferenceSpec)

/-- 'copydesklaw03.BlockSameMatchesReference', WHERE WHAT IT READS IS OF BULK AT MOST 1048576: true; the input reads as it did. -/
def blockSameMatchesReferenceUptoRow : OpenClaim := { program := "ytobhboeiheeghaadoor", sum := "129c4d671910e1e9924f811209819bc92c13fa798819b2e9114b91be47ad309d", func := "copydesk/copydesklaw03.BlockSameMatchesReference", spec := "blockSameMatchesReference", inPlace := ["internal/bytealg.IndexByteString", "internal/bytealg.IndexString", "internal/abi.NoEscape", "internal/bytealg.MakeNoZero"], unfollowed := true, recurses := true, named := ["unicode/utf8.first", "unicode/utf8.acceptRanges", "internal/bytealg.MaxLen"], apart := false, laid := [("unicode/utf8.acceptRanges", laid_unicode_utf8_acceptRanges), ("unicode/utf8.first", laid_unicode_utf8_first)], narrowed := true }
def BlockSameMatchesReferenceUptoSaid : Prop := blockSameMatchesReferenceUptoRow.holds Tryd.pinned (OpenSpec.upto blockSameMatchesReferenceSpec)

/-- 'copydesklaw03.BlockEncodeMatchesReference', WHERE WHAT IT READS IS OF BULK AT MOST 1048576: true; the input reads as it did. -/
def blockEncodeMatchesReferenceUptoRow : OpenClaim := { program := "ytobhboeiheeghaadoor", sum := "129c4d671910e1e9924f811209819bc92c13fa798819b2e9114b91be47ad309d", func := "copydesk/copydesklaw03.BlockEncodeMatchesReference", spec := "blockEncodeMatchesReference", inPlace := ["internal/bytealg.IndexByteString", "internal/bytealg.IndexString", "internal/abi.NoEscape", "internal/bytealg.MakeNoZero"], unfollowed := true, recurses := true, named := ["unicode/utf8.first", "unicode/utf8.acceptRanges", "internal/bytealg.MaxLen"], apart := false, laid := [("unicode/utf8.acceptRanges", laid_unicode_utf8_acceptRanges), ("unicode/utf8.first", laid_unicode_utf8_first)], narrowed := true }
def BlockEncodeMatchesReferenceUptoSaid : Prop := blockEncodeMatchesReferenceUptoRow.holds Tryd.pinned (OpenSpec.upto blockEncodeMatchesReferenceSpec)

/-- 'copydesklaw03.BlockDecodeMatchesReference', WHERE WHAT IT READS IS OF BULK AT MOST 1048576: true; the input reads as it did. -/
def blockDecodeMatchesReferenceUptoRow : OpenClaim := { program := "ytobhboeiheeghaadoor", sum := "129c4d671910e1e9924f811209819bc92c13fa798819b2e9114b91be47ad309d", func := "copydesk/copydesklaw03.BlockDecodeMatchesReference", spec := "blockDecodeMatchesReference", inPlace := ["internal/bytealg.IndexByteString", "internal/bytealg.IndexString", "internal/abi.NoEscape", "internal/bytealg.MakeNoZero"], unfollowed := true, recurses := true, named := ["unicode/utf8.first", "unicode/utf8.acceptRanges", "internal/bytealg.MaxLen"], apart := false, laid := [("unicode/utf8.acceptRanges", laid_unicode_utf8_acceptRanges), ("unicode/utf8.first", laid_unicode_utf8_first)], narrowed := true }
def BlockDecodeMatchesReferenceUptoSaid : Prop := blockDecodeMatchesReferenceUptoRow.holds Tryd.pinned (OpenSpec.upto blockDecodeMatchesReferenceSpec)

/-- 'copydesklaw03.BlockSentencesMatchesReference', WHERE WHAT IT READS IS OF BULK AT MOST 1048576: true; the input reads as it did. -/
def blockSentencesMatchesReferenceUptoRow : OpenClaim := { program := "ytobhboeiheeghaadoor", sum := "129c4d671910e1e9924f811209819bc92c13fa798819b2e9114b91be47ad309d", func := "copydesk/copydesklaw03.BlockSentencesMatchesReference", spec := "blockSentencesMatchesReference", inPlace := ["internal/bytealg.IndexByteString", "internal/bytealg.IndexString", "internal/abi.NoEscape", "internal/bytealg.MakeNoZero"], unfollowed := true, recurses := true, named := ["unicode/utf8.first", "unicode/utf8.acceptRanges", "internal/bytealg.MaxLen"], apart := false, laid := [("unicode/utf8.acceptRanges", laid_unicode_utf8_acceptRanges), ("unicode/utf8.first", laid_unicode_utf8_first)], narrowed := true }
def BlockSentencesMatchesReferenceUptoSaid : Prop := blockSentencesMatchesReferenceUptoRow.holds Tryd.pinned (OpenSpec.upto blockSentencesMatchesReferenceSpec)

/-- 'copydesklaw03.BlockPlainMatchesReference', WHERE WHAT IT READS IS OF BULK AT MOST 1048576: true; the input reads as it did. -/
def blockPlainMatchesReferenceUptoRow : OpenClaim := { program := "ytobhboeiheeghaadoor", sum := "129c4d671910e1e9924f811209819bc92c13fa798819b2e9114b91be47ad309d", func := "copydesk/copydesklaw03.BlockPlainMatchesReference", spec := "blockPlainMatchesReference", inPlace := ["internal/bytealg.IndexByteString", "internal/bytealg.IndexString", "internal/abi.NoEscape", "internal/bytealg.MakeNoZero"], unfollowed := true, recurses := true, named := ["unicode/utf8.first", "unicode/utf8.acceptRanges", "internal/bytealg.MaxLen"], apart := false, laid := [("unicode/utf8.acceptRanges", laid_unicode_utf8_acceptRanges), ("unicode/utf8.first", laid_unicode_utf8_first)], narrowed := true }
def BlockPlainMatchesReferenceUptoSaid : Prop := blockPlainMatchesReferenceUptoRow.holds Tryd.pinned (OpenSpec.upto blockPlainMatchesReferenceSpec)

/-- 'copydesklaw03.BlockRoundTrip', WHERE WHAT IT READS IS OF BULK AT MOST 1048576: true; the input reads as it did. -/
def blockRoundTripUptoRow : OpenClaim := { program := "ytobhboeiheeghaadoor", sum := "129c4d671910e1e9924f811209819bc92c13fa798819b2e9114b91be47ad309d", func := "copydesk/copydesklaw03.BlockRoundTrip", spec := "blockRoundTrip", inPlace := ["internal/bytealg.IndexByteString", "internal/bytealg.IndexString", "internal/abi.NoEscape", "internal/bytealg.MakeNoZero"], unfollowed := true, recurses := true, named := ["unicode/utf8.first", "unicode/utf8.acceptRanges", "internal/bytealg.MaxLen"], apart := false, laid := [("unicode/utf8.acceptRanges", laid_unicode_utf8_acceptRanges), ("unicode/utf8.first", laid_unicode_utf8_first)], narrowed := true }
def BlockRoundTripUptoSaid : Prop := blockRoundTripUptoRow.holds Tryd.pinned (OpenSpec.upto blockRoundTripSpec)

/-- 'copydesklaw03.BlockDecodedAgain', WHERE WHAT IT READS IS OF BULK AT MOST 1048576: true; the input reads as it did. -/
def blockDecodedAgainUptoRow : OpenClaim := { program := "ytobhboeiheeghaadoor", sum := "129c4d671910e1e9924f811209819bc92c13fa798819b2e9114b91be47ad309d", func := "copydesk/copydesklaw03.BlockDecodedAgain", spec := "blockDecodedAgain", inPlace := ["internal/bytealg.IndexByteString", "internal/bytealg.IndexString", "internal/abi.NoEscape", "internal/bytealg.MakeNoZero"], unfollowed := true, recurses := true, named := ["unicode/utf8.first", "unicode/utf8.acceptRanges", "internal/bytealg.MaxLen"], apart := false, laid := [("unicode/utf8.acceptRanges", laid_unicode_utf8_acceptRanges), ("unicode/utf8.first", laid_unicode_utf8_first)], narrowed := true }
def BlockDecodedAgainUptoSaid : Prop := blockDecodedAgainUptoRow.holds Tryd.pinned (OpenSpec.upto blockDecodedAgainSpec)

/-- 'copydesklaw03.BlockPrefixes', WHERE WHAT IT READS IS OF BULK AT MOST 1048576: true; the input reads as it did. -/
def blockPrefixesUptoRow : OpenClaim := { program := "ytobhboeiheeghaadoor", sum := "129c4d671910e1e9924f811209819bc92c13fa798819b2e9114b91be47ad309d", func := "copydesk/copydesklaw03.BlockPrefixes", spec := "blockPrefixes", inPlace := ["internal/bytealg.IndexByteString", "internal/bytealg.IndexString", "internal/abi.NoEscape", "internal/bytealg.MakeNoZero"], unfollowed := true, recurses := true, named := ["unicode/utf8.first", "unicode/utf8.acceptRanges", "internal/bytealg.MaxLen"], apart := false, laid := [("unicode/utf8.acceptRanges", laid_unicode_utf8_acceptRanges), ("unicode/utf8.first", laid_unicode_utf8_first)], narrowed := true }
def BlockPrefixesUptoSaid : Prop := blockPrefixesUptoRow.holds Tryd.pinned (OpenSpec.upto blockPrefixesSpec)

/-- 'copydesklaw03.BlockSentencesShape', WHERE WHAT IT READS IS OF BULK AT MOST 1048576: true; the input reads as it did. -/
def blockSentencesShapeUptoRow : OpenClaim := { program := "ytobhboeiheeghaadoor", sum := "129c4d671910e1e9924f811209819bc92c13fa798819b2e9114b91be47ad309d", func := "copydesk/copydesklaw03.BlockSentencesShape", spec := "blockSentencesShape", inPlace := ["internal/bytealg.IndexByteString", "internal/bytealg.IndexString", "internal/abi.NoEscape", "internal/bytealg.MakeNoZero"], unfollowed := true, recurses := true, named := ["unicode/utf8.first", "unicode/utf8.acceptRanges", "internal/bytealg.MaxLen"], apart := false, laid := [("unicode/utf8.acceptRanges", laid_unicode_utf8_acceptRanges), ("unicode/utf8.first", laid_unicode_utf8_first)], narrowed := true }
def BlockSentencesShapeUptoSaid : Prop := blockSentencesShapeUptoRow.holds Tryd.pinned (OpenSpec.upto blockSentencesShapeSpec)

/-- 'copydesklaw03.BlockSentencesJoined', WHERE WHAT IT READS IS OF BULK AT MOST 1048576: true; the input reads as it did. -/
def blockSentencesJoinedUptoRow : OpenClaim := { program := "ytobhboeiheeghaadoor", sum := "129c4d671910e1e9924f811209819bc92c13fa798819b2e9114b91be47ad309d", func := "copydesk/copydesklaw03.BlockSentencesJoined", spec := "blockSentencesJoined", inPlace := ["internal/bytealg.IndexByteString", "internal/bytealg.IndexString", "internal/abi.NoEscape", "internal/bytealg.MakeNoZero"], unfollowed := true, recurses := true, named := ["unicode/utf8.first", "unicode/utf8.acceptRanges", "internal/bytealg.MaxLen"], apart := false, laid := [("unicode/utf8.acceptRanges", laid_unicode_utf8_acceptRanges), ("unicode/utf8.first", laid_unicode_utf8_first)], narrowed := true }
def BlockSentencesJoinedUptoSaid : Prop := blockSentencesJoinedUptoRow.holds Tryd.pinned (OpenSpec.upto blockSentencesJoinedSpec)

/-- 'copydesklaw03.BlockSentencesBuilt', WHERE WHAT IT READS IS OF BULK AT MOST 1048576: true; the input reads as it did. -/
def blockSentencesBuiltUptoRow : OpenClaim := { program := "ytobhboeiheeghaadoor", sum := "129c4d671910e1e9924f811209819bc92c13fa798819b2e9114b91be47ad309d", func := "copydesk/copydesklaw03.BlockSentencesBuilt", spec := "blockSentencesBuilt", inPlace := ["internal/bytealg.IndexByteString", "internal/bytealg.IndexString", "internal/abi.NoEscape", "internal/bytealg.MakeNoZero"], unfollowed := true, recurses := true, named := ["unicode/utf8.first", "unicode/utf8.acceptRanges", "internal/bytealg.MaxLen"], apart := false, laid := [("unicode/utf8.acceptRanges", laid_unicode_utf8_acceptRanges), ("unicode/utf8.first", laid_unicode_utf8_first)], narrowed := true }
def BlockSentencesBuiltUptoSaid : Prop := blockSentencesBuiltUptoRow.holds Tryd.pinned (OpenSpec.upto blockSentencesBuiltSpec)

/-- 'copydesklaw03.BlockPlainParts', WHERE WHAT IT READS IS OF BULK AT MOST 1048576: true; the input reads as it did. -/
def blockPlainPartsUptoRow : OpenClaim := { program := "ytobhboeiheeghaadoor", sum := "129c4d671910e1e9924f811209819bc92c13fa798819b2e9114b91be47ad309d", func := "copydesk/copydesklaw03.BlockPlainParts", spec := "blockPlainParts", inPlace := ["internal/bytealg.IndexByteString", "internal/bytealg.IndexString", "internal/abi.NoEscape", "internal/bytealg.MakeNoZero"], unfollowed := true, recurses := true, named := ["unicode/utf8.first", "unicode/utf8.acceptRanges", "internal/bytealg.MaxLen"], apart := false, laid := [("unicode/utf8.acceptRanges", laid_unicode_utf8_acceptRanges), ("unicode/utf8.first", laid_unicode_utf8_first)], narrowed := true }
def BlockPlainPartsUptoSaid : Prop := blockPlainPartsUptoRow.holds Tryd.pinned (OpenSpec.upto blockPlainPartsSpec)

/-- 'copydesklaw03.BlockPlainLines', WHERE WHAT IT READS IS OF BULK AT MOST 1048576: true; the input reads as it did. -/
def blockPlainLinesUptoRow : OpenClaim := { program := "ytobhboeiheeghaadoor", sum := "129c4d671910e1e9924f811209819bc92c13fa798819b2e9114b91be47ad309d", func := "copydesk/copydesklaw03.BlockPlainLines", spec := "blockPlainLines", inPlace := ["internal/bytealg.IndexByteString", "internal/bytealg.IndexString", "internal/abi.NoEscape", "internal/bytealg.MakeNoZero"], unfollowed := true, recurses := true, named := ["unicode/utf8.first", "unicode/utf8.acceptRanges", "internal/bytealg.MaxLen"], apart := false, laid := [("unicode/utf8.acceptRanges", laid_unicode_utf8_acceptRanges), ("unicode/utf8.first", laid_unicode_utf8_first)], narrowed := true }
def BlockPlainLinesUptoSaid : Prop := blockPlainLinesUptoRow.holds Tryd.pinned (OpenSpec.upto blockPlainLinesSpec)

end Rows
end Go.Proofs.YtobhboeiheeghaaDoor
