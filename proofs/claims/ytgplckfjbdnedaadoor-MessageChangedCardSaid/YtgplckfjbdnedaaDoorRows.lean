/-
  NARROWER THAN 'FOR EVERY INPUT', by the rows' own cells (each row's printed sentence says how): MessageEncodeMatchesReference: laid · MessageDecodeMatchesReference: laid · MessageDecodeSealed: laid · MessageRoundTrip: laid · MessageDecodedAgain: laid · MessageChanged: laid · MessageLength: laid.
  DERIVED. THE GIVEN ROWS OF THIS SEAT. 7 by the template 'for every input the law returns true; each argument reads behind the call as it read before'; 0 by the template 'total and deterministic' (their statements: YtgplckfjbdnedaaDoorTotals.lean).
  GIVEN WITH THE SEED: the statements are not yours to turn. If you find one false, say at which input.
  Laid BY PROGRAM, IN A SANDBOX (cutbox-rows.mjs): the forced cells as the released guide's own fill.sh prints them over the translation 9cc42b2edda4ee4d… (all of the seat's roots in one cut). By AI agents, Wed Nov 11 2026. No macro, syntax, notation, axiom, sorry.
-/
import Derived.Test.YtgplckfjbdnedaaDoorChecked
import GoSem.Claim
import GoSem.ClaimJoined
import GoSem.ClaimMapViews
import Derived.JoinedTies
import Derived.KernelRfl
namespace Go.Proofs.YtgplckfjbdnedaaDoor
/- THE CELL 'sum', in the pinned program and in every row, IS THE sha256 OF THE DUMP (.gsa) THAT YtgplckfjbdnedaaDoorProg.lean LOADS. Nothing in Lean hashes anything: it is a label: what it is worth is what the hold of that sum in a sandbox is worth. -/
noncomputable def Tryd.pinned : Pinned := { name := "ytgplckfjbdnedaadoor", sum := "9cc42b2edda4ee4dee3cc420c03267dd3d5e4b57d088b179cfc66e9a3dda6300", checked := Tryd.checked }
namespace Rows
def none {H : Type} : Left H := { results := [], args := [] }

/- WHAT THE LISTED PACKAGE-LEVEL VARIABLES READ AS WHEN THE CALL BEGINS. Each datum BY PROGRAM (the guide's laid-datum.mjs) off the statement by which the dump's own 'gosem.cut.vars' lays the variable. In a bare row this is a premise. The card (YtgplckfjbdnedaaDoorCards.lean) ties it to the program's text. -/
def laid_errors_errorType {H : Type} : DataW H := .iface "internal/reflectlite.rtype" (.agg [.ptr (.lit (.string [101, 114, 114, 111, 114]))])
def laid_copydesk_wire_shifts {H : Type} : DataW H := .agg [.lit (.int .u32 0), .lit (.int .u32 274646895), .lit (.int .u32 549293790), .lit (.int .u32 820201905), .lit (.int .u32 1098587580), .lit (.int .u32 1361435347), .lit (.int .u32 1640403810), .lit (.int .u32 1905808397), .lit (.int .u32 2197175160), .lit (.int .u32 2460548119), .lit (.int .u32 2722870694), .lit (.int .u32 2987750089), .lit (.int .u32 3280807620), .lit (.int .u32 3553878443), .lit (.int .u32 3811616794), .lit (.int .u32 4084100981)]

/-- 'copydesklaw20.MessageEncodeMatchesReference': WHATEVER THE INPUT: true; the input reads as it did. -/
def messageEncodeMatchesReferenceSpec : ChangeSpec := { name := "messageEncodeMatchesReference", fn := fun _ => fun
  | [d] => { results := [.lit (.bool true)], args := [d] }
  | _ => none }
def messageEncodeMatchesReferenceRow : OpenClaim := { program := "ytgplckfjbdnedaadoor", sum := "9cc42b2edda4ee4dee3cc420c03267dd3d5e4b57d088b179cfc66e9a3dda6300", func := "copydesk/copydesklaw20.MessageEncodeMatchesReference", spec := "messageEncodeMatchesReference", inPlace := ["internal/reflectlite.ValueOf", "(internal/reflectlite.Value).Type", "(internal/reflectlite.Value).IsNil", "internal/reflectlite.TypeOf", "(internal/reflectlite.Value).Elem", "(internal/reflectlite.Value).Set"], unfollowed := true, recurses := true, named := ["copydesk/wire.shifts", "errors.errorType"], apart := false, laid := [("errors.errorType", laid_errors_errorType), ("copydesk/wire.shifts", laid_copydesk_wire_shifts)] }
def MessageEncodeMatchesReferenceSaid : Prop := messageEncodeMatchesReferenceRow.holds Tryd.pinned (OpenSpec.ofChange messageEncodeMatchesReferenceSpec)

/-- ITS FALSE NEIGHBOUR: 'it returns false'. Refute it at one input. -/
def messageEncodeMatchesReferenceWrong : ChangeSpec := { name := "messageEncodeMatchesReference", fn := fun _ => fun
  | [d] => { results := [.lit (.bool false)], args := [d] }
  | _ => none }
def MessageEncodeMatchesReferenceWrongFalsely : Prop := messageEncodeMatchesReferenceRow.holds Tryd.pinned (OpenSpec.ofChange messageEncodeMatchesReferenceWrong)

/-- 'copydesklaw20.MessageDecodeMatchesReference': WHATEVER THE INPUT: true; the input reads as it did. -/
def messageDecodeMatchesReferenceSpec : ChangeSpec := { name := "messageDecodeMatchesReference", fn := fun _ => fun
  | [d] => { results := [.lit (.bool true)], args := [d] }
  | _ => none }
def messageDecodeMatchesReferenceRow : OpenClaim := { program := "ytgplckfjbdnedaadoor", sum := "9cc42b2edda4ee4dee3cc420c03267dd3d5e4b57d088b179cfc66e9a3dda6300", func := "copydesk/copydesklaw20.MessageDecodeMatchesReference", spec := "messageDecodeMatchesReference", inPlace := ["internal/reflectlite.ValueOf", "(internal/reflectlite.Value).Type", "(internal/reflectlite.Value).IsNil", "internal/reflectlite.TypeOf", "(internal/reflectlite.Value).Elem", "(internal/reflectlite.Value).Set"], unfollowed := true, recurses := true, named := ["copydesk/wire.shifts", "errors.errorType"], apart := false, laid := [("errors.errorType", laid_errors_errorType), ("copydesk/wire.shifts", laid_copydesk_wire_shifts)] }
def MessageDecodeMatchesReferenceSaid : Prop := messageDecodeMatchesReferenceRow.holds Tryd.pinned (OpenSpec.ofChange messageDecodeMatchesReferenceSpec)

/-- ITS FALSE NEIGHBOUR: 'it returns false'. Refute it at one input. -/
def messageDecodeMatchesReferenceWrong : ChangeSpec := { name := "messageDecodeMatchesReference", fn := fun _ => fun
  | [d] => { results := [.lit (.bool false)], args := [d] }
  | _ => none }
def MessageDecodeMatchesReferenceWrongFalsely : Prop := messageDecodeMatchesReferenceRow.holds Tryd.pinned (OpenSpec.ofChange messageDecodeMatchesReferenceWrong)

/-- 'copydesklaw20.MessageDecodeSealed': WHATEVER THE INPUT: true; the input reads as it did. -/
def messageDecodeSealedSpec : ChangeSpec := { name := "messageDecodeSealed", fn := fun _ => fun
  | [d] => { results := [.lit (.bool true)], args := [d] }
  | _ => none }
def messageDecodeSealedRow : OpenClaim := { program := "ytgplckfjbdnedaadoor", sum := "9cc42b2edda4ee4dee3cc420c03267dd3d5e4b57d088b179cfc66e9a3dda6300", func := "copydesk/copydesklaw20.MessageDecodeSealed", spec := "messageDecodeSealed", inPlace := ["internal/reflectlite.ValueOf", "(internal/reflectlite.Value).Type", "(internal/reflectlite.Value).IsNil", "internal/reflectlite.TypeOf", "(internal/reflectlite.Value).Elem", "(internal/reflectlite.Value).Set"], unfollowed := true, recurses := true, named := ["copydesk/wire.shifts", "errors.errorType"], apart := false, laid := [("errors.errorType", laid_errors_errorType), ("copydesk/wire.shifts", laid_copydesk_wire_shifts)] }
def MessageDecodeSealedSaid : Prop := messageDecodeSealedRow.holds Tryd.pinned (OpenSpec.ofChange messageDecodeSealedSpec)

/-- ITS FALSE NEIGHBOUR: 'it returns false'. Refute it at one input. -/
def messageDecodeSealedWrong : ChangeSpec := { name := "messageDecodeSealed", fn := fun _ => fun
  | [d] => { results := [.lit (.bool false)], args := [d] }
  | _ => none }
def MessageDecodeSealedWrongFalsely : Prop := messageDecodeSealedRow.holds Tryd.pinned (OpenSpec.ofChange messageDecodeSealedWrong)

/-- 'copydesklaw20.MessageRoundTrip': WHATEVER THE INPUT: true; the input reads as it did. -/
def messageRoundTripSpec : ChangeSpec := { name := "messageRoundTrip", fn := fun _ => fun
  | [d1, d2] => { results := [.lit (.bool true)], args := [d1, d2] }
  | _ => none }
def messageRoundTripRow : OpenClaim := { program := "ytgplckfjbdnedaadoor", sum := "9cc42b2edda4ee4dee3cc420c03267dd3d5e4b57d088b179cfc66e9a3dda6300", func := "copydesk/copydesklaw20.MessageRoundTrip", spec := "messageRoundTrip", inPlace := ["internal/reflectlite.ValueOf", "(internal/reflectlite.Value).Type", "(internal/reflectlite.Value).IsNil", "internal/reflectlite.TypeOf", "(internal/reflectlite.Value).Elem", "(internal/reflectlite.Value).Set"], unfollowed := true, recurses := true, named := ["copydesk/wire.shifts", "errors.errorType"], apart := false, laid := [("errors.errorType", laid_errors_errorType), ("copydesk/wire.shifts", laid_copydesk_wire_shifts)] }
def MessageRoundTripSaid : Prop := messageRoundTripRow.holds Tryd.pinned (OpenSpec.ofChange messageRoundTripSpec)

/-- ITS FALSE NEIGHBOUR: 'it returns false'. Refute it at one input. -/
def messageRoundTripWrong : ChangeSpec := { name := "messageRoundTrip", fn := fun _ => fun
  | [d1, d2] => { results := [.lit (.bool false)], args := [d1, d2] }
  | _ => none }
def MessageRoundTripWrongFalsely : Prop := messageRoundTripRow.holds Tryd.pinned (OpenSpec.ofChange messageRoundTripWrong)

/-- 'copydesklaw20.MessageDecodedAgain': WHATEVER THE INPUT: true; the input reads as it did. -/
def messageDecodedAgainSpec : ChangeSpec := { name := "messageDecodedAgain", fn := fun _ => fun
  | [d] => { results := [.lit (.bool true)], args := [d] }
  | _ => none }
def messageDecodedAgainRow : OpenClaim := { program := "ytgplckfjbdnedaadoor", sum := "9cc42b2edda4ee4dee3cc420c03267dd3d5e4b57d088b179cfc66e9a3dda6300", func := "copydesk/copydesklaw20.MessageDecodedAgain", spec := "messageDecodedAgain", inPlace := ["internal/reflectlite.ValueOf", "(internal/reflectlite.Value).Type", "(internal/reflectlite.Value).IsNil", "internal/reflectlite.TypeOf", "(internal/reflectlite.Value).Elem", "(internal/reflectlite.Value).Set"], unfollowed := true, recurses := true, named := ["copydesk/wire.shifts", "errors.errorType"], apart := false, laid := [("errors.errorType", laid_errors_errorType), ("copydesk/wire.shifts", laid_copydesk_wire_shifts)] }
def MessageDecodedAgainSaid : Prop := messageDecodedAgainRow.holds Tryd.pinned (OpenSpec.ofChange messageDecodedAgainSpec)

/-- ITS FALSE NEIGHBOUR: 'it returns false'. Refute it at one input. -/
def messageDecodedAgainWrong : ChangeSpec := { name := "messageDecodedAgain", fn := fun _ => fun
  | [d] => { results := [.lit (.bool false)], args := [d] }
  | _ => none }
def MessageDecodedAgainWrongFalsely : Prop := messageDecodedAgainRow.holds Tryd.pinned (OpenSpec.ofChange messageDecodedAgainWrong)

/-- 'copydesklaw20.MessageChanged': WHATEVER THE INPUT: true; the input reads as it did. -/
def messageChangedSpec : ChangeSpec := { name := "messageChanged", fn := fun _ => fun
  | [d1, d2, d3] => { results := [.lit (.bool true)], args := [d1, d2, d3] }
  | _ => none }
def messageChangedRow : OpenClaim := { program := "ytgplckfjbdnedaadoor", sum := "9cc42b2edda4ee4dee3cc420c03267dd3d5e4b57d088b179cfc66e9a3dda6300", func := "copydesk/copydesklaw20.MessageChanged", spec := "messageChanged", inPlace := ["internal/reflectlite.ValueOf", "(internal/reflectlite.Value).Type", "(internal/reflectlite.Value).IsNil", "internal/reflectlite.TypeOf", "(internal/reflectlite.Value).Elem", "(internal/reflectlite.Value).Set"], unfollowed := true, recurses := true, named := ["copydesk/wire.shifts", "errors.errorType"], apart := false, laid := [("errors.errorType", laid_errors_errorType), ("copydesk/wire.shifts", laid_copydesk_wire_shifts)] }
def MessageChangedSaid : Prop := messageChangedRow.holds Tryd.pinned (OpenSpec.ofChange messageChangedSpec)

/-- ITS FALSE NEIGHBOUR: 'it returns false'. Refute it at one input. -/
def messageChangedWrong : ChangeSpec := { name := "messageChanged", fn := fun _ => fun
  | [d1, d2, d3] => { results := [.lit (.bool false)], args := [d1, d2, d3] }
  | _ => none }
def MessageChangedWrongFalsely : Prop := messageChangedRow.holds Tryd.pinned (OpenSpec.ofChange messageChangedWrong)

/-- 'copydesklaw20.MessageLength': WHATEVER THE INPUT: true; the input reads as it did. -/
def messageLengthSpec : ChangeSpec := { name := "messageLength", fn := fun _ => fun
  | [d1, d2, d3] => { results := [.lit (.bool true)], args := [d1, d2, d3] }
  | _ => none }
def messageLengthRow : OpenClaim := { program := "ytgplckfjbdnedaadoor", sum := "9cc42b2edda4ee4dee3cc420c03267dd3d5e4b57d088b179cfc66e9a3dda6300", func := "copydesk/copydesklaw20.MessageLength", spec := "messageLength", inPlace := ["internal/reflectlite.ValueOf", "(internal/reflectlite.Value).Type", "(internal/reflectlite.Value).IsNil", "internal/reflectlite.TypeOf", "(internal/reflectlite.Value).Elem", "(internal/reflectlite.Value).Set"], unfollowed := true, recurses := true, named := ["copydesk/wire.shifts", "errors.errorType"], apart := false, laid := [("errors.errorType", laid_errors_errorType), ("copydesk/wire.shifts", laid_copydesk_wire_shifts)] }
def MessageLengthSaid : Prop := messageLengthRow.holds Tryd.pinned (OpenSpec.ofChange messageLengthSpec)

/-- ITS FALSE NEIGHBOUR: 'it returns false'. Refute it at one input. -/
def messageLengthWrong : ChangeSpec := { name := "messageLength", fn := fun _ => fun
  | [d1, d2, d3] => { results := [.lit (.bool false)], args := [d1, d2, d3] }
  | _ => none }
def MessageLengthWrongFalsely : Prop := messageLengthRow.holds Tryd.pinned (OpenSpec.ofChange messageLengthWrong)

/- THE SECOND FORM. 'bulk': how many values and letters a reading holds, each counted each time it is reached (what is shared counts as often as it is met; a slice's spare places count too). A statement '..UptoSaid' is the law's where the arguments, and the package variables that the reading takes, are together of bulk at most 1048576: NARROWER than '..Said'. Prove '..Said' where nothing that the law and all that it calls make is longer than what came in: it says more and counts as full. Else prove '..UptoSaid'. A law counts once. -/
mutual
def uptoBulk {H : Type} : DataW H → Nat
  | .lit (.string bytes) => bytes.length + 1
  | .lit _ => 1
  | .nil => 1
  | .ptr d => uptoBulk d + 1
  | .slice elems spare => uptoBulkAll elems + uptoBulkAll spare + 1
  | .agg parts => uptoBulkAll parts + 1
  | .iface _ d => uptoBulk d + 1
  | .map entries => uptoBulkEntries entries + 1
  | .held _ => 1
def uptoBulkAll {H : Type} : List (DataW H) → Nat
  | [] => 0
  | d :: r => uptoBulk d + uptoBulkAll r
def uptoBulkEntries {H : Type} : List (Lit × DataW H) → Nat
  | [] => 0
  | x :: r => uptoBulkEntry x + uptoBulkEntries r
def uptoBulkEntry {H : Type} : Lit × DataW H → Nat
  | (.string bytes, d) => bytes.length + uptoBulk d + 1
  | (_, d) => uptoBulk d + 1
 end
def uptoSmall : (H : Type) → List (DataW H) → Bool := fun _ ds => decide (uptoBulkAll ds ≤ 1048576)
def OpenSpec.upto (s : _root_.Go.ChangeSpec) : _root_.Go.OpenSpec := { _root_.Go.OpenSpec.ofChange s with cond := some uptoSmall }

/-- 'copydesklaw20.MessageEncodeMatchesReference', WHERE WHAT IT READS IS OF BULK AT MOST 1048576: true; the input reads as it did. -/
def messageEncodeMatchesReferenceUptoRow : OpenClaim := { program := "ytgplckfjbdnedaadoor", sum := "9cc42b2edda4ee4dee3cc420c03267dd3d5e4b57d088b179cfc66e9a3dda6300", func := "copydesk/copydesklaw20.MessageEncodeMatchesReference", spec := "messageEncodeMatchesReference", inPlace := ["internal/reflectlite.ValueOf", "(internal/reflectlite.Value).Type", "(internal/reflectlite.Value).IsNil", "internal/reflectlite.TypeOf", "(internal/reflectlite.Value).Elem", "(internal/reflectlite.Value).Set"], unfollowed := true, recurses := true, named := ["copydesk/wire.shifts", "errors.errorType"], apart := false, laid := [("errors.errorType", laid_errors_errorType), ("copydesk/wire.shifts", laid_copydesk_wire_shifts)], narrowed := true }
def MessageEncodeMatchesReferenceUptoSaid : Prop := messageEncodeMatchesReferenceUptoRow.holds Tryd.pinned (OpenSpec.upto messageEncodeMatchesReferenceSpec)

/-- 'copydesklaw20.MessageDecodeMatchesReference', WHERE WHAT IT READS IS OF BULK AT MOST 1048576: true; the input reads as it did. -/
def messageDecodeMatchesReferenceUptoRow : OpenClaim := { program := "ytgplckfjbdnedaadoor", sum := "9cc42b2edda4ee4dee3cc420c03267dd3d5e4b57d088b179cfc66e9a3dda6300", func := "copydesk/copydesklaw20.MessageDecodeMatchesReference", spec := "messageDecodeMatchesReference", inPlace := ["internal/reflectlite.ValueOf", "(internal/reflectlite.Value).Type", "(internal/reflectlite.Value).IsNil", "internal/reflectlite.TypeOf", "(internal/reflectlite.Value).Elem", "(internal/reflectlite.Value).Set"], unfollowed := true, recurses := true, named := ["copydesk/wire.shifts", "errors.errorType"], apart := false, laid := [("errors.errorType", laid_errors_errorType), ("copydesk/wire.shifts", laid_copydesk_wire_shifts)], narrowed := true }
def MessageDecodeMatchesReferenceUptoSaid : Prop := messageDecodeMatchesReferenceUptoRow.holds Tryd.pinned (OpenSpec.upto messageDecodeMatchesReferenceSpec)

/-- 'copydesklaw20.MessageDecodeSealed', WHERE WHAT IT READS IS OF BULK AT MOST 1048576: true; the input reads as it did. -/
def messageDecodeSealedUptoRow : OpenClaim := { program := "ytgplckfjbdnedaadoor", sum := "9cc42b2edda4ee4dee3cc420c03267dd3d5e4b57d088b179cfc66e9a3dda6300", func := "copydesk/copydesklaw20.MessageDecodeSealed", spec := "messageDecodeSealed", inPlace := ["internal/reflectlite.ValueOf", "(internal/reflectlite.Value).Type", "(internal/reflectlite.Value).IsNil", "internal/reflectlite.TypeOf", "(internal/reflectlite.Value).Elem", "(internal/reflectlite.Value).Set"], unfollowed := true, recurses := true, named := ["copydesk/wire.shifts", "errors.errorType"], apart := false, laid := [("errors.errorType", laid_errors_errorType), ("copydesk/wire.shifts", laid_copydesk_wire_shifts)], narrowed := true }
def MessageDecodeSealedUptoSaid : Prop := messageDecodeSealedUptoRow.holds Tryd.pinned (OpenSpec.upto messageDecodeSealedSpec)

/-- 'copydesklaw20.MessageRoundTrip', WHERE WHAT IT READS IS OF BULK AT MOST 1048576: true; the input reads as it did. -/
def messageRoundTripUptoRow : OpenClaim := { program := "ytgplckfjbdnedaadoor", sum := "9cc42b2edda4ee4dee3cc420c03267dd3d5e4b57d088b179cfc66e9a3dda6300", func := "copydesk/copydesklaw20.MessageRoundTrip", spec := "messageRoundTrip", inPlace := ["internal/reflectlite.ValueOf", "(internal/reflectlite.Value).Type", "(internal/reflectlite.Value).IsNil", "internal/reflectlite.TypeOf", "(internal/reflectlite.Value).Elem", "(internal/reflectlite.Value).Set"], unfollowed := true, recurses := true, named := ["copydesk/wire.shifts", "errors.errorType"], apart := false, laid := [("errors.errorType", laid_errors_errorType), ("copydesk/wire.shifts", laid_copydesk_wire_shifts)], narrowed := true }
def MessageRoundTripUptoSaid : Prop := messageRoundTripUptoRow.holds Tryd.pinned (OpenSpec.upto messageRoundTripSpec)

/-- 'copydesklaw20.MessageDecodedAgain', WHERE WHAT IT READS IS OF BULK AT MOST 1048576: true; the input reads as it did. -/
def messageDecodedAgainUptoRow : OpenClaim := { program := "ytgplckfjbdnedaadoor", sum := "9cc42b2edda4ee4dee3cc420c03267dd3d5e4b57d088b179cfc66e9a3dda6300", func := "copydesk/copydesklaw20.MessageDecodedAgain", spec := "messageDecodedAgain", inPlace := ["internal/reflectlite.ValueOf", "(internal/reflectlite.Value).Type", "(internal/reflectlite.Value).IsNil", "internal/reflectlite.TypeOf", "(internal/reflectlite.Value).Elem", "(internal/reflectlite.Value).Set"], unfollowed := true, recurses := true, named := ["copydesk/wire.shifts", "errors.errorType"], apart := false, laid := [("errors.errorType", laid_errors_errorType), ("copydesk/wire.shifts", laid_copydesk_wire_shifts)], narrowed := true }
def MessageDecodedAgainUptoSaid : Prop := messageDecodedAgainUptoRow.holds Tryd.pinned (OpenSpec.upto messageDecodedAgainSpec)

/-- 'copydesklaw20.MessageChanged', WHERE WHAT IT READS IS OF BULK AT MOST 1048576: true; the input reads as it did. -/
def messageChangedUptoRow : OpenClaim := { program := "ytgplckfjbdnedaadoor", sum := "9cc42b2edda4ee4dee3cc420c03267dd3d5e4b57d088b179cfc66e9a3dda6300", func := "copydesk/copydesklaw20.MessageChanged", spec := "messageChanged", inPlace := ["internal/reflectlite.ValueOf", "(internal/reflectlite.Value).Type", "(internal/reflectlite.Value).IsNil", "internal/reflectlite.TypeOf", "(internal/reflectlite.Value).Elem", "(internal/reflectlite.Value).Set"], unfollowed := true, recurses := true, named := ["copydesk/wire.shifts", "errors.errorType"], apart := false, laid := [("errors.errorType", laid_errors_errorType), ("copydesk/wire.shifts", laid_copydesk_wire_shifts)], narrowed := true }
def MessageChangedUptoSaid : Prop := messageChangedUptoRow.holds Tryd.pinned (OpenSpec.upto messageChangedSpec)

/-- 'copydesklaw20.MessageLength', WHERE WHAT IT READS IS OF BULK AT MOST 1048576: true; the input reads as it did. -/
def messageLengthUptoRow : OpenClaim := { program := "ytgplckfjbdnedaadoor", sum := "9cc42b2edda4ee4dee3cc420c03267dd3d5e4b57d088b179cfc66e9a3dda6300", func := "copydesk/copydesklaw20.MessageLength", spec := "messageLength", inPlace := ["internal/reflectlite.ValueOf", "(internal/reflectlite.Value).Type", "(internal/reflectlite.Value).IsNil", "internal/reflectlite.TypeOf", "(internal/reflectlite.Value).Elem", "(internal/reflectlite.Value).Set"], unfollowed := true, recurses := true, named := ["copydesk/wire.shifts", "errors.errorType"], apart := false, laid := [("errors.errorType", laid_errors_errorType), ("copydesk/wire.shifts", laid_copydesk_wire_shifts)], narrowed := true }
def MessageLengthUptoSaid : Prop := messageLengthUptoRow.holds Tryd.pinned (OpenSpec.upto messageLengthSpec)

end Rows
end Go.Proofs.YtgplckfjbdnedaaDoor
