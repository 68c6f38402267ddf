/- 'MessageDecodeSealedCardSaid' is proved: the Go function copydesklaw20.MessageDecodeSealed returns true at every text, and leaves its arguments as they were; its one condition is the card's own: the variables wire.shifts and errors.errorType hold what the program's text lays. -/
import Derived.Test.YtgplckfjbdnedaaDoorMsgRowBase
namespace Go.Proofs.YtgplckfjbdnedaaDoor
open Go Go.Eng Go.RowKit Go.ChangeShapes Go.WideShapes Go.ChangeMaps

set_option maxRecDepth 100000 in
theorem messageDecodeSealed_lifted (os : Os) (started : os.Started) (H : Type) (enc : TypeId × Value → H) :
    ReturnsInHanded {} Tryd.checked os 5 .any (fun w args => (Rows.messageDecodeSealedSpec.pre enc Tryd.prog Tryd.f5 [] false w args ∧ laidMetH Tryd.prog Rows.messageDecodeSealedRow.laid w) ∧ sizedMet enc Tryd.prog Tryd.f5 (OpenSpec.ofChange Rows.messageDecodeSealedSpec) false w args)
      (Rows.messageDecodeSealedSpec.post enc Tryd.prog Tryd.f5 false true false false) := by
  refine law_lift (C := Tryd.checked) (X := fun w => laidMetH Tryd.prog Rows.messageDecodeSealedRow.laid w) (tb := 4) own started (by kernel_rfl) Tryd.func5 laid_heap
    (ChangeSpec.witness_at (enc := enc) (C := Tryd.checked) (os := os) (X := fun w _ => laidMetH Tryd.prog Rows.messageDecodeSealedRow.laid w) false (laidW os) #[.string ⟨#[]⟩] 8 rfl (by kernel_rfl) (by kernel_rfl) (by kernel_rfl) (by kernel_rfl) (by kernel_rfl) (laid_met os _))
    rfl (fun ds h => by rw [Tryd.params5] at h; match ds, h with | [_], _ => rfl) (by kernel_rfl) Tryd.underlying4 laidOut (by kernel_rfl) ?_
  intro W base args ds p hval hA hL
  rw [Tryd.params5] at hA hval
  obtain ⟨v0, vs0, d0, ds0, p0, q0, rfl, rfl, rfl, h0, r0⟩ := trodAll_cons hA
  obtain ⟨rfl, rfl, rfl⟩ := trodAll_nil r0
  obtain ⟨a0, rfl, _, _, w0⟩ := open_string Tryd.underlying9 (hval 0 9 v0 rfl rfl) h0
  exact LSealed_c a0 W (msg_of_laid hL)

theorem messageDecodeSealed_row : Rows.MessageDecodeSealedSaid :=
  OpenClaim.holds_of_wide 5 Tryd.f5 rfl rfl rfl rfl rfl rfl rfl ⟨rfl, rfl, rfl, rfl, rfl⟩ rfl rfl rfl rfl rfl (by kernel_rfl) Tryd.func5 (by kernel_rfl)
    (of_decide_eq_true (by kernel_rfl)) (by unfold Func.isWrapper; rw [if_neg (of_decide_eq_false (by kernel_rfl))]; exact ⟨rfl, rfl⟩)
    (fun os started H enc _ => messageDecodeSealed_lifted os started H enc)

theorem messageDecodeSealed_holds : Rows.MessageDecodeSealedCardSaid :=
  Claim7.holds_tied_plain_at .later [] [.handle, .data] true (true, "c636e55c424708c525e506a43fecfe15433409ba21f118bf30d4597e4b835174") true
    messageDecodeSealed_row (fun _ h => by cases h) (by kernel_rfl) (fun _ h => by cases h) messageDecodeSealed_row_tie rfl ⟨rfl, rfl⟩ (by kernel_rfl) rfl
    (fun f fn hf hfn => by
      obtain rfl : f = 5 := Option.some.inj ((show Tryd.prog.funcNamed "copydesk/copydesklaw20.MessageDecodeSealed" = some 5 by kernel_rfl).symm.trans hf) |>.symm
      obtain rfl : fn = Tryd.f5 := (Option.some.inj (Tryd.func5.symm.trans hfn)).symm
      refine ⟨by kernel_rfl, fun j t ht => ?_⟩
      have hall : (Tryd.f5.params.toList.all fun t => Tryd.prog.wantsStandIn t == false) = true := by kernel_rfl
      have hm : t ∈ Tryd.f5.params.toList := by
        rw [← Array.getElem?_toList] at ht
        exact List.mem_of_getElem? ht
      exact (by simpa using List.all_eq_true.1 hall t hm : Tryd.prog.wantsStandIn t = false))
    (by kernel_rfl)
#print axioms messageDecodeSealed_holds
end Go.Proofs.YtgplckfjbdnedaaDoor
