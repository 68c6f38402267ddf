/- 'BlockSentencesJoinedCardSaid' is proved: the Go function copydesklaw03.BlockSentencesJoined returns true at every text, and leaves its arguments as they were; its one condition is the card's own: the variables utf8.acceptRanges and utf8.first hold what the program's text lays (no code that the law reaches reads them). -/
import Derived.Test.YtobhboeiheeghaaDoorJoiG
namespace Go.Proofs.YtobhboeiheeghaaDoor
open Go Go.Eng Go.RowKit Go.ChangeShapes Go.WideShapes Go.ChangeMaps
set_option maxRecDepth 100000 in
theorem blockSentencesJoined_lifted (os : Os) (started : os.Started) (H : Type) (enc : TypeId × Value → H) :
    ReturnsInHanded {} Tryd.checked os 13 .any (fun w args => (Rows.blockSentencesJoinedSpec.pre enc Tryd.prog Tryd.f13 [] false w args ∧ laidMetH Tryd.prog Rows.blockSentencesJoinedRow.laid w) ∧ sizedMet enc Tryd.prog Tryd.f13 (OpenSpec.ofChange Rows.blockSentencesJoinedSpec) false w args)
      (Rows.blockSentencesJoinedSpec.post enc Tryd.prog Tryd.f13 false true false false) := by
  refine law_lift (C := Tryd.checked) (X := fun w => laidMetH Tryd.prog Rows.blockSentencesJoinedRow.laid w) (tb := 4) own started (by kernel_rfl) Tryd.func13 laid_heap
    (ChangeSpec.witness_at (enc := enc) (C := Tryd.checked) (os := os) (X := fun w _ => laidMetH Tryd.prog Rows.blockSentencesJoinedRow.laid w) false (laidW os) #[.string ⟨#[]⟩] 8 rfl (by kernel_rfl) (by kernel_rfl) (by kernel_rfl) (by kernel_rfl) (by kernel_rfl) (laid_met os _))
    rfl (fun ds h => by rw [Tryd.params13] at h; match ds, h with | [_], _ => rfl) (by kernel_rfl) Tryd.underlying4 laidOut (by kernel_rfl) ?_
  intro W base args ds p hval hA hL
  rw [Tryd.params13] at hA hval
  obtain ⟨v0, vs0, d0, ds0, p0, q0, rfl, rfl, rfl, h0, r0⟩ := trodAll_cons hA
  obtain ⟨rfl, rfl, rfl⟩ := trodAll_nil r0
  obtain ⟨a0, rfl, _, _, w0⟩ := open_string Tryd.underlying9 (hval 0 9 v0 rfl rfl) h0
  exact law10
theorem blockSentencesJoined_closedS (s : String) (h : (progS s).initOrder.toList = initL) : joinedFacts (progS s) 13 Tryd.f13 Rows.blockSentencesJoinedSpec Rows.blockSentencesJoinedRow = true := by
  delta joinedFacts
  rewrite [mayEnterS s h, makeS s h, liftsS s h]
  kernel_rfl
theorem blockSentencesJoined_closed : joinedFacts Tryd.prog 13 Tryd.f13 Rows.blockSentencesJoinedSpec Rows.blockSentencesJoinedRow = true := blockSentencesJoined_closedS Tryd.prog.initOrder charsT
theorem blockSentencesJoined_row : Rows.BlockSentencesJoinedSaid :=
  OpenClaim.holds_of_wide 13 Tryd.f13 rfl rfl rfl rfl rfl rfl rfl ⟨rfl, rfl, rfl, rfl, rfl⟩ rfl rfl rfl rfl rfl (by kernel_rfl) Tryd.func13 blockSentencesJoined_closed
    (of_decide_eq_true (by kernel_rfl)) (by unfold Func.isWrapper; rw [if_neg (of_decide_eq_false (by kernel_rfl))]; exact ⟨rfl, rfl⟩)
    (fun os started H enc _ => blockSentencesJoined_lifted os started H enc)
theorem blockSentencesJoined_holds : Rows.BlockSentencesJoinedCardSaid :=
  Claim7.holds_tied_plain_at .later [] [.data, .pinned] true (true, "74714fd6e1e6c10412f81196d54a8ba3e06529d4b3b8db7c7663c55f3446e11d") false
    blockSentencesJoined_row (fun _ h => by cases h) (by kernel_rfl) (fun _ h => by cases h) blockSentencesJoined_row_tie rfl ⟨rfl, rfl⟩ mainT rfl
    (fun f fn hf hfn => by
      obtain rfl : f = 13 := Option.some.inj ((show Tryd.prog.funcNamed "copydesk/copydesklaw03.BlockSentencesJoined" = some 13 by kernel_rfl).symm.trans hf) |>.symm
      obtain rfl : fn = Tryd.f13 := (Option.some.inj (Tryd.func13.symm.trans hfn)).symm
      refine ⟨by kernel_rfl, fun j t ht => ?_⟩
      have hall : (Tryd.f13.params.toList.all fun t => Tryd.prog.wantsStandIn t == false) = true := by kernel_rfl
      have hm : t ∈ Tryd.f13.params.toList := by
        rw [← Array.getElem?_toList] at ht
        exact List.mem_of_getElem? ht
      exact (by simpa using List.all_eq_true.1 hall t hm : Tryd.prog.wantsStandIn t = false))
    (by kernel_rfl)
#print axioms blockSentencesJoined_holds
end Go.Proofs.YtobhboeiheeghaaDoor
