/- 'BlockPlainMatchesReferenceCardSaid' is proved: the Go function copydesklaw03.BlockPlainMatchesReference returns true at every list of blocks, and leaves its arguments as they were; its one condition is the card's own: the variables utf8.acceptRanges and utf8.first hold what the program's text lays (no code that the law reaches reads them). -/
import Derived.Test.YtobhboeiheeghaaDoorPlaH
namespace Go.Proofs.YtobhboeiheeghaaDoor
open Go Go.Eng Go.RowKit Go.ChangeShapes Go.WideShapes Go.ChangeMaps
set_option maxRecDepth 100000 in
theorem blockPlainMatchesReference_lifted (os : Os) (started : os.Started) (H : Type) (enc : TypeId × Value → H) :
    ReturnsInHanded {} Tryd.checked os 8 .any (fun w args => (Rows.blockPlainMatchesReferenceSpec.pre enc Tryd.prog Tryd.f8 [] false w args ∧ laidMetH Tryd.prog Rows.blockPlainMatchesReferenceRow.laid w) ∧ sizedMet enc Tryd.prog Tryd.f8 (OpenSpec.ofChange Rows.blockPlainMatchesReferenceSpec) false w args)
      (Rows.blockPlainMatchesReferenceSpec.post enc Tryd.prog Tryd.f8 false true false false) := by
  refine law_lift (C := Tryd.checked) (X := fun w => laidMetH Tryd.prog Rows.blockPlainMatchesReferenceRow.laid w) (tb := 4) own started (by kernel_rfl) Tryd.func8 laid_heap
    (ChangeSpec.witness_at (enc := enc) (C := Tryd.checked) (os := os) (X := fun w _ => laidMetH Tryd.prog Rows.blockPlainMatchesReferenceRow.laid w) false (laidW os) #[.slice none 0 0] 8 rfl (by kernel_rfl) (by kernel_rfl) (by kernel_rfl) (by kernel_rfl) (by kernel_rfl) (laid_met os _))
    rfl (fun ds h => by rw [Tryd.params8] at h; match ds, h with | [_], _ => rfl) (by kernel_rfl) Tryd.underlying4 laidOut (by kernel_rfl) ?_
  intro W base args ds p hval hA hL
  rw [Tryd.params8] at hA hval
  obtain ⟨v0, vs0, d0, ds0, p0, q0, rfl, rfl, rfl, h0, r0⟩ := trodAll_cons hA
  obtain ⟨rfl, rfl, rfl⟩ := trodAll_nil r0
  obtain ⟨l0, y0, c0, rfl, e0⟩ := open_Blks (hval 0 27 v0 rfl rfl) h0
  exact law5 e0
theorem blockPlainMatchesReference_closedS (s : String) (h : (progS s).initOrder.toList = initL) : joinedFacts (progS s) 8 Tryd.f8 Rows.blockPlainMatchesReferenceSpec Rows.blockPlainMatchesReferenceRow = true := by
  delta joinedFacts
  rewrite [mayEnterS s h, makeS s h, liftsS s h]
  kernel_rfl
theorem blockPlainMatchesReference_closed : joinedFacts Tryd.prog 8 Tryd.f8 Rows.blockPlainMatchesReferenceSpec Rows.blockPlainMatchesReferenceRow = true := blockPlainMatchesReference_closedS Tryd.prog.initOrder charsT
theorem blockPlainMatchesReference_row : Rows.BlockPlainMatchesReferenceSaid :=
  OpenClaim.holds_of_wide 8 Tryd.f8 rfl rfl rfl rfl rfl rfl rfl ⟨rfl, rfl, rfl, rfl, rfl⟩ rfl rfl rfl rfl rfl (by kernel_rfl) Tryd.func8 blockPlainMatchesReference_closed
    (of_decide_eq_true (by kernel_rfl)) (by unfold Func.isWrapper; rw [if_neg (of_decide_eq_false (by kernel_rfl))]; exact ⟨rfl, rfl⟩)
    (fun os started H enc _ => blockPlainMatchesReference_lifted os started H enc)
theorem blockPlainMatchesReference_holds : Rows.BlockPlainMatchesReferenceCardSaid :=
  Claim7.holds_tied_plain_at .later [] [.data, .pinned] true (true, "74714fd6e1e6c10412f81196d54a8ba3e06529d4b3b8db7c7663c55f3446e11d") false
    blockPlainMatchesReference_row (fun _ h => by cases h) (by kernel_rfl) (fun _ h => by cases h) blockPlainMatchesReference_row_tie rfl ⟨rfl, rfl⟩ mainT rfl
    (fun f fn hf hfn => by
      obtain rfl : f = 8 := Option.some.inj ((show Tryd.prog.funcNamed "copydesk/copydesklaw03.BlockPlainMatchesReference" = some 8 by kernel_rfl).symm.trans hf) |>.symm
      obtain rfl : fn = Tryd.f8 := (Option.some.inj (Tryd.func8.symm.trans hfn)).symm
      refine ⟨by kernel_rfl, fun j t ht => ?_⟩
      have hall : (Tryd.f8.params.toList.all fun t => Tryd.prog.wantsStandIn t == false) = true := by kernel_rfl
      have hm : t ∈ Tryd.f8.params.toList := by
        rw [← Array.getElem?_toList] at ht
        exact List.mem_of_getElem? ht
      exact (by simpa using List.all_eq_true.1 hall t hm : Tryd.prog.wantsStandIn t = false))
    (by kernel_rfl)
#print axioms blockPlainMatchesReference_holds
end Go.Proofs.YtobhboeiheeghaaDoor
