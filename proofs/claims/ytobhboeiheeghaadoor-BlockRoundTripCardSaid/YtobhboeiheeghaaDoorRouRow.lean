/- 'BlockRoundTripCardSaid' is proved: the Go function copydesklaw03.BlockRoundTrip returns true at every two lists of blocks, and leaves its arguments as they were; its one condition is the card's own: the variables utf8.acceptRanges and utf8.first hold what the program's text lays (no code that the law reaches reads them). -/
import Derived.Test.YtobhboeiheeghaaDoorRouG
namespace Go.Proofs.YtobhboeiheeghaaDoor
open Go Go.Eng Go.RowKit Go.ChangeShapes Go.WideShapes Go.ChangeMaps
set_option maxRecDepth 100000 in
theorem blockRoundTrip_lifted (os : Os) (started : os.Started) (H : Type) (enc : TypeId × Value → H) :
    ReturnsInHanded {} Tryd.checked os 9 .any (fun w args => (Rows.blockRoundTripSpec.pre enc Tryd.prog Tryd.f9 [] false w args ∧ laidMetH Tryd.prog Rows.blockRoundTripRow.laid w) ∧ sizedMet enc Tryd.prog Tryd.f9 (OpenSpec.ofChange Rows.blockRoundTripSpec) false w args)
      (Rows.blockRoundTripSpec.post enc Tryd.prog Tryd.f9 false true false false) := by
  refine law_lift (C := Tryd.checked) (X := fun w => laidMetH Tryd.prog Rows.blockRoundTripRow.laid w) (tb := 4) own started (by kernel_rfl) Tryd.func9 laid_heap
    (ChangeSpec.witness_at (enc := enc) (C := Tryd.checked) (os := os) (X := fun w _ => laidMetH Tryd.prog Rows.blockRoundTripRow.laid w) false (laidW os) #[.slice none 0 0, .slice none 0 0] 8 rfl (by kernel_rfl) (by kernel_rfl) (by kernel_rfl) (by kernel_rfl) (by kernel_rfl) (laid_met os _))
    rfl (fun ds h => by rw [Tryd.params9] at h; match ds, h with | [_, _], _ => rfl) (by kernel_rfl) Tryd.underlying4 laidOut (by kernel_rfl) ?_
  intro W base args ds p hval hA hL
  rw [Tryd.params9] at hA hval
  obtain ⟨v0, vs0, d0, ds0, p0, q0, rfl, rfl, rfl, h0, r0⟩ := trodAll_cons hA
  obtain ⟨v1, vs1, d1, ds1, p1, q1, rfl, rfl, rfl, h1, r1⟩ := trodAll_cons r0
  obtain ⟨rfl, rfl, rfl⟩ := trodAll_nil r1
  obtain ⟨l0, y0, c0, rfl, e0⟩ := open_Blks (hval 0 27 v0 rfl rfl) h0
  obtain ⟨l1, y1, c1, rfl, e1⟩ := open_Blks (hval 1 27 v1 rfl rfl) h1
  exact law6 e0 e1
theorem blockRoundTrip_closedS (s : String) (h : (progS s).initOrder.toList = initL) : joinedFacts (progS s) 9 Tryd.f9 Rows.blockRoundTripSpec Rows.blockRoundTripRow = true := by
  delta joinedFacts
  rewrite [mayEnterS s h, makeS s h, liftsS s h]
  kernel_rfl
theorem blockRoundTrip_closed : joinedFacts Tryd.prog 9 Tryd.f9 Rows.blockRoundTripSpec Rows.blockRoundTripRow = true := blockRoundTrip_closedS Tryd.prog.initOrder charsT
theorem blockRoundTrip_row : Rows.BlockRoundTripSaid :=
  OpenClaim.holds_of_wide 9 Tryd.f9 rfl rfl rfl rfl rfl rfl rfl ⟨rfl, rfl, rfl, rfl, rfl⟩ rfl rfl rfl rfl rfl (by kernel_rfl) Tryd.func9 blockRoundTrip_closed
    (of_decide_eq_true (by kernel_rfl)) (by unfold Func.isWrapper; rw [if_neg (of_decide_eq_false (by kernel_rfl))]; exact ⟨rfl, rfl⟩)
    (fun os started H enc _ => blockRoundTrip_lifted os started H enc)
theorem blockRoundTrip_holds : Rows.BlockRoundTripCardSaid :=
  Claim7.holds_tied_plain_at .later [] [.data, .pinned] true (true, "74714fd6e1e6c10412f81196d54a8ba3e06529d4b3b8db7c7663c55f3446e11d") false
    blockRoundTrip_row (fun _ h => by cases h) (by kernel_rfl) (fun _ h => by cases h) blockRoundTrip_row_tie rfl ⟨rfl, rfl⟩ mainT rfl
    (fun f fn hf hfn => by
      obtain rfl : f = 9 := Option.some.inj ((show Tryd.prog.funcNamed "copydesk/copydesklaw03.BlockRoundTrip" = some 9 by kernel_rfl).symm.trans hf) |>.symm
      obtain rfl : fn = Tryd.f9 := (Option.some.inj (Tryd.func9.symm.trans hfn)).symm
      refine ⟨by kernel_rfl, fun j t ht => ?_⟩
      have hall : (Tryd.f9.params.toList.all fun t => Tryd.prog.wantsStandIn t == false) = true := by kernel_rfl
      have hm : t ∈ Tryd.f9.params.toList := by
        rw [← Array.getElem?_toList] at ht
        exact List.mem_of_getElem? ht
      exact (by simpa using List.all_eq_true.1 hall t hm : Tryd.prog.wantsStandIn t = false))
    (by kernel_rfl)
#print axioms blockRoundTrip_holds
end Go.Proofs.YtobhboeiheeghaaDoor
