/- 'BlockSentencesBuiltCardSaid' is proved: the Go function copydesklaw03.BlockSentencesBuilt returns true at every list of numbers, number and choice, and leaves its arguments as they were; its one condition is the card's own: the variables utf8.acceptRanges and utf8.first hold what the program's text lays (no code that the law reaches reads them). -/
import Derived.Test.YtobhboeiheeghaaDoorBuiG
namespace Go.Proofs.YtobhboeiheeghaaDoor
open Go Go.Eng Go.RowKit Go.ChangeShapes Go.WideShapes Go.ChangeMaps
set_option maxRecDepth 100000 in
theorem blockSentencesBuilt_lifted (os : Os) (started : os.Started) (H : Type) (enc : TypeId × Value → H) :
    ReturnsInHanded {} Tryd.checked os 14 .any (fun w args => (Rows.blockSentencesBuiltSpec.pre enc Tryd.prog Tryd.f14 [] false w args ∧ laidMetH Tryd.prog Rows.blockSentencesBuiltRow.laid w) ∧ sizedMet enc Tryd.prog Tryd.f14 (OpenSpec.ofChange Rows.blockSentencesBuiltSpec) false w args)
      (Rows.blockSentencesBuiltSpec.post enc Tryd.prog Tryd.f14 false true false false) := by
  refine law_lift (C := Tryd.checked) (X := fun w => laidMetH Tryd.prog Rows.blockSentencesBuiltRow.laid w) (tb := 4) own started (by kernel_rfl) Tryd.func14 laid_heap
    (ChangeSpec.witness_at (enc := enc) (C := Tryd.checked) (os := os) (X := fun w _ => laidMetH Tryd.prog Rows.blockSentencesBuiltRow.laid w) false (laidW os) #[.slice none 0 0, .int .i64 0, .bool false] 8 rfl (by kernel_rfl) (by kernel_rfl) (by kernel_rfl) (by kernel_rfl) (by kernel_rfl) (laid_met os _))
    rfl (fun ds h => by rw [Tryd.params14] at h; match ds, h with | [_, _, _], _ => rfl) (by kernel_rfl) Tryd.underlying4 laidOut (by kernel_rfl) ?_
  intro W base args ds p hval hA hL
  rw [Tryd.params14] at hA hval
  obtain ⟨v0, vs0, d0, ds0, p0, q0, rfl, rfl, rfl, h0, r0⟩ := trodAll_cons hA
  obtain ⟨v1, vs1, d1, ds1, p1, q1, rfl, rfl, rfl, h1, r1⟩ := trodAll_cons r0
  obtain ⟨v2, vs2, d2, ds2, p2, q2, rfl, rfl, rfl, h2, r2⟩ := trodAll_cons r1
  obtain ⟨rfl, rfl, rfl⟩ := trodAll_nil r2
  obtain ⟨l0, y0, c0, rfl, e0, w0, n0⟩ := open_Ints (hval 0 22 v0 rfl rfl) h0
  obtain ⟨a1, rfl, _, _, w1⟩ := open_int Tryd.underlying3 (hval 1 3 v1 rfl rfl) h1
  obtain ⟨a2, rfl, _, _⟩ := open_bool Tryd.underlying4 (hval 2 4 v2 rfl rfl) h2
  exact law11 e0 (fun n hn => bounds_i64 (w0 n hn)) n0 (bounds_i64 w1)
theorem blockSentencesBuilt_closedS (s : String) (h : (progS s).initOrder.toList = initL) : joinedFacts (progS s) 14 Tryd.f14 Rows.blockSentencesBuiltSpec Rows.blockSentencesBuiltRow = true := by
  delta joinedFacts
  rewrite [mayEnterS s h, makeS s h, liftsS s h]
  kernel_rfl
theorem blockSentencesBuilt_closed : joinedFacts Tryd.prog 14 Tryd.f14 Rows.blockSentencesBuiltSpec Rows.blockSentencesBuiltRow = true := blockSentencesBuilt_closedS Tryd.prog.initOrder charsT
theorem blockSentencesBuilt_row : Rows.BlockSentencesBuiltSaid :=
  OpenClaim.holds_of_wide 14 Tryd.f14 rfl rfl rfl rfl rfl rfl rfl ⟨rfl, rfl, rfl, rfl, rfl⟩ rfl rfl rfl rfl rfl (by kernel_rfl) Tryd.func14 blockSentencesBuilt_closed
    (of_decide_eq_true (by kernel_rfl)) (by unfold Func.isWrapper; rw [if_neg (of_decide_eq_false (by kernel_rfl))]; exact ⟨rfl, rfl⟩)
    (fun os started H enc _ => blockSentencesBuilt_lifted os started H enc)
theorem blockSentencesBuilt_holds : Rows.BlockSentencesBuiltCardSaid :=
  Claim7.holds_tied_plain_at .later [] [.data, .pinned] true (true, "74714fd6e1e6c10412f81196d54a8ba3e06529d4b3b8db7c7663c55f3446e11d") false
    blockSentencesBuilt_row (fun _ h => by cases h) (by kernel_rfl) (fun _ h => by cases h) blockSentencesBuilt_row_tie rfl ⟨rfl, rfl⟩ mainT rfl
    (fun f fn hf hfn => by
      obtain rfl : f = 14 := Option.some.inj ((show Tryd.prog.funcNamed "copydesk/copydesklaw03.BlockSentencesBuilt" = some 14 by kernel_rfl).symm.trans hf) |>.symm
      obtain rfl : fn = Tryd.f14 := (Option.some.inj (Tryd.func14.symm.trans hfn)).symm
      refine ⟨by kernel_rfl, fun j t ht => ?_⟩
      have hall : (Tryd.f14.params.toList.all fun t => Tryd.prog.wantsStandIn t == false) = true := by kernel_rfl
      have hm : t ∈ Tryd.f14.params.toList := by
        rw [← Array.getElem?_toList] at ht
        exact List.mem_of_getElem? ht
      exact (by simpa using List.all_eq_true.1 hall t hm : Tryd.prog.wantsStandIn t = false))
    (by kernel_rfl)
#print axioms blockSentencesBuilt_holds
end Go.Proofs.YtobhboeiheeghaaDoor
