/- 'BlockPlainPartsCardSaid' is proved: the Go function copydesklaw03.BlockPlainParts returns true at every two lists of blocks, and leaves its arguments as they were; its one condition is the card's own: the variables utf8.acceptRanges and utf8.first hold what the program's text lays (no code that the law reaches reads them). -/
import Derived.Test.YtobhboeiheeghaaDoorParG
namespace Go.Proofs.YtobhboeiheeghaaDoor
open Go Go.Eng Go.RowKit Go.ChangeShapes Go.WideShapes Go.ChangeMaps
set_option maxRecDepth 100000 in
theorem blockPlainParts_lifted (os : Os) (started : os.Started) (H : Type) (enc : TypeId × Value → H) :
    ReturnsInHanded {} Tryd.checked os 15 .any (fun w args => (Rows.blockPlainPartsSpec.pre enc Tryd.prog Tryd.f15 [] false w args ∧ laidMetH Tryd.prog Rows.blockPlainPartsRow.laid w) ∧ sizedMet enc Tryd.prog Tryd.f15 (OpenSpec.ofChange Rows.blockPlainPartsSpec) false w args)
      (Rows.blockPlainPartsSpec.post enc Tryd.prog Tryd.f15 false true false false) := by
  refine law_lift (C := Tryd.checked) (X := fun w => laidMetH Tryd.prog Rows.blockPlainPartsRow.laid w) (tb := 4) own started (by kernel_rfl) Tryd.func15 laid_heap
    (ChangeSpec.witness_at (enc := enc) (C := Tryd.checked) (os := os) (X := fun w _ => laidMetH Tryd.prog Rows.blockPlainPartsRow.laid w) false (laidW os) #[.slice none 0 0, .slice none 0 0] 8 rfl (by kernel_rfl) (by kernel_rfl) (by kernel_rfl) (by kernel_rfl) (by kernel_rfl) (laid_met os _))
    rfl (fun ds h => by rw [Tryd.params15] at h; match ds, h with | [_, _], _ => rfl) (by kernel_rfl) Tryd.underlying4 laidOut (by kernel_rfl) ?_
  intro W base args ds p hval hA hL
  rw [Tryd.params15] at hA hval
  obtain ⟨v0, vs0, d0, ds0, p0, q0, rfl, rfl, rfl, h0, r0⟩ := trodAll_cons hA
  obtain ⟨v1, vs1, d1, ds1, p1, q1, rfl, rfl, rfl, h1, r1⟩ := trodAll_cons r0
  obtain ⟨rfl, rfl, rfl⟩ := trodAll_nil r1
  obtain ⟨l0, y0, c0, rfl, e0⟩ := open_Blks (hval 0 27 v0 rfl rfl) h0
  obtain ⟨l1, y1, c1, rfl, e1⟩ := open_Blks (hval 1 27 v1 rfl rfl) h1
  exact law12 e0 e1
theorem blockPlainParts_closedS (s : String) (h : (progS s).initOrder.toList = initL) : joinedFacts (progS s) 15 Tryd.f15 Rows.blockPlainPartsSpec Rows.blockPlainPartsRow = true := by
  delta joinedFacts
  rewrite [mayEnterS s h, makeS s h, liftsS s h]
  kernel_rfl
theorem blockPlainParts_closed : joinedFacts Tryd.prog 15 Tryd.f15 Rows.blockPlainPartsSpec Rows.blockPlainPartsRow = true := blockPlainParts_closedS Tryd.prog.initOrder charsT
theorem blockPlainParts_row : Rows.BlockPlainPartsSaid :=
  OpenClaim.holds_of_wide 15 Tryd.f15 rfl rfl rfl rfl rfl rfl rfl ⟨rfl, rfl, rfl, rfl, rfl⟩ rfl rfl rfl rfl rfl (by kernel_rfl) Tryd.func15 blockPlainParts_closed
    (of_decide_eq_true (by kernel_rfl)) (by unfold Func.isWrapper; rw [if_neg (of_decide_eq_false (by kernel_rfl))]; exact ⟨rfl, rfl⟩)
    (fun os started H enc _ => blockPlainParts_lifted os started H enc)
theorem blockPlainParts_holds : Rows.BlockPlainPartsCardSaid :=
  Claim7.holds_tied_plain_at .later [] [.data, .pinned] true (true, "74714fd6e1e6c10412f81196d54a8ba3e06529d4b3b8db7c7663c55f3446e11d") false
    blockPlainParts_row (fun _ h => by cases h) (by kernel_rfl) (fun _ h => by cases h) blockPlainParts_row_tie rfl ⟨rfl, rfl⟩ mainT rfl
    (fun f fn hf hfn => by
      obtain rfl : f = 15 := Option.some.inj ((show Tryd.prog.funcNamed "copydesk/copydesklaw03.BlockPlainParts" = some 15 by kernel_rfl).symm.trans hf) |>.symm
      obtain rfl : fn = Tryd.f15 := (Option.some.inj (Tryd.func15.symm.trans hfn)).symm
      refine ⟨by kernel_rfl, fun j t ht => ?_⟩
      have hall : (Tryd.f15.params.toList.all fun t => Tryd.prog.wantsStandIn t == false) = true := by kernel_rfl
      have hm : t ∈ Tryd.f15.params.toList := by
        rw [← Array.getElem?_toList] at ht
        exact List.mem_of_getElem? ht
      exact (by simpa using List.all_eq_true.1 hall t hm : Tryd.prog.wantsStandIn t = false))
    (by kernel_rfl)
#print axioms blockPlainParts_holds
end Go.Proofs.YtobhboeiheeghaaDoor
