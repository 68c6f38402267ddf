/- 'FactUniqueCardSaid' is proved: the Go function copydesklaw05.FactUnique returns true at every text, and leaves its arguments as they were; its one condition is the card's own: the variables utf8.acceptRanges and utf8.first hold what the program's text lays (no code that the law reaches reads them). -/
import Derived.Test.YtombejccmojjbaaGreatDoorUniI
namespace Go.Proofs.YtombejccmojjbaaGreatDoor
open Go Go.Eng Go.RowKit Go.ChangeShapes Go.WideShapes Go.ChangeMaps
set_option maxRecDepth 100000 in
theorem factUnique_lifted (os : Os) (started : os.Started) (H : Type) (enc : TypeId × Value → H) :
    ReturnsInHanded {} Tryz.checked os 4 .any (fun w args => (Rows.factUniqueSpec.pre enc Tryz.prog Tryz.f4 [] false w args ∧ laidMetH Tryz.prog Rows.factUniqueRow.laid w) ∧ sizedMet enc Tryz.prog Tryz.f4 (OpenSpec.ofChange Rows.factUniqueSpec) false w args)
      (Rows.factUniqueSpec.post enc Tryz.prog Tryz.f4 false true false false) := by
  refine law_lift (C := Tryz.checked) (X := fun w => laidMetH Tryz.prog Rows.factUniqueRow.laid w) (tb := 4) own started (by kernel_rfl) Tryz.func4 laid_heap
    (ChangeSpec.witness_at (enc := enc) (C := Tryz.checked) (os := os) (X := fun w _ => laidMetH Tryz.prog Rows.factUniqueRow.laid w) false (laidW os) #[.string ⟨#[]⟩] 8 rfl (by kernel_rfl) (by kernel_rfl) (by kernel_rfl) (by kernel_rfl) (by kernel_rfl) (laid_met os _))
    rfl (fun ds h => by rw [Tryz.params4] at h; match ds, h with | [_], _ => rfl) (by kernel_rfl) Tryz.underlying4 laidOut (by kernel_rfl) ?_
  intro W base args ds p hval hA hL
  rw [Tryz.params4] at hA hval
  obtain ⟨v0, vs0, d0, ds0, p0, q0, rfl, rfl, rfl, h0, r0⟩ := trodAll_cons hA
  obtain ⟨rfl, rfl, rfl⟩ := trodAll_nil r0
  obtain ⟨a0, rfl, _, _, w0⟩ := open_string Tryz.underlying9 (hval 0 9 v0 rfl rfl) h0
  exact fact1
theorem factUnique_closedS (s : String) (h : (progS s).initOrder.toList = initL) : joinedFacts (progS s) 4 Tryz.f4 Rows.factUniqueSpec Rows.factUniqueRow = true := by
  delta joinedFacts
  rewrite [mayEnterS s h, makeS s h, liftsS s h]
  kernel_rfl
theorem factUnique_closed : joinedFacts Tryz.prog 4 Tryz.f4 Rows.factUniqueSpec Rows.factUniqueRow = true := factUnique_closedS Tryz.prog.initOrder charsT
theorem factUnique_row : Rows.FactUniqueSaid :=
  OpenClaim.holds_of_wide 4 Tryz.f4 rfl rfl rfl rfl rfl rfl rfl ⟨rfl, rfl, rfl, rfl, rfl⟩ rfl rfl rfl rfl rfl (by kernel_rfl) Tryz.func4 factUnique_closed
    (of_decide_eq_true (by kernel_rfl)) (by unfold Func.isWrapper; rw [if_neg (of_decide_eq_false (by kernel_rfl))]; exact ⟨rfl, rfl⟩)
    (fun os started H enc _ => factUnique_lifted os started H enc)
theorem factUnique_holds : Rows.FactUniqueCardSaid :=
  Claim7.holds_tied_plain_at .later [] [.data, .pinned] true (true, "66d07afbd6a178fb91df158d40a7eebe6ed359c03af3053908f3321b825466ce") true
    factUnique_row (fun _ h => by cases h) (by kernel_rfl) (fun _ h => by cases h) factUnique_row_tie rfl ⟨rfl, rfl⟩ mainT rfl
    (fun f fn hf hfn => by
      obtain rfl : f = 4 := Option.some.inj ((show Tryz.prog.funcNamed "copydesk/copydesklaw05.FactUnique" = some 4 by kernel_rfl).symm.trans hf) |>.symm
      obtain rfl : fn = Tryz.f4 := (Option.some.inj (Tryz.func4.symm.trans hfn)).symm
      refine ⟨by kernel_rfl, fun j t ht => ?_⟩
      have hall : (Tryz.f4.params.toList.all fun t => Tryz.prog.wantsStandIn t == false) = true := by kernel_rfl
      have hm : t ∈ Tryz.f4.params.toList := by
        rw [← Array.getElem?_toList] at ht
        exact List.mem_of_getElem? ht
      exact (by simpa using List.all_eq_true.1 hall t hm : Tryz.prog.wantsStandIn t = false))
    (by kernel_rfl)
#print axioms factUnique_holds
end Go.Proofs.YtombejccmojjbaaGreatDoor
