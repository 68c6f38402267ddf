/- 'FactListsCardSaid' is proved: the Go function copydesklaw05.FactLists returns true at every two lists of facts, and leaves its arguments as they were; its one condition is the card's own: the variables utf8.acceptRanges and utf8.first hold what the program's text lays (no code that the law reaches reads them). -/
import Derived.Test.YtombejccmojjbaaGreatDoorLisJ
namespace Go.Proofs.YtombejccmojjbaaGreatDoor
open Go Go.Eng Go.RowKit Go.ChangeShapes Go.WideShapes Go.ChangeMaps
set_option maxRecDepth 100000 in
theorem factLists_lifted (os : Os) (started : os.Started) (H : Type) (enc : TypeId × Value → H) :
    ReturnsInHanded {} Tryz.checked os 9 .any (fun w args => (Rows.factListsSpec.pre enc Tryz.prog Tryz.f9 [] false w args ∧ laidMetH Tryz.prog Rows.factListsRow.laid w) ∧ sizedMet enc Tryz.prog Tryz.f9 (OpenSpec.ofChange Rows.factListsSpec) false w args)
      (Rows.factListsSpec.post enc Tryz.prog Tryz.f9 false true false false) := by
  refine law_lift (C := Tryz.checked) (X := fun w => laidMetH Tryz.prog Rows.factListsRow.laid w) (tb := 4) own started (by kernel_rfl) Tryz.func9 laid_heap
    (ChangeSpec.witness_at (enc := enc) (C := Tryz.checked) (os := os) (X := fun w _ => laidMetH Tryz.prog Rows.factListsRow.laid w) false (laidW os) #[.slice none 0 0, .slice none 0 0, .bool false] 8 rfl (by kernel_rfl) (by kernel_rfl) (by kernel_rfl) (by kernel_rfl) (by kernel_rfl) (laid_met os _))
    rfl (fun ds h => by rw [Tryz.params9] at h; match ds, h with | [_, _, _], _ => rfl) (by kernel_rfl) Tryz.underlying4 laidOut (by kernel_rfl) ?_
  intro W base args ds p hval hA hL
  rw [Tryz.params9] at hA hval
  obtain ⟨v0, vs0, d0, ds0, p0, q0, rfl, rfl, rfl, h0, r0⟩ := trodAll_cons hA
  obtain ⟨v1, vs1, d1, ds1, p1, q1, rfl, rfl, rfl, h1, r1⟩ := trodAll_cons r0
  obtain ⟨v2, vs2, d2, ds2, p2, q2, rfl, rfl, rfl, h2, r2⟩ := trodAll_cons r1
  obtain ⟨rfl, rfl, rfl⟩ := trodAll_nil r2
  obtain ⟨l0, y0, c0, rfl, e0⟩ := open_Fcts (hval 0 45 v0 rfl rfl) h0
  obtain ⟨l1, y1, c1, rfl, e1⟩ := open_Fcts (hval 1 45 v1 rfl rfl) h1
  obtain ⟨a2, rfl, _, _⟩ := open_bool Tryz.underlying4 (hval 2 4 v2 rfl rfl) h2
  exact fact6 e0 e1
theorem factLists_closedS (s : String) (h : (progS s).initOrder.toList = initL) : joinedFacts (progS s) 9 Tryz.f9 Rows.factListsSpec Rows.factListsRow = true := by
  delta joinedFacts
  rewrite [mayEnterS s h, makeS s h, liftsS s h]
  kernel_rfl
theorem factLists_closed : joinedFacts Tryz.prog 9 Tryz.f9 Rows.factListsSpec Rows.factListsRow = true := factLists_closedS Tryz.prog.initOrder charsT
theorem factLists_row : Rows.FactListsSaid :=
  OpenClaim.holds_of_wide 9 Tryz.f9 rfl rfl rfl rfl rfl rfl rfl ⟨rfl, rfl, rfl, rfl, rfl⟩ rfl rfl rfl rfl rfl (by kernel_rfl) Tryz.func9 factLists_closed
    (of_decide_eq_true (by kernel_rfl)) (by unfold Func.isWrapper; rw [if_neg (of_decide_eq_false (by kernel_rfl))]; exact ⟨rfl, rfl⟩)
    (fun os started H enc _ => factLists_lifted os started H enc)
theorem factLists_holds : Rows.FactListsCardSaid :=
  Claim7.holds_tied_plain_at .later [] [.data, .pinned] true (true, "66d07afbd6a178fb91df158d40a7eebe6ed359c03af3053908f3321b825466ce") true
    factLists_row (fun _ h => by cases h) (by kernel_rfl) (fun _ h => by cases h) factLists_row_tie rfl ⟨rfl, rfl⟩ mainT rfl
    (fun f fn hf hfn => by
      obtain rfl : f = 9 := Option.some.inj ((show Tryz.prog.funcNamed "copydesk/copydesklaw05.FactLists" = some 9 by kernel_rfl).symm.trans hf) |>.symm
      obtain rfl : fn = Tryz.f9 := (Option.some.inj (Tryz.func9.symm.trans hfn)).symm
      refine ⟨by kernel_rfl, fun j t ht => ?_⟩
      have hall : (Tryz.f9.params.toList.all fun t => Tryz.prog.wantsStandIn t == false) = true := by kernel_rfl
      have hm : t ∈ Tryz.f9.params.toList := by
        rw [← Array.getElem?_toList] at ht
        exact List.mem_of_getElem? ht
      exact (by simpa using List.all_eq_true.1 hall t hm : Tryz.prog.wantsStandIn t = false))
    (by kernel_rfl)
#print axioms factLists_holds
end Go.Proofs.YtombejccmojjbaaGreatDoor
