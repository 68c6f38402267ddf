/- 'FactRedactCardSaid' is proved: the Go function copydesklaw05.FactRedact returns true at every two facts, and leaves its arguments as they were; its one condition is the card's own: the variables utf8.acceptRanges and utf8.first hold what the program's text lays (no code that the law reaches reads them). -/
import Derived.Test.YtombejccmojjbaaGreatDoorRedJ
namespace Go.Proofs.YtombejccmojjbaaGreatDoor
open Go Go.Eng Go.RowKit Go.ChangeShapes Go.WideShapes Go.ChangeMaps
set_option maxRecDepth 100000 in
theorem factRedact_lifted (os : Os) (started : os.Started) (H : Type) (enc : TypeId × Value → H) :
    ReturnsInHanded {} Tryz.checked os 8 .any (fun w args => (Rows.factRedactSpec.pre enc Tryz.prog Tryz.f8 [] false w args ∧ laidMetH Tryz.prog Rows.factRedactRow.laid w) ∧ sizedMet enc Tryz.prog Tryz.f8 (OpenSpec.ofChange Rows.factRedactSpec) false w args)
      (Rows.factRedactSpec.post enc Tryz.prog Tryz.f8 false true false false) := by
  refine law_lift (C := Tryz.checked) (X := fun w => laidMetH Tryz.prog Rows.factRedactRow.laid w) (tb := 4) own started (by kernel_rfl) Tryz.func8 laid_heap
    (ChangeSpec.witness_at (enc := enc) (C := Tryz.checked) (os := os) (X := fun w _ => laidMetH Tryz.prog Rows.factRedactRow.laid w) false (laidW os) #[.agg #[.int .i64 0, .int .i64 0, .int .i64 0, .int .i64 0, .string ⟨#[]⟩, .int .i64 0, .int .i64 0, .string ⟨#[]⟩, .string ⟨#[]⟩, .slice none 0 0, .slice none 0 0, .int .i64 0, .slice none 0 0, .int .i64 0, .int .i64 0, .int .i64 0, .int .i64 0, .int .i64 0, .string ⟨#[]⟩, .string ⟨#[]⟩, .int .i64 0, .int .i64 0, .int .i64 0], .agg #[.int .i64 0, .int .i64 0, .int .i64 0, .int .i64 0, .string ⟨#[]⟩, .int .i64 0, .int .i64 0, .string ⟨#[]⟩, .string ⟨#[]⟩, .slice none 0 0, .slice none 0 0, .int .i64 0, .slice none 0 0, .int .i64 0, .int .i64 0, .int .i64 0, .int .i64 0, .int .i64 0, .string ⟨#[]⟩, .string ⟨#[]⟩, .int .i64 0, .int .i64 0, .int .i64 0]] 8 rfl (by kernel_rfl) (by kernel_rfl) (by kernel_rfl) (by kernel_rfl) (by kernel_rfl) (laid_met os _))
    rfl (fun ds h => by rw [Tryz.params8] at h; match ds, h with | [_, _], _ => rfl) (by kernel_rfl) Tryz.underlying4 laidOut (by kernel_rfl) ?_
  intro W base args ds p hval hA hL
  rw [Tryz.params8] at hA hval
  obtain ⟨v0, vs0, d0, ds0, p0, q0, rfl, rfl, rfl, h0, r0⟩ := trodAll_cons hA
  obtain ⟨v1, vs1, d1, ds1, p1, q1, rfl, rfl, rfl, h1, r1⟩ := trodAll_cons r0
  obtain ⟨rfl, rfl, rfl⟩ := trodAll_nil r1
  obtain ⟨x0, tp0, tc0, bp0, bc0, ap0, ac0, rfl, e0⟩ := open_Fct (hval 0 28 v0 rfl rfl) h0
  obtain ⟨x1, tp1, tc1, bp1, bc1, ap1, ac1, rfl, e1⟩ := open_Fct (hval 1 28 v1 rfl rfl) h1
  exact fact5 e0 e1
theorem factRedact_closedS (s : String) (h : (progS s).initOrder.toList = initL) : joinedFacts (progS s) 8 Tryz.f8 Rows.factRedactSpec Rows.factRedactRow = true := by
  delta joinedFacts
  rewrite [mayEnterS s h, makeS s h, liftsS s h]
  kernel_rfl
theorem factRedact_closed : joinedFacts Tryz.prog 8 Tryz.f8 Rows.factRedactSpec Rows.factRedactRow = true := factRedact_closedS Tryz.prog.initOrder charsT
theorem factRedact_row : Rows.FactRedactSaid :=
  OpenClaim.holds_of_wide 8 Tryz.f8 rfl rfl rfl rfl rfl rfl rfl ⟨rfl, rfl, rfl, rfl, rfl⟩ rfl rfl rfl rfl rfl (by kernel_rfl) Tryz.func8 factRedact_closed
    (of_decide_eq_true (by kernel_rfl)) (by unfold Func.isWrapper; rw [if_neg (of_decide_eq_false (by kernel_rfl))]; exact ⟨rfl, rfl⟩)
    (fun os started H enc _ => factRedact_lifted os started H enc)
theorem factRedact_holds : Rows.FactRedactCardSaid :=
  Claim7.holds_tied_plain_at .later [] [.data, .pinned] true (true, "66d07afbd6a178fb91df158d40a7eebe6ed359c03af3053908f3321b825466ce") true
    factRedact_row (fun _ h => by cases h) (by kernel_rfl) (fun _ h => by cases h) factRedact_row_tie rfl ⟨rfl, rfl⟩ mainT rfl
    (fun f fn hf hfn => by
      obtain rfl : f = 8 := Option.some.inj ((show Tryz.prog.funcNamed "copydesk/copydesklaw05.FactRedact" = some 8 by kernel_rfl).symm.trans hf) |>.symm
      obtain rfl : fn = Tryz.f8 := (Option.some.inj (Tryz.func8.symm.trans hfn)).symm
      refine ⟨by kernel_rfl, fun j t ht => ?_⟩
      have hall : (Tryz.f8.params.toList.all fun t => Tryz.prog.wantsStandIn t == false) = true := by kernel_rfl
      have hm : t ∈ Tryz.f8.params.toList := by
        rw [← Array.getElem?_toList] at ht
        exact List.mem_of_getElem? ht
      exact (by simpa using List.all_eq_true.1 hall t hm : Tryz.prog.wantsStandIn t = false))
    (by kernel_rfl)
#print axioms factRedact_holds
end Go.Proofs.YtombejccmojjbaaGreatDoor
