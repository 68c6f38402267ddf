/- 'FactRoundTripCardSaid' is proved: the Go function copydesklaw05.FactRoundTrip returns true at every fact, and leaves its arguments as they were; its one condition is the card's own: the variables utf8.acceptRanges and utf8.first hold what the program's text lays (no code that the law reaches reads them). -/
import Derived.Test.YtombejccmojjbaaGreatDoorRouJ
namespace Go.Proofs.YtombejccmojjbaaGreatDoor
open Go Go.Eng Go.RowKit Go.ChangeShapes Go.WideShapes Go.ChangeMaps
set_option maxRecDepth 100000 in
theorem factRoundTrip_lifted (os : Os) (started : os.Started) (H : Type) (enc : TypeId × Value → H) :
    ReturnsInHanded {} Tryz.checked os 3 .any (fun w args => (Rows.factRoundTripSpec.pre enc Tryz.prog Tryz.f3 [] false w args ∧ laidMetH Tryz.prog Rows.factRoundTripRow.laid w) ∧ sizedMet enc Tryz.prog Tryz.f3 (OpenSpec.ofChange Rows.factRoundTripSpec) false w args)
      (Rows.factRoundTripSpec.post enc Tryz.prog Tryz.f3 false true false false) := by
  refine law_lift (C := Tryz.checked) (X := fun w => laidMetH Tryz.prog Rows.factRoundTripRow.laid w) (tb := 4) own started (by kernel_rfl) Tryz.func3 laid_heap
    (ChangeSpec.witness_at (enc := enc) (C := Tryz.checked) (os := os) (X := fun w _ => laidMetH Tryz.prog Rows.factRoundTripRow.laid w) false (laidW os) #[.agg #[.int .i64 0, .int .i64 0, .int .i64 0, .int .i64 0, .string ⟨#[]⟩, .int .i64 0, .int .i64 0, .string ⟨#[]⟩, .string ⟨#[]⟩, .slice none 0 0, .slice none 0 0, .int .i64 0, .slice none 0 0, .int .i64 0, .int .i64 0, .int .i64 0, .int .i64 0, .int .i64 0, .string ⟨#[]⟩, .string ⟨#[]⟩, .int .i64 0, .int .i64 0, .int .i64 0]] 8 rfl (by kernel_rfl) (by kernel_rfl) (by kernel_rfl) (by kernel_rfl) (by kernel_rfl) (laid_met os _))
    rfl (fun ds h => by rw [Tryz.params3] at h; match ds, h with | [_], _ => rfl) (by kernel_rfl) Tryz.underlying4 laidOut (by kernel_rfl) ?_
  intro W base args ds p hval hA hL
  rw [Tryz.params3] at hA hval
  obtain ⟨v0, vs0, d0, ds0, p0, q0, rfl, rfl, rfl, h0, r0⟩ := trodAll_cons hA
  obtain ⟨rfl, rfl, rfl⟩ := trodAll_nil r0
  obtain ⟨x0, tp0, tc0, bp0, bc0, ap0, ac0, rfl, e0⟩ := open_Fct (hval 0 28 v0 rfl rfl) h0
  exact fact0 e0
theorem factRoundTrip_closedS (s : String) (h : (progS s).initOrder.toList = initL) : joinedFacts (progS s) 3 Tryz.f3 Rows.factRoundTripSpec Rows.factRoundTripRow = true := by
  delta joinedFacts
  rewrite [mayEnterS s h, makeS s h, liftsS s h]
  kernel_rfl
theorem factRoundTrip_closed : joinedFacts Tryz.prog 3 Tryz.f3 Rows.factRoundTripSpec Rows.factRoundTripRow = true := factRoundTrip_closedS Tryz.prog.initOrder charsT
theorem factRoundTrip_row : Rows.FactRoundTripSaid :=
  OpenClaim.holds_of_wide 3 Tryz.f3 rfl rfl rfl rfl rfl rfl rfl ⟨rfl, rfl, rfl, rfl, rfl⟩ rfl rfl rfl rfl rfl (by kernel_rfl) Tryz.func3 factRoundTrip_closed
    (of_decide_eq_true (by kernel_rfl)) (by unfold Func.isWrapper; rw [if_neg (of_decide_eq_false (by kernel_rfl))]; exact ⟨rfl, rfl⟩)
    (fun os started H enc _ => factRoundTrip_lifted os started H enc)
theorem factRoundTrip_holds : Rows.FactRoundTripCardSaid :=
  Claim7.holds_tied_plain_at .later [] [.data, .pinned] true (true, "66d07afbd6a178fb91df158d40a7eebe6ed359c03af3053908f3321b825466ce") true
    factRoundTrip_row (fun _ h => by cases h) (by kernel_rfl) (fun _ h => by cases h) factRoundTrip_row_tie rfl ⟨rfl, rfl⟩ mainT rfl
    (fun f fn hf hfn => by
      obtain rfl : f = 3 := Option.some.inj ((show Tryz.prog.funcNamed "copydesk/copydesklaw05.FactRoundTrip" = some 3 by kernel_rfl).symm.trans hf) |>.symm
      obtain rfl : fn = Tryz.f3 := (Option.some.inj (Tryz.func3.symm.trans hfn)).symm
      refine ⟨by kernel_rfl, fun j t ht => ?_⟩
      have hall : (Tryz.f3.params.toList.all fun t => Tryz.prog.wantsStandIn t == false) = true := by kernel_rfl
      have hm : t ∈ Tryz.f3.params.toList := by
        rw [← Array.getElem?_toList] at ht
        exact List.mem_of_getElem? ht
      exact (by simpa using List.all_eq_true.1 hall t hm : Tryz.prog.wantsStandIn t = false))
    (by kernel_rfl)
#print axioms factRoundTrip_holds
end Go.Proofs.YtombejccmojjbaaGreatDoor
