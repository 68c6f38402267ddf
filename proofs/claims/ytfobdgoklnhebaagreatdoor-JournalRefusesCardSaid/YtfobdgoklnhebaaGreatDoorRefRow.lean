/- 'JournalRefusesCardSaid' is proved: the Go function copydesklaw24.JournalRefuses returns true at every size, list of facts, fact and other size, and leaves its arguments as they were; its one condition is the card's own: the variables wire.shifts, utf8.acceptRanges and utf8.first hold what the program's text lays (of the latter two no code reads that the law reaches). -/
import Derived.Test.YtfobdgoklnhebaaGreatDoorRefJ
set_option linter.unusedVariables false
set_option linter.unusedSimpArgs false
set_option maxRecDepth 100000
namespace Go.Proofs.YtfobdgoklnhebaaGreatDoor
open Go Go.Eng Go.RowKit Go.ChangeShapes Go.WideShapes Go.ChangeMaps
set_option maxRecDepth 100000 in
theorem journalRefuses_lifted (os : Os) (started : os.Started) (H : Type) (enc : TypeId × Value → H) :
  ReturnsInHanded {} Tryz.checked os 4 .any (fun w args => (Rows.journalRefusesSpec.pre enc Tryz.prog Tryz.f4 [] false w args ∧ laidMetH Tryz.prog Rows.journalRefusesRow.laid w) ∧ sizedMet enc Tryz.prog Tryz.f4 (OpenSpec.ofChange Rows.journalRefusesSpec) false w args)
   (Rows.journalRefusesSpec.post enc Tryz.prog Tryz.f4 false true false false) := by
 refine law_lift (C := Tryz.checked) (X := fun w => laidMetH Tryz.prog Rows.journalRefusesRow.laid w) (tb := 4) own started (by kernel_rfl) Tryz.func4 laid_heap
  (ChangeSpec.witness_at (enc := enc) (C := Tryz.checked) (os := os) (X := fun w _ => laidMetH Tryz.prog Rows.journalRefusesRow.laid w) false (laidW os) #[.int .i64 0, .slice none 0 0, .agg #[.int .i64 0, .int .i64 0, .int .i64 0, .int .i64 0, .string ⟨#[]⟩, .int .i64 0, .int .i64 0, .string ⟨#[]⟩, .string ⟨#[]⟩, .slice none 0 0, .slice none 0 0, .int .i64 0, .slice none 0 0, .int .i64 0, .int .i64 0, .int .i64 0, .int .i64 0, .int .i64 0, .string ⟨#[]⟩, .string ⟨#[]⟩, .int .i64 0, .int .i64 0, .int .i64 0], .int .i64 0] 8 rfl (by kernel_rfl) (by kernel_rfl) (by kernel_rfl) (by kernel_rfl) (by kernel_rfl) (laid_met os _))
  rfl (fun ds h => by rw [Tryz.params4] at h; match ds, h with | [_, _, _, _], _ => rfl) (by kernel_rfl) Tryz.underlying4 laidOut (by kernel_rfl) ?_
 intro W base args ds p hval hA hL
 rw [Tryz.params4] at hA hval
 obtain ⟨v0, vs0, d0, ds0, p0, q0, rfl, rfl, rfl, h0, r0⟩ := trodAll_cons hA
 obtain ⟨v1, vs1, d1, ds1, p1, q1, rfl, rfl, rfl, h1, r1⟩ := trodAll_cons r0
 obtain ⟨v2, vs2, d2, ds2, p2, q2, rfl, rfl, rfl, h2, r2⟩ := trodAll_cons r1
 obtain ⟨v3, vs3, d3, ds3, p3, q3, rfl, rfl, rfl, h3, r3⟩ := trodAll_cons r2
 obtain ⟨rfl, rfl, rfl⟩ := trodAll_nil r3
 obtain ⟨a0, rfl, _, _, w0⟩ := open_int Tryz.underlying3 (hval 0 3 v0 rfl rfl) h0
 obtain ⟨l1, y1, c1, rfl, e1⟩ := open_Fcts (hval 1 22 v1 rfl rfl) h1
 obtain ⟨x2, tp2, tc2, bp2, bc2, ap2, ac2, rfl, e2⟩ := open_Fct (hval 2 38 v2 rfl rfl) h2
 obtain ⟨a3, rfl, _, _, w3⟩ := open_int Tryz.underlying3 (hval 3 3 v3 rfl rfl) h3
 exact jrn2 (b64 w0) (b64 w3) (tab_of_laid hL) e2 e1
theorem journalRefuses_closedS (s : String) (h : (progS s).initOrder.toList = initL) : joinedFacts (progS s) 4 Tryz.f4 Rows.journalRefusesSpec Rows.journalRefusesRow = true := by
 delta joinedFacts
 rewrite [mayEnterS s h, makeS s h, liftsS s h]
 kernel_rfl
theorem journalRefuses_closed : joinedFacts Tryz.prog 4 Tryz.f4 Rows.journalRefusesSpec Rows.journalRefusesRow = true := journalRefuses_closedS Tryz.prog.initOrder charsT
theorem journalRefuses_row : Rows.JournalRefusesSaid :=
 OpenClaim.holds_of_wide 4 Tryz.f4 rfl rfl rfl rfl rfl rfl rfl ⟨rfl, rfl, rfl, rfl, rfl⟩ rfl rfl rfl rfl rfl (by kernel_rfl) Tryz.func4 journalRefuses_closed
  (of_decide_eq_true (by kernel_rfl)) (by unfold Func.isWrapper; rw [if_neg (of_decide_eq_false (by kernel_rfl))]; exact ⟨rfl, rfl⟩)
  (fun os M H enc _ => journalRefuses_lifted os M H enc)
theorem journalRefuses_holds : Rows.JournalRefusesCardSaid :=
 Claim7.holds_tied_plain_at .later [] [.data, .data, .pinned] true (true, "0a644ea0f639ef57f2f648ffcb337cb1229d4222cc83726b797bbdddd8e46639") true
  journalRefuses_row (fun _ h => by cases h) (by kernel_rfl) (fun _ h => by cases h) journalRefuses_row_tie rfl ⟨rfl, rfl⟩ mainT rfl
  (fun f fn V Z => by
   obtain rfl : f = 4 := Option.some.inj ((show Tryz.prog.funcNamed "copydesk/copydesklaw24.JournalRefuses" = some 4 by kernel_rfl).symm.trans V) |>.symm
   obtain rfl : fn = Tryz.f4 := (Option.some.inj (Tryz.func4.symm.trans Z)).symm
   refine ⟨by kernel_rfl, fun j t M => ?_⟩
   have O : (Tryz.f4.params.toList.all fun t => Tryz.prog.wantsStandIn t == false) = true := by kernel_rfl
   have hm : t ∈ Tryz.f4.params.toList := by
    rw [← Array.getElem?_toList] at M
    exact List.mem_of_getElem? M
   exact (by simpa using List.all_eq_true.1 O t hm : Tryz.prog.wantsStandIn t = false))
  (by kernel_rfl)
#print axioms journalRefuses_holds
end Go.Proofs.YtfobdgoklnhebaaGreatDoor
