/- 'JournalErasesCardSaid' is proved: the Go function copydesklaw24.JournalErases returns true at every size and list of calls, and leaves its arguments as they were; its one condition is the card's own: the variables wire.shifts, utf8.acceptRanges and utf8.first hold what the program's text lays (of the latter two no code reads that the law reaches). -/
import Derived.Test.YtfobdgoklnhebaaGreatDoorEraJ
set_option linter.unusedVariables false
set_option linter.unusedSimpArgs false
set_option maxRecDepth 100000
namespace Go.Proofs.YtfobdgoklnhebaaGreatDoor
open Go Go.Eng Go.RowKit Go.ChangeShapes Go.WideShapes Go.ChangeMaps
set_option maxRecDepth 100000 in
theorem journalErases_lifted (os : Os) (started : os.Started) (H : Type) (enc : TypeId × Value → H) :
  ReturnsInHanded {} Tryz.checked os 5 .any (fun w args => (Rows.journalErasesSpec.pre enc Tryz.prog Tryz.f5 [] false w args ∧ laidMetH Tryz.prog Rows.journalErasesRow.laid w) ∧ sizedMet enc Tryz.prog Tryz.f5 (OpenSpec.ofChange Rows.journalErasesSpec) false w args)
   (Rows.journalErasesSpec.post enc Tryz.prog Tryz.f5 false true false false) := by
 refine law_lift (C := Tryz.checked) (X := fun w => laidMetH Tryz.prog Rows.journalErasesRow.laid w) (tb := 4) own started (by kernel_rfl) Tryz.func5 laid_heap
  (ChangeSpec.witness_at (enc := enc) (C := Tryz.checked) (os := os) (X := fun w _ => laidMetH Tryz.prog Rows.journalErasesRow.laid w) false (laidW os) #[.int .i64 0, .slice none 0 0] 8 rfl (by kernel_rfl) (by kernel_rfl) (by kernel_rfl) (by kernel_rfl) (by kernel_rfl) (laid_met os _))
  rfl (fun ds h => by rw [Tryz.params5] at h; match ds, h with | [_, _], _ => rfl) (by kernel_rfl) Tryz.underlying4 laidOut (by kernel_rfl) ?_
 intro W base args ds p hval hA hL
 rw [Tryz.params5] at hA hval
 obtain ⟨v0, vs0, d0, ds0, p0, q0, rfl, rfl, rfl, h0, r0⟩ := trodAll_cons hA
 obtain ⟨v1, vs1, d1, ds1, p1, q1, rfl, rfl, rfl, h1, r1⟩ := trodAll_cons r0
 obtain ⟨rfl, rfl, rfl⟩ := trodAll_nil r1
 obtain ⟨a0, rfl, _, _, w0⟩ := open_int Tryz.underlying3 (hval 0 3 v0 rfl rfl) h0
 obtain ⟨l1, y1, c1, rfl, e1⟩ := open_Deeds (hval 1 55 v1 rfl rfl) h1
 exact jrn7 (b64 w0) (tab_of_laid hL) e1
theorem journalErases_closedS (s : String) (h : (progS s).initOrder.toList = initL) : joinedFacts (progS s) 5 Tryz.f5 Rows.journalErasesSpec Rows.journalErasesRow = true := by
 delta joinedFacts
 rewrite [mayEnterS s h, makeS s h, liftsS s h]
 kernel_rfl
theorem journalErases_closed : joinedFacts Tryz.prog 5 Tryz.f5 Rows.journalErasesSpec Rows.journalErasesRow = true := journalErases_closedS Tryz.prog.initOrder charsT
theorem journalErases_row : Rows.JournalErasesSaid :=
 OpenClaim.holds_of_wide 5 Tryz.f5 rfl rfl rfl rfl rfl rfl rfl ⟨rfl, rfl, rfl, rfl, rfl⟩ rfl rfl rfl rfl rfl (by kernel_rfl) Tryz.func5 journalErases_closed
  (of_decide_eq_true (by kernel_rfl)) (by unfold Func.isWrapper; rw [if_neg (of_decide_eq_false (by kernel_rfl))]; exact ⟨rfl, rfl⟩)
  (fun os M H enc _ => journalErases_lifted os M H enc)
theorem journalErases_holds : Rows.JournalErasesCardSaid :=
 Claim7.holds_tied_plain_at .later [] [.data, .data, .pinned] true (true, "0a644ea0f639ef57f2f648ffcb337cb1229d4222cc83726b797bbdddd8e46639") true
  journalErases_row (fun _ h => by cases h) (by kernel_rfl) (fun _ h => by cases h) journalErases_row_tie rfl ⟨rfl, rfl⟩ mainT rfl
  (fun f fn V Z => by
   obtain rfl : f = 5 := Option.some.inj ((show Tryz.prog.funcNamed "copydesk/copydesklaw24.JournalErases" = some 5 by kernel_rfl).symm.trans V) |>.symm
   obtain rfl : fn = Tryz.f5 := (Option.some.inj (Tryz.func5.symm.trans Z)).symm
   refine ⟨by kernel_rfl, fun j t M => ?_⟩
   have O : (Tryz.f5.params.toList.all fun t => Tryz.prog.wantsStandIn t == false) = true := by kernel_rfl
   have hm : t ∈ Tryz.f5.params.toList := by
    rw [← Array.getElem?_toList] at M
    exact List.mem_of_getElem? M
   exact (by simpa using List.all_eq_true.1 O t hm : Tryz.prog.wantsStandIn t = false))
  (by kernel_rfl)
#print axioms journalErases_holds
end Go.Proofs.YtfobdgoklnhebaaGreatDoor
