/- 'JournalOpensTwiceCardSaid' is proved: the Go function copydesklaw24.JournalOpensTwice returns true at every size, list of calls, cuts, list of survivors and torn, and leaves its arguments as they were; its one condition is the card's own: the variables wire.shifts, utf8.acceptRanges and utf8.first hold what the program's text lays (of the latter two no code reads that the law reaches). -/
import Derived.Test.YtfobdgoklnhebaaGreatDoorTwiJ
set_option linter.unusedVariables false
set_option linter.unusedSimpArgs false
set_option maxRecDepth 100000
namespace Go.Proofs.YtfobdgoklnhebaaGreatDoor
open Go Go.Eng Go.RowKit Go.ChangeShapes Go.WideShapes Go.ChangeMaps
set_option maxRecDepth 100000 in
theorem journalOpensTwice_lifted (os : Os) (started : os.Started) (H : Type) (enc : TypeId × Value → H) :
  ReturnsInHanded {} Tryz.checked os 9 .any (fun w args => (Rows.journalOpensTwiceSpec.pre enc Tryz.prog Tryz.f9 [] false w args ∧ laidMetH Tryz.prog Rows.journalOpensTwiceRow.laid w) ∧ sizedMet enc Tryz.prog Tryz.f9 (OpenSpec.ofChange Rows.journalOpensTwiceSpec) false w args)
   (Rows.journalOpensTwiceSpec.post enc Tryz.prog Tryz.f9 false true false false) := by
 refine law_lift (C := Tryz.checked) (X := fun w => laidMetH Tryz.prog Rows.journalOpensTwiceRow.laid w) (tb := 4) own started (by kernel_rfl) Tryz.func9 laid_heap
  (ChangeSpec.witness_at (enc := enc) (C := Tryz.checked) (os := os) (X := fun w _ => laidMetH Tryz.prog Rows.journalOpensTwiceRow.laid w) false (laidW os) #[.int .i64 0, .slice none 0 0, .int .i64 0, .int .i64 0, .slice none 0 0, .int .i64 0] 8 rfl (by kernel_rfl) (by kernel_rfl) (by kernel_rfl) (by kernel_rfl) (by kernel_rfl) (laid_met os _))
  rfl (fun ds h => by rw [Tryz.params9] at h; match ds, h with | [_, _, _, _, _, _], _ => rfl) (by kernel_rfl) Tryz.underlying4 laidOut (by kernel_rfl) ?_
 intro W base args ds p hval hA hL
 rw [Tryz.params9] at hA hval
 obtain ⟨v0, vs0, d0, ds0, p0, q0, rfl, rfl, rfl, h0, r0⟩ := trodAll_cons hA
 obtain ⟨v1, vs1, d1, ds1, p1, q1, rfl, rfl, rfl, h1, r1⟩ := trodAll_cons r0
 obtain ⟨v2, vs2, d2, ds2, p2, q2, rfl, rfl, rfl, h2, r2⟩ := trodAll_cons r1
 obtain ⟨v3, vs3, d3, ds3, p3, q3, rfl, rfl, rfl, h3, r3⟩ := trodAll_cons r2
 obtain ⟨v4, vs4, d4, ds4, p4, q4, rfl, rfl, rfl, h4, r4⟩ := trodAll_cons r3
 obtain ⟨v5, vs5, d5, ds5, p5, q5, rfl, rfl, rfl, h5, r5⟩ := trodAll_cons r4
 obtain ⟨rfl, rfl, rfl⟩ := trodAll_nil r5
 obtain ⟨a0, rfl, _, _, w0⟩ := open_int Tryz.underlying3 (hval 0 3 v0 rfl rfl) h0
 obtain ⟨l1, y1, c1, rfl, e1⟩ := open_Deeds (hval 1 55 v1 rfl rfl) h1
 obtain ⟨a2, rfl, _, _, w2⟩ := open_int Tryz.underlying3 (hval 2 3 v2 rfl rfl) h2
 obtain ⟨a3, rfl, _, _, w3⟩ := open_int Tryz.underlying3 (hval 3 3 v3 rfl rfl) h3
 obtain ⟨k4, y4, c4, rfl, u4, e4⟩ := open_Ints (hval 4 34 v4 rfl rfl) h4
 obtain ⟨a5, rfl, _, _, w5⟩ := open_int Tryz.underlying3 (hval 5 3 v5 rfl rfl) h5
 exact jrn6 (b64 w0) (b64 w2) (b64 w3) (tab_of_laid hL) e4 u4 e1
theorem journalOpensTwice_closedS (s : String) (h : (progS s).initOrder.toList = initL) : joinedFacts (progS s) 9 Tryz.f9 Rows.journalOpensTwiceSpec Rows.journalOpensTwiceRow = true := by
 delta joinedFacts
 rewrite [mayEnterS s h, makeS s h, liftsS s h]
 kernel_rfl
theorem journalOpensTwice_closed : joinedFacts Tryz.prog 9 Tryz.f9 Rows.journalOpensTwiceSpec Rows.journalOpensTwiceRow = true := journalOpensTwice_closedS Tryz.prog.initOrder charsT
theorem journalOpensTwice_row : Rows.JournalOpensTwiceSaid :=
 OpenClaim.holds_of_wide 9 Tryz.f9 rfl rfl rfl rfl rfl rfl rfl ⟨rfl, rfl, rfl, rfl, rfl⟩ rfl rfl rfl rfl rfl (by kernel_rfl) Tryz.func9 journalOpensTwice_closed
  (of_decide_eq_true (by kernel_rfl)) (by unfold Func.isWrapper; rw [if_neg (of_decide_eq_false (by kernel_rfl))]; exact ⟨rfl, rfl⟩)
  (fun os M H enc _ => journalOpensTwice_lifted os M H enc)
theorem journalOpensTwice_holds : Rows.JournalOpensTwiceCardSaid :=
 Claim7.holds_tied_plain_at .later [] [.data, .data, .pinned] true (true, "0a644ea0f639ef57f2f648ffcb337cb1229d4222cc83726b797bbdddd8e46639") true
  journalOpensTwice_row (fun _ h => by cases h) (by kernel_rfl) (fun _ h => by cases h) journalOpensTwice_row_tie rfl ⟨rfl, rfl⟩ mainT rfl
  (fun f fn V Z => by
   obtain rfl : f = 9 := Option.some.inj ((show Tryz.prog.funcNamed "copydesk/copydesklaw24.JournalOpensTwice" = some 9 by kernel_rfl).symm.trans V) |>.symm
   obtain rfl : fn = Tryz.f9 := (Option.some.inj (Tryz.func9.symm.trans Z)).symm
   refine ⟨by kernel_rfl, fun j t M => ?_⟩
   have O : (Tryz.f9.params.toList.all fun t => Tryz.prog.wantsStandIn t == false) = true := by kernel_rfl
   have hm : t ∈ Tryz.f9.params.toList := by
    rw [← Array.getElem?_toList] at M
    exact List.mem_of_getElem? M
   exact (by simpa using List.all_eq_true.1 O t hm : Tryz.prog.wantsStandIn t = false))
  (by kernel_rfl)
#print axioms journalOpensTwice_holds
end Go.Proofs.YtfobdgoklnhebaaGreatDoor
