/- 'JournalDamagedCardSaid' is proved: the Go function copydesklaw24.JournalDamaged returns true at every size, list of facts, choice of a fact and a byte, and change, and leaves its arguments as they were; its one condition is the card's own: the variables wire.shifts, utf8.acceptRanges and utf8.first hold what the program's text lays (of the latter two no code reads that the law reaches). -/
import Derived.Test.YtfobdgoklnhebaaGreatDoorDamJ
set_option linter.unusedVariables false
set_option linter.unusedSimpArgs false
set_option maxRecDepth 100000
namespace Go.Proofs.YtfobdgoklnhebaaGreatDoor
open Go Go.Eng Go.RowKit Go.ChangeShapes Go.WideShapes Go.ChangeMaps
set_option maxRecDepth 100000 in
theorem journalDamaged_lifted (os : Os) (started : os.Started) (H : Type) (enc : TypeId × Value → H) :
  ReturnsInHanded {} Tryz.checked os 3 .any (fun w args => (Rows.journalDamagedSpec.pre enc Tryz.prog Tryz.f3 [] false w args ∧ laidMetH Tryz.prog Rows.journalDamagedRow.laid w) ∧ sizedMet enc Tryz.prog Tryz.f3 (OpenSpec.ofChange Rows.journalDamagedSpec) false w args)
   (Rows.journalDamagedSpec.post enc Tryz.prog Tryz.f3 false true false false) := by
 refine law_lift (C := Tryz.checked) (X := fun w => laidMetH Tryz.prog Rows.journalDamagedRow.laid w) (tb := 4) own started (by kernel_rfl) Tryz.func3 laid_heap
  (ChangeSpec.witness_at (enc := enc) (C := Tryz.checked) (os := os) (X := fun w _ => laidMetH Tryz.prog Rows.journalDamagedRow.laid w) false (laidW os) #[.int .i64 0, .slice none 0 0, .int .i64 0, .int .i64 0, .int .u8 0] 8 rfl (by kernel_rfl) (by kernel_rfl) (by kernel_rfl) (by kernel_rfl) (by kernel_rfl) (laid_met os _))
  rfl (fun ds h => by rw [Tryz.params3] at h; match ds, h with | [_, _, _, _, _], _ => rfl) (by kernel_rfl) Tryz.underlying4 laidOut (by kernel_rfl) ?_
 intro W base args ds p hval hA hL
 rw [Tryz.params3] at hA hval
 obtain ⟨v0, vs0, d0, ds0, p0, q0, rfl, rfl, rfl, h0, r0⟩ := trodAll_cons hA
 obtain ⟨v1, vs1, d1, ds1, p1, q1, rfl, rfl, rfl, h1, r1⟩ := trodAll_cons r0
 obtain ⟨v2, vs2, d2, ds2, p2, q2, rfl, rfl, rfl, h2, r2⟩ := trodAll_cons r1
 obtain ⟨v3, vs3, d3, ds3, p3, q3, rfl, rfl, rfl, h3, r3⟩ := trodAll_cons r2
 obtain ⟨v4, vs4, d4, ds4, p4, q4, rfl, rfl, rfl, h4, r4⟩ := trodAll_cons r3
 obtain ⟨rfl, rfl, rfl⟩ := trodAll_nil r4
 obtain ⟨a0, rfl, _, _, w0⟩ := open_int Tryz.underlying3 (hval 0 3 v0 rfl rfl) h0
 obtain ⟨l1, y1, c1, rfl, e1⟩ := open_Fcts (hval 1 22 v1 rfl rfl) h1
 obtain ⟨a2, rfl, _, _, w2⟩ := open_int Tryz.underlying3 (hval 2 3 v2 rfl rfl) h2
 obtain ⟨a3, rfl, _, _, w3⟩ := open_int Tryz.underlying3 (hval 3 3 v3 rfl rfl) h3
 obtain ⟨a4, rfl, _, _, w4⟩ := open_int Tryz.underlying5 (hval 4 5 v4 rfl rfl) h4
 exact jrn8 (b64 w0) (b64 w2) (b64 w3) (b8 w4) (tab_of_laid hL) e1
theorem journalDamaged_closedS (s : String) (h : (progS s).initOrder.toList = initL) : joinedFacts (progS s) 3 Tryz.f3 Rows.journalDamagedSpec Rows.journalDamagedRow = true := by
 delta joinedFacts
 rewrite [mayEnterS s h, makeS s h, liftsS s h]
 kernel_rfl
theorem journalDamaged_closed : joinedFacts Tryz.prog 3 Tryz.f3 Rows.journalDamagedSpec Rows.journalDamagedRow = true := journalDamaged_closedS Tryz.prog.initOrder charsT
theorem journalDamaged_row : Rows.JournalDamagedSaid :=
 OpenClaim.holds_of_wide 3 Tryz.f3 rfl rfl rfl rfl rfl rfl rfl ⟨rfl, rfl, rfl, rfl, rfl⟩ rfl rfl rfl rfl rfl (by kernel_rfl) Tryz.func3 journalDamaged_closed
  (of_decide_eq_true (by kernel_rfl)) (by unfold Func.isWrapper; rw [if_neg (of_decide_eq_false (by kernel_rfl))]; exact ⟨rfl, rfl⟩)
  (fun os M H enc _ => journalDamaged_lifted os M H enc)
theorem journalDamaged_holds : Rows.JournalDamagedCardSaid :=
 Claim7.holds_tied_plain_at .later [] [.data, .data, .pinned] true (true, "0a644ea0f639ef57f2f648ffcb337cb1229d4222cc83726b797bbdddd8e46639") true
  journalDamaged_row (fun _ h => by cases h) (by kernel_rfl) (fun _ h => by cases h) journalDamaged_row_tie rfl ⟨rfl, rfl⟩ mainT rfl
  (fun f fn V Z => by
   obtain rfl : f = 3 := Option.some.inj ((show Tryz.prog.funcNamed "copydesk/copydesklaw24.JournalDamaged" = some 3 by kernel_rfl).symm.trans V) |>.symm
   obtain rfl : fn = Tryz.f3 := (Option.some.inj (Tryz.func3.symm.trans Z)).symm
   refine ⟨by kernel_rfl, fun j t M => ?_⟩
   have O : (Tryz.f3.params.toList.all fun t => Tryz.prog.wantsStandIn t == false) = true := by kernel_rfl
   have hm : t ∈ Tryz.f3.params.toList := by
    rw [← Array.getElem?_toList] at M
    exact List.mem_of_getElem? M
   exact (by simpa using List.all_eq_true.1 O t hm : Tryz.prog.wantsStandIn t = false))
  (by kernel_rfl)
#print axioms journalDamaged_holds
end Go.Proofs.YtfobdgoklnhebaaGreatDoor
