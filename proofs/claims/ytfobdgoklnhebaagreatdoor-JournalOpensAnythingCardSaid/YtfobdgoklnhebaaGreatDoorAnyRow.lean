/- 'JournalOpensAnythingCardSaid' is proved: the Go function copydesklaw24.JournalOpensAnything returns true at every size, two contents, list of calls, index and byte, and leaves its arguments as they were; its one condition is the card's own: the variables wire.shifts, utf8.acceptRanges and utf8.first hold what the program's text lays (of the latter two no code reads that the law reaches). -/
import Derived.Test.YtfobdgoklnhebaaGreatDoorAnyK
set_option linter.unusedVariables false
set_option linter.unusedSimpArgs false
set_option maxRecDepth 100000
namespace Go.Proofs.YtfobdgoklnhebaaGreatDoor
open Go Go.Eng Go.RowKit Go.ChangeShapes Go.WideShapes Go.ChangeMaps
set_option maxRecDepth 100000 in
theorem TJ (os : Os) (started : os.Started) (H : Type) (enc : TypeId × Value → H) :
  ReturnsInHanded {} Tryz.checked os 7 .any (fun w args => (Rows.journalOpensAnythingSpec.pre enc Tryz.prog Tryz.f7 [] false w args ∧ laidMetH Tryz.prog Rows.journalOpensAnythingRow.laid w) ∧ sizedMet enc Tryz.prog Tryz.f7 (OpenSpec.ofChange Rows.journalOpensAnythingSpec) false w args)
   (Rows.journalOpensAnythingSpec.post enc Tryz.prog Tryz.f7 false true false false) := by
 refine Uu (C := Tryz.checked) (X := fun w => laidMetH Tryz.prog Rows.journalOpensAnythingRow.laid w) (tb := 4) own started (by kernel_rfl) Tryz.func7 TS
  (ChangeSpec.witness_at (enc := enc) (C := Tryz.checked) (os := os) (X := fun w _ => laidMetH Tryz.prog Rows.journalOpensAnythingRow.laid w) false (Gb os) #[.int .i64 0, .string ⟨#[]⟩, .string ⟨#[]⟩, .slice none 0 0, .int .i64 0, .int .u8 0] 8 rfl (by kernel_rfl) (by kernel_rfl) (by kernel_rfl) (by kernel_rfl) (by kernel_rfl) (YQ os _))
  rfl (fun ds h => by rw [Tryz.params7] at h; match ds, h with | [_, _, _, _, _, _], _ => rfl) (by kernel_rfl) Tryz.underlying4 laidOut (by kernel_rfl) ?_
 intro W base args ds p hval hA hL
 rw [Tryz.params7] at hA hval
 obtain ⟨v0, vs0, d0, ds0, p0, q0, rfl, rfl, rfl, h0, r0⟩ := trodAll_cons hA
 obtain ⟨v1, vs1, d1, ds1, p1, q1, rfl, rfl, rfl, h1, r1⟩ := trodAll_cons r0
 obtain ⟨v2, vs2, d2, ds2, p2, q2, rfl, rfl, rfl, h2, r2⟩ := trodAll_cons r1
 obtain ⟨v3, vs3, d3, ds3, p3, q3, rfl, rfl, rfl, h3, r3⟩ := trodAll_cons r2
 obtain ⟨v4, vs4, d4, ds4, p4, q4, rfl, rfl, rfl, h4, r4⟩ := trodAll_cons r3
 obtain ⟨v5, vs5, d5, ds5, p5, q5, rfl, rfl, rfl, h5, r5⟩ := trodAll_cons r4
 obtain ⟨rfl, rfl, rfl⟩ := trodAll_nil r5
 obtain ⟨a0, rfl, _, _, w0⟩ := open_int Tryz.underlying3 (hval 0 3 v0 rfl rfl) h0
 obtain ⟨a1, rfl, _, _, w1⟩ := open_string Tryz.underlying9 (hval 1 9 v1 rfl rfl) h1
 obtain ⟨a2, rfl, _, _, w2⟩ := open_string Tryz.underlying9 (hval 2 9 v2 rfl rfl) h2
 obtain ⟨l3, y3, c3, rfl, e3⟩ := W7 (hval 3 55 v3 rfl rfl) h3
 obtain ⟨a4, rfl, _, _, w4⟩ := open_int Tryz.underlying3 (hval 4 3 v4 rfl rfl) h4
 obtain ⟨a5, rfl, _, _, w5⟩ := open_int Tryz.underlying5 (hval 5 5 v5 rfl rfl) h5
 exact UJ (BN w0) (BN w4) (b8 w5) (TT hL) e3
theorem Ud (s : String) (h : (s3 s).initOrder.toList = vD) : joinedFacts (s3 s) 7 Tryz.f7 Rows.journalOpensAnythingSpec Rows.journalOpensAnythingRow = true := by
 delta joinedFacts
 rewrite [QF s h, OF s h, XG s h]
 kernel_rfl
theorem XP : joinedFacts Tryz.prog 7 Tryz.f7 Rows.journalOpensAnythingSpec Rows.journalOpensAnythingRow = true := Ud Tryz.prog.initOrder LJ
theorem Rg : Rows.JournalOpensAnythingSaid :=
 OpenClaim.holds_of_wide 7 Tryz.f7 rfl rfl rfl rfl rfl rfl rfl ⟨rfl, rfl, rfl, rfl, rfl⟩ rfl rfl rfl rfl rfl (by kernel_rfl) Tryz.func7 XP
  (of_decide_eq_true (by kernel_rfl)) (by unfold Func.isWrapper; rw [if_neg (of_decide_eq_false (by kernel_rfl))]; exact ⟨rfl, rfl⟩)
  (fun os M H enc _ => TJ os M H enc)
theorem journalOpensAnything_holds : Rows.JournalOpensAnythingCardSaid :=
 Claim7.holds_tied_plain_at .later [] [.data, .data, .pinned] true (true, "0a644ea0f639ef57f2f648ffcb337cb1229d4222cc83726b797bbdddd8e46639") true
  Rg (fun _ h => by cases h) (by kernel_rfl) (fun _ h => by cases h) journalOpensAnything_row_tie rfl ⟨rfl, rfl⟩ Xl rfl
  (fun f fn V a1 => by
   obtain rfl : f = 7 := Option.some.inj ((show Tryz.prog.funcNamed "copydesk/copydesklaw24.JournalOpensAnything" = some 7 by kernel_rfl).symm.trans V) |>.symm
   obtain rfl : fn = Tryz.f7 := (Option.some.inj (Tryz.func7.symm.trans a1)).symm
   refine ⟨by kernel_rfl, fun j t M => ?_⟩
   have O : (Tryz.f7.params.toList.all fun t => Tryz.prog.wantsStandIn t == false) = true := by kernel_rfl
   have hm : t ∈ Tryz.f7.params.toList := by
    rw [← Array.getElem?_toList] at M
    exact List.mem_of_getElem? M
   exact (by simpa using List.all_eq_true.1 O t hm : Tryz.prog.wantsStandIn t = false))
  (by kernel_rfl)
#print axioms journalOpensAnything_holds
end Go.Proofs.YtfobdgoklnhebaaGreatDoor
