/- 'WireTruncatedCardSaid' is proved: the Go function copydesklaw01.WireTruncated returns true at every two integers, text and length, and leaves its arguments as they were; its one condition is the card's own: the variable wire.shifts holds what the program's text lays. -/
import Derived.Test.YtegbijkbkjancaaDoorWireRowBase
namespace Go.Proofs.YtegbijkbkjancaaDoor
open Go Go.Eng Go.RowKit Go.ChangeShapes Go.WideShapes Go.ChangeMaps

set_option maxRecDepth 100000 in
theorem wireTruncated_lifted (os : Os) (started : os.Started) (H : Type) (enc : TypeId × Value → H) :
    ReturnsInHanded {} Tryd.checked os 7 .any (fun w args => (Rows.wireTruncatedSpec.pre enc Tryd.prog Tryd.f7 [] false w args ∧ laidMet Tryd.prog Rows.wireTruncatedRow.laid w) ∧ sizedMet enc Tryd.prog Tryd.f7 (OpenSpec.ofChange Rows.wireTruncatedSpec) false w args)
      (Rows.wireTruncatedSpec.post enc Tryd.prog Tryd.f7 false true false false) := by
  refine law_lift (C := Tryd.checked) (X := fun w => laidMet Tryd.prog Rows.wireTruncatedRow.laid w) (tb := 4) own started (by kernel_rfl) Tryd.func7 laid_heap
    (ChangeSpec.witness_at (enc := enc) (C := Tryd.checked) (os := os) (X := fun w _ => laidMet Tryd.prog Rows.wireTruncatedRow.laid w) false (laidW os) #[.int .i64 0, .int .i64 0, .string ⟨#[]⟩, .int .i64 0] 8 rfl (by kernel_rfl) (by kernel_rfl) (by kernel_rfl) (by kernel_rfl) (by kernel_rfl) (laid_met os _))
    rfl (fun ds h => by rw [Tryd.params7] at h; match ds, h with | [_, _, _, _], _ => rfl) (by kernel_rfl) Tryd.underlying4 laidOut (by kernel_rfl) ?_
  intro W base args ds p hval hA hL
  rw [Tryd.params7] at hA hval
  obtain ⟨v0, vs0, d0, ds0, p0, q0, rfl, rfl, rfl, h0, r0⟩ := trodAll_cons hA
  obtain ⟨v1, vs1, d1, ds1, p1, q1, rfl, rfl, rfl, h1, r1⟩ := trodAll_cons r0
  obtain ⟨v2, vs2, d2, ds2, p2, q2, rfl, rfl, rfl, h2, r2⟩ := trodAll_cons r1
  obtain ⟨v3, vs3, d3, ds3, p3, q3, rfl, rfl, rfl, h3, r3⟩ := trodAll_cons r2
  obtain ⟨rfl, rfl, rfl⟩ := trodAll_nil r3
  obtain ⟨a0, rfl, _, _, w0⟩ := open_int Tryd.underlying3 (hval 0 3 v0 rfl rfl) h0
  obtain ⟨a1, rfl, _, _, w1⟩ := open_int Tryd.underlying3 (hval 1 3 v1 rfl rfl) h1
  obtain ⟨a2, rfl, _, _, w2⟩ := open_string Tryd.underlying9 (hval 2 9 v2 rfl rfl) h2
  obtain ⟨a3, rfl, _, _, w3⟩ := open_int Tryd.underlying3 (hval 3 3 v3 rfl rfl) h3
  exact Truncated_c a0 a1 a2 a3 (bounds_i64 w0) (bounds_i64 w1) (bounds_i64 w3) W (tab_of_laid hL)

theorem wireTruncated_row : Rows.WireTruncatedSaid :=
  OpenClaim.holds_of_wide 7 Tryd.f7 rfl rfl rfl rfl rfl rfl rfl ⟨rfl, rfl, rfl, rfl, rfl⟩ rfl rfl rfl rfl rfl (by kernel_rfl) Tryd.func7 (by kernel_rfl)
    (of_decide_eq_true (by kernel_rfl)) (by unfold Func.isWrapper; rw [if_neg (of_decide_eq_false (by kernel_rfl))]; exact ⟨rfl, rfl⟩)
    (fun os started H enc _ => wireTruncated_lifted os started H enc)

theorem wireTruncated_holds : Rows.WireTruncatedCardSaid :=
  Claim7.holds_tied_plain_at .later [] [.data] true (true, "1ce63732c07309b12bcdeccb6ad96a12767082a7aedcb60ae613f87f52924860") false
    wireTruncated_row (fun _ h => by cases h) (by kernel_rfl) (fun _ h => by cases h) wireTruncated_row_tie rfl ⟨rfl, rfl⟩ (by kernel_rfl) rfl
    (fun f fn hf hfn => by
      obtain rfl : f = 7 := Option.some.inj ((show Tryd.prog.funcNamed "copydesk/copydesklaw01.WireTruncated" = some 7 by kernel_rfl).symm.trans hf) |>.symm
      obtain rfl : fn = Tryd.f7 := (Option.some.inj (Tryd.func7.symm.trans hfn)).symm
      refine ⟨by kernel_rfl, fun j t ht => ?_⟩
      have hall : (Tryd.f7.params.toList.all fun t => Tryd.prog.wantsStandIn t == false) = true := by kernel_rfl
      have hm : t ∈ Tryd.f7.params.toList := by
        rw [← Array.getElem?_toList] at ht
        exact List.mem_of_getElem? ht
      exact (by simpa using List.all_eq_true.1 hall t hm : Tryd.prog.wantsStandIn t = false))
    (by kernel_rfl)
#print axioms wireTruncated_holds
end Go.Proofs.YtegbijkbkjancaaDoor
