/- 'WireSequenceCardSaid' is proved: the Go function copydesklaw01.WireSequence returns true at every list of integers and every list of texts, and leaves its arguments as they were; its one condition is the card's own: the variable wire.shifts holds what the program's text lays. -/
import Derived.Test.YtegbijkbkjancaaDoorWireRowBase
import Derived.Test.YtegbijkbkjancaaDoorWireC8
namespace Go.Proofs.YtegbijkbkjancaaDoor
open Go Go.Eng Go.RowKit Go.ChangeShapes Go.WideShapes Go.ChangeMaps

set_option maxRecDepth 100000 in
theorem wireSequence_lifted (os : Os) (started : os.Started) (H : Type) (enc : TypeId × Value → H) :
    ReturnsInHanded {} Tryd.checked os 6 .any (fun w args => (Rows.wireSequenceSpec.pre enc Tryd.prog Tryd.f6 [] false w args ∧ laidMet Tryd.prog Rows.wireSequenceRow.laid w) ∧ sizedMet enc Tryd.prog Tryd.f6 (OpenSpec.ofChange Rows.wireSequenceSpec) false w args)
      (Rows.wireSequenceSpec.post enc Tryd.prog Tryd.f6 false true false false) := by
  refine law_lift (C := Tryd.checked) (X := fun w => laidMet Tryd.prog Rows.wireSequenceRow.laid w) (tb := 4) own started (by kernel_rfl) Tryd.func6 laid_heap
    (ChangeSpec.witness_at (enc := enc) (C := Tryd.checked) (os := os) (X := fun w _ => laidMet Tryd.prog Rows.wireSequenceRow.laid w) false (laidW os) #[.slice none 0 0, .slice none 0 0] 8 rfl (by kernel_rfl) (by kernel_rfl) (by kernel_rfl) (by kernel_rfl) (by kernel_rfl) (laid_met os _))
    rfl (fun ds h => by rw [Tryd.params6] at h; match ds, h with | [_, _], _ => rfl) (by kernel_rfl) Tryd.underlying4 laidOut (by kernel_rfl) ?_
  intro W base args ds p hval hA hL
  rw [Tryd.params6] at hA hval
  obtain ⟨v0, vs0, d0, ds0, p0, q0, rfl, rfl, rfl, h0, r0⟩ := trodAll_cons hA
  obtain ⟨v1, vs1, d1, ds1, p1, q1, rfl, rfl, rfl, h1, r1⟩ := trodAll_cons r0
  obtain ⟨rfl, rfl, rfl⟩ := trodAll_nil r1
  obtain ⟨a0, _, c0, z0, rfl, rfl, m0, x0, w0⟩ := open_intsW (kd := .i64) Tryd.underlying24 Tryd.underlying3 (by kernel_rfl) (hval 0 24 v0 rfl rfl) h0
  obtain ⟨a1, _, c1, z1, rfl, rfl, m1, x1, w1⟩ := open_textsW Tryd.underlying40 Tryd.underlying9 (by kernel_rfl) (hval 1 40 v1 rfl rfl) h1
  exact Sequence_c (fun z hz => bounds_i64 (w0 z hz)) (tab_of_laid hL) x0 x1

theorem wireSequence_row : Rows.WireSequenceSaid :=
  OpenClaim.holds_of_wide 6 Tryd.f6 rfl rfl rfl rfl rfl rfl rfl ⟨rfl, rfl, rfl, rfl, rfl⟩ rfl rfl rfl rfl rfl (by kernel_rfl) Tryd.func6 (by kernel_rfl)
    (of_decide_eq_true (by kernel_rfl)) (by unfold Func.isWrapper; rw [if_neg (of_decide_eq_false (by kernel_rfl))]; exact ⟨rfl, rfl⟩)
    (fun os started H enc _ => wireSequence_lifted os started H enc)

theorem wireSequence_holds : Rows.WireSequenceCardSaid :=
  Claim7.holds_tied_plain_at .later [] [.data] true (true, "1ce63732c07309b12bcdeccb6ad96a12767082a7aedcb60ae613f87f52924860") false
    wireSequence_row (fun _ h => by cases h) (by kernel_rfl) (fun _ h => by cases h) wireSequence_row_tie rfl ⟨rfl, rfl⟩ (by kernel_rfl) rfl
    (fun f fn hf hfn => by
      obtain rfl : f = 6 := Option.some.inj ((show Tryd.prog.funcNamed "copydesk/copydesklaw01.WireSequence" = some 6 by kernel_rfl).symm.trans hf) |>.symm
      obtain rfl : fn = Tryd.f6 := (Option.some.inj (Tryd.func6.symm.trans hfn)).symm
      refine ⟨by kernel_rfl, fun j t ht => ?_⟩
      have hall : (Tryd.f6.params.toList.all fun t => Tryd.prog.wantsStandIn t == false) = true := by kernel_rfl
      have hm : t ∈ Tryd.f6.params.toList := by
        rw [← Array.getElem?_toList] at ht
        exact List.mem_of_getElem? ht
      exact (by simpa using List.all_eq_true.1 hall t hm : Tryd.prog.wantsStandIn t = false))
    (by kernel_rfl)
#print axioms wireSequence_holds
end Go.Proofs.YtegbijkbkjancaaDoor
