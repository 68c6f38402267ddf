/- 'WireUniqueCardSaid' is proved: the Go function copydesklaw01.WireUnique returns true at every text, offset and first byte, and leaves its arguments as they were; its one condition is the card's own: the variable wire.shifts holds what the program's text lays. -/
import Derived.Test.YtegbijkbkjancaaDoorWireRowBase
import Derived.Test.YtegbijkbkjancaaDoorWireC7
namespace Go.Proofs.YtegbijkbkjancaaDoor
open Go Go.Eng Go.RowKit Go.ChangeShapes Go.WideShapes Go.ChangeMaps

set_option maxRecDepth 100000 in
theorem wireUnique_lifted (os : Os) (started : os.Started) (H : Type) (enc : TypeId × Value → H) :
    ReturnsInHanded {} Tryd.checked os 5 .any (fun w args => (Rows.wireUniqueSpec.pre enc Tryd.prog Tryd.f5 [] false w args ∧ laidMet Tryd.prog Rows.wireUniqueRow.laid w) ∧ sizedMet enc Tryd.prog Tryd.f5 (OpenSpec.ofChange Rows.wireUniqueSpec) false w args)
      (Rows.wireUniqueSpec.post enc Tryd.prog Tryd.f5 false true false false) := by
  refine law_lift (C := Tryd.checked) (X := fun w => laidMet Tryd.prog Rows.wireUniqueRow.laid w) (tb := 4) own started (by kernel_rfl) Tryd.func5 laid_heap
    (ChangeSpec.witness_at (enc := enc) (C := Tryd.checked) (os := os) (X := fun w _ => laidMet Tryd.prog Rows.wireUniqueRow.laid w) false (laidW os) #[.string ⟨#[]⟩, .int .i64 0, .int .u8 0] 8 rfl (by kernel_rfl) (by kernel_rfl) (by kernel_rfl) (by kernel_rfl) (by kernel_rfl) (laid_met os _))
    rfl (fun ds h => by rw [Tryd.params5] at h; match ds, h with | [_, _, _], _ => rfl) (by kernel_rfl) Tryd.underlying4 laidOut (by kernel_rfl) ?_
  intro W base args ds p hval hA hL
  rw [Tryd.params5] at hA hval
  obtain ⟨v0, vs0, d0, ds0, p0, q0, rfl, rfl, rfl, h0, r0⟩ := trodAll_cons hA
  obtain ⟨v1, vs1, d1, ds1, p1, q1, rfl, rfl, rfl, h1, r1⟩ := trodAll_cons r0
  obtain ⟨v2, vs2, d2, ds2, p2, q2, rfl, rfl, rfl, h2, r2⟩ := trodAll_cons r1
  obtain ⟨rfl, rfl, rfl⟩ := trodAll_nil r2
  obtain ⟨a0, rfl, _, _, w0⟩ := open_string Tryd.underlying9 (hval 0 9 v0 rfl rfl) h0
  obtain ⟨a1, rfl, _, _, w1⟩ := open_int Tryd.underlying3 (hval 1 3 v1 rfl rfl) h1
  obtain ⟨a2, rfl, _, _, w2⟩ := open_int Tryd.underlying5 (hval 2 5 v2 rfl rfl) h2
  exact Unique_c a0 a1 a2 (bounds_i64 w1) (bounds_u8 w2) W (tab_of_laid hL)

theorem wireUnique_row : Rows.WireUniqueSaid :=
  OpenClaim.holds_of_wide 5 Tryd.f5 rfl rfl rfl rfl rfl rfl rfl ⟨rfl, rfl, rfl, rfl, rfl⟩ rfl rfl rfl rfl rfl (by kernel_rfl) Tryd.func5 (by kernel_rfl)
    (of_decide_eq_true (by kernel_rfl)) (by unfold Func.isWrapper; rw [if_neg (of_decide_eq_false (by kernel_rfl))]; exact ⟨rfl, rfl⟩)
    (fun os started H enc _ => wireUnique_lifted os started H enc)

theorem wireUnique_holds : Rows.WireUniqueCardSaid :=
  Claim7.holds_tied_plain_at .later [] [.data] true (true, "1ce63732c07309b12bcdeccb6ad96a12767082a7aedcb60ae613f87f52924860") false
    wireUnique_row (fun _ h => by cases h) (by kernel_rfl) (fun _ h => by cases h) wireUnique_row_tie rfl ⟨rfl, rfl⟩ (by kernel_rfl) rfl
    (fun f fn hf hfn => by
      obtain rfl : f = 5 := Option.some.inj ((show Tryd.prog.funcNamed "copydesk/copydesklaw01.WireUnique" = some 5 by kernel_rfl).symm.trans hf) |>.symm
      obtain rfl : fn = Tryd.f5 := (Option.some.inj (Tryd.func5.symm.trans hfn)).symm
      refine ⟨by kernel_rfl, fun j t ht => ?_⟩
      have hall : (Tryd.f5.params.toList.all fun t => Tryd.prog.wantsStandIn t == false) = true := by kernel_rfl
      have hm : t ∈ Tryd.f5.params.toList := by
        rw [← Array.getElem?_toList] at ht
        exact List.mem_of_getElem? ht
      exact (by simpa using List.all_eq_true.1 hall t hm : Tryd.prog.wantsStandIn t = false))
    (by kernel_rfl)
#print axioms wireUnique_holds
end Go.Proofs.YtegbijkbkjancaaDoor
