/- 'DiskNilSaid' is proved: the Go function copydesklaw23.DiskNil returns true at every input that can be read, and leaves its arguments as they were; no condition. -/
import Derived.Test.YtbbakbekhhgkgaaDiskRowBase
namespace Go.Proofs.Ytbbakbekhhgkgaa
open Go Go.Eng Go.RowKit Go.ChangeShapes Go.WideShapes Go.ChangeMaps

set_option maxRecDepth 100000 in
theorem diskNil_lifted (os : Os) (started : os.Started) (H : Type) (enc : TypeId × Value → H) :
    ReturnsInHanded {} Try.checked os 4 .any (Rows.diskNilSpec.pre6 enc Try.prog Try.f4 [] false)
      (Rows.diskNilSpec.post enc Try.prog Try.f4 false true false false) := by
  refine law_lift0 (C := Try.checked) (tb := 4) own started (by kernel_rfl) Try.func4
    (ChangeSpec.witness6 (enc := enc) (C := Try.checked) (os := os) false ⟨#[], #[.int .i64 0, .int .i64 0, .string ⟨#[]⟩, .slice none 0 0], []⟩ 8 (by kernel_rfl) (by kernel_rfl) (by kernel_rfl) (by kernel_rfl))
    rfl (fun ds h => by rw [Try.params4] at h; match ds, h with | [_, _, _, _], _ => rfl) (by kernel_rfl) Try.underlying4 laidOut (by kernel_rfl) ?_
  intro W base args ds p hval hA
  rw [Try.params4] at hA hval
  obtain ⟨v0, vs0, d0, ds0, p0, q0, rfl, rfl, rfl, h0, r0⟩ := trodAll_cons hA
  obtain ⟨v1, vs1, d1, ds1, p1, q1, rfl, rfl, rfl, h1, r1⟩ := trodAll_cons r0
  obtain ⟨v2, vs2, d2, ds2, p2, q2, rfl, rfl, rfl, h2, r2⟩ := trodAll_cons r1
  obtain ⟨v3, vs3, d3, ds3, p3, q3, rfl, rfl, rfl, h3, r3⟩ := trodAll_cons r2
  obtain ⟨rfl, rfl, rfl⟩ := trodAll_nil r3
  obtain ⟨a0, rfl, _, _, w0⟩ := open_int Try.underlying3 (hval 0 3 v0 rfl rfl) h0
  obtain ⟨a1, rfl, _, _, w1⟩ := open_int Try.underlying3 (hval 1 3 v1 rfl rfl) h1
  obtain ⟨a2, rfl, _, _, w2⟩ := open_string Try.underlying9 (hval 2 9 v2 rfl rfl) h2
  obtain ⟨l3, p3, c3, rfl, lc3, cm3, _, hw3⟩ := open_slice Try.underlying32 (show Try.prog.cellsOf 3 = 1 by kernel_rfl) (by decide) (opn_int (kd := .i64) Try.underlying3) (hval 3 32 v3 rfl rfl) h3
  exact Nil_c a0 a1 a2 p3 l3.length c3 lc3 W

theorem diskNil_row : Rows.DiskNilSaid :=
  OpenClaim.holds_of_wide 4 Try.f4 rfl rfl rfl rfl rfl rfl rfl ⟨rfl, rfl, rfl, rfl, rfl⟩ rfl rfl rfl rfl rfl (by kernel_rfl) Try.func4 (by kernel_rfl)
    (of_decide_eq_true (by kernel_rfl)) (by unfold Func.isWrapper; rw [if_neg (of_decide_eq_false (by kernel_rfl))]; exact ⟨rfl, rfl⟩)
    (fun os started H enc _ => diskNil_lifted os started H enc)

#print axioms diskNil_row
end Go.Proofs.Ytbbakbekhhgkgaa
