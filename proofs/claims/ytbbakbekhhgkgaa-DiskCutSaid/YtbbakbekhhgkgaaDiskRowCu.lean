/- 'DiskCutSaid' is proved: the Go function copydesklaw23.DiskCut returns true at every input that can be read, and leaves its arguments as they were; no condition. -/
import Derived.Test.YtbbakbekhhgkgaaDiskRowBase
namespace Go.Proofs.Ytbbakbekhhgkgaa
open Go Go.Eng Go.RowKit Go.ChangeShapes Go.WideShapes Go.ChangeMaps

set_option maxRecDepth 100000 in
theorem diskCut_lifted (os : Os) (started : os.Started) (H : Type) (enc : TypeId × Value → H) :
    ReturnsInHanded {} Try.checked os 9 .any (Rows.diskCutSpec.pre6 enc Try.prog Try.f9 [] false)
      (Rows.diskCutSpec.post enc Try.prog Try.f9 false true false false) := by
  refine law_lift0 (C := Try.checked) (tb := 4) own started (by kernel_rfl) Try.func9
    (ChangeSpec.witness6 (enc := enc) (C := Try.checked) (os := os) false ⟨#[], #[.int .i64 0, .int .i64 0, .slice none 0 0], []⟩ 8 (by kernel_rfl) (by kernel_rfl) (by kernel_rfl) (by kernel_rfl))
    rfl (fun ds h => by rw [Try.params9] at h; match ds, h with | [_, _, _], _ => rfl) (by kernel_rfl) Try.underlying4 laidOut (by kernel_rfl) ?_
  intro W base args ds p hval hA
  rw [Try.params9] at hA hval
  obtain ⟨v0, vs0, d0, ds0, p0, q0, rfl, rfl, rfl, h0, r0⟩ := trodAll_cons hA
  obtain ⟨v1, vs1, d1, ds1, p1, q1, rfl, rfl, rfl, h1, r1⟩ := trodAll_cons r0
  obtain ⟨v2, vs2, d2, ds2, p2, q2, rfl, rfl, rfl, h2, r2⟩ := trodAll_cons r1
  obtain ⟨rfl, rfl, rfl⟩ := trodAll_nil r2
  obtain ⟨a0, rfl, _, _, w0⟩ := open_int Try.underlying3 (hval 0 3 v0 rfl rfl) h0
  obtain ⟨a1, rfl, _, _, w1⟩ := open_int Try.underlying3 (hval 1 3 v1 rfl rfl) h1
  obtain ⟨l2, p2, c2, rfl, lc2, cm2, _, hw2⟩ := open_slice Try.underlying39 (show Try.prog.cellsOf 42 = 3 by kernel_rfl) (by decide) opn_WP (hval 2 39 v2 rfl rfl) h2
  exact Cut_c (b64 w0) (b64 w1) hw2 (Nat.le_trans lc2 cm2)

theorem diskCut_row : Rows.DiskCutSaid :=
  OpenClaim.holds_of_wide 9 Try.f9 rfl rfl rfl rfl rfl rfl rfl ⟨rfl, rfl, rfl, rfl, rfl⟩ rfl rfl rfl rfl rfl (by kernel_rfl) Try.func9 (by kernel_rfl)
    (of_decide_eq_true (by kernel_rfl)) (by unfold Func.isWrapper; rw [if_neg (of_decide_eq_false (by kernel_rfl))]; exact ⟨rfl, rfl⟩)
    (fun os started H enc _ => diskCut_lifted os started H enc)

#print axioms diskCut_row
end Go.Proofs.Ytbbakbekhhgkgaa
