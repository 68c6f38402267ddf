/- 'DiskTwinsSaid' is proved: the Go function copydesklaw23.DiskTwins returns true at every input that can be read, and leaves its arguments as they were; no condition. -/
import Derived.Test.YtbbakbekhhgkgaaTwDiskRowBase
import Derived.Test.YtbbakbekhhgkgaaTwDiskC10
namespace Go.Proofs.Ytbbakbekhhgkgaa
open Go Go.Eng Go.RowKit Go.ChangeShapes Go.WideShapes Go.ChangeMaps

set_option maxRecDepth 100000 in
theorem diskTwins_lifted (os : Os) (started : os.Started) (H : Type) (enc : TypeId × Value → H) :
    ReturnsInHanded {} Try.checked os 10 .any (Rows.diskTwinsSpec.pre6 enc Try.prog Try.f10 [] false)
      (Rows.diskTwinsSpec.post enc Try.prog Try.f10 false true false false) := by
  refine law_lift0 (C := Try.checked) (tb := 4) own started (by kernel_rfl) Try.func10
    (ChangeSpec.witness6 (enc := enc) (C := Try.checked) (os := os) false ⟨#[], #[.int .i64 0, .slice none 0 0], []⟩ 8 (by kernel_rfl) (by kernel_rfl) (by kernel_rfl) (by kernel_rfl))
    rfl (fun ds h => by rw [Try.params10] at h; match ds, h with | [_, _], _ => rfl) (by kernel_rfl) Try.underlying4 laidOut (by kernel_rfl) ?_
  intro W base args ds p hval hA
  rw [Try.params10] at hA hval
  obtain ⟨v0, vs0, d0, ds0, p0, q0, rfl, rfl, rfl, h0, r0⟩ := trodAll_cons hA
  obtain ⟨v1, vs1, d1, ds1, p1, q1, rfl, rfl, rfl, h1, r1⟩ := trodAll_cons r0
  obtain ⟨rfl, rfl, rfl⟩ := trodAll_nil r1
  obtain ⟨a0, rfl, _, _, w0⟩ := open_int Try.underlying3 (hval 0 3 v0 rfl rfl) h0
  obtain ⟨l1, p1, c1, rfl, lc1, cm1, _, hw1⟩ := open_slice Try.underlying39 (show Try.prog.cellsOf 42 = 3 by kernel_rfl) (by decide) opn_WP (hval 1 39 v1 rfl rfl) h1
  exact Twins_c (b64 w0) hw1 (Nat.le_trans lc1 cm1)

theorem diskTwins_row : Rows.DiskTwinsSaid :=
  OpenClaim.holds_of_wide 10 Try.f10 rfl rfl rfl rfl rfl rfl rfl ⟨rfl, rfl, rfl, rfl, rfl⟩ rfl rfl rfl rfl rfl (by kernel_rfl) Try.func10 (by kernel_rfl)
    (of_decide_eq_true (by kernel_rfl)) (by unfold Func.isWrapper; rw [if_neg (of_decide_eq_false (by kernel_rfl))]; exact ⟨rfl, rfl⟩)
    (fun os started H enc _ => diskTwins_lifted os started H enc)

#print axioms diskTwins_row
end Go.Proofs.Ytbbakbekhhgkgaa
