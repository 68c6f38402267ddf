/- Contracts and plain laws for the proof; no claim of its own. -/
import Derived.Test.YtbbakbekhhgkgaaRows
import Derived.Test.YtbbakbekhhgkgaaTwEngLaw0
import Derived.Test.YtbbakbekhhgkgaaTwDiskC9
namespace Go.Proofs.Ytbbakbekhhgkgaa
open Go Go.Eng Go.RowKit Go.ChangeShapes Go.WideShapes Go.ChangeMaps

theorem own : ownKnob Try.prog.godebug = none := by kernel_rfl
theorem laidOut : laidOutB Try.prog = true := by kernel_rfl
theorem b64 {n : Int} (h : (Lit.int .i64 n).wf = true) : i64 n := bounds_i64 h

theorem opn_WP {H : Type} {enc : TypeId × Value → H} {w : World} : Opn enc Try.prog w 42 wpP := by
  intro fuel cs x h
  have hl := opn_len Try.underlying42 h (n := 3) (by kernel_rfl)
  obtain ⟨a, ha, hw⟩ := opn_field Try.underlying42 h 0 3 0 1 rfl (by kernel_rfl) (opn_int (kd := .i64) Try.underlying3)
  obtain ⟨b, hb, _⟩ := opn_field Try.underlying42 h 1 9 1 1 rfl (by kernel_rfl) (opn_string Try.underlying9)
  obtain ⟨c, hc⟩ := opn_field Try.underlying42 h 2 4 2 1 rfl (by kernel_rfl) (opn_bool Try.underlying4)
  match cs, hl with
  | [x, y, z], _ =>
    simp only [boolP, List.drop_zero, List.drop_succ_cons, List.take_succ_cons, List.take_zero, List.cons.injEq, and_true] at ha hb hc
    exact ⟨⟨a, b, c⟩, by rw [ha, hb, hc], b64 hw⟩
end Go.Proofs.Ytbbakbekhhgkgaa
