/- A part of the proof: the engine by which functions are walked, verification conditions that a program of the prover wrote, contracts and plain laws; no claim of its own. -/
import Derived.Test.YtombejccmojjbaaGreatDoorTie
import Derived.Test.YtombejccmojjbaaGreatDoorCards
import Derived.LaidHandle
import Derived.Test.YtombejccmojjbaaGreatDoorLisG
namespace Go.Proofs.YtombejccmojjbaaGreatDoor
open Go Go.Eng Go.RowKit Go.ChangeShapes Go.WideShapes Go.ChangeMaps
theorem own : ownKnob Tryz.prog.godebug = none := by kernel_rfl
theorem laidOut : laidOutB Tryz.prog = true := by kernel_rfl
abbrev laidL : List (String × DataW Unit) := [("unicode/utf8.acceptRanges", Rows.laid_unicode_utf8_acceptRanges), ("unicode/utf8.first", Rows.laid_unicode_utf8_first)]
theorem laid_filter : (laidL.filter fun x => x.2.handleName?.isNone) = laidL := rfl
theorem laid_heap (w w' : World) (h : w.heap = w'.heap) (hl : laidMetH Tryz.prog laidL w) : laidMetH Tryz.prog laidL w' := hl.of_heap h
def rangesV : List Value := [128, 191, 160, 191, 128, 159, 144, 191, 128, 143, 0, 0, 0, 0, 0, 0, 0, 0, 0, 0, 0, 0, 0, 0, 0, 0, 0, 0, 0, 0, 0, 0].map (Value.int .u8)
noncomputable def laidW (os : Os) : World :=
  let w0 := World.holding Tryz.prog os ⟨#[], #[], []⟩
  { w0 with heap := (w0.heap.modify 3 fun
      | .cells _ t frozen => .cells ⟨rangesV⟩ t frozen
      | o => o).modify 2 fun
      | .cells _ t frozen => .cells ⟨Go.Pinned.utf8FirstZ.map fun n : Nat => Value.int .u8 (n : Int)⟩ t frozen
      | o => o }
theorem laid_met0 (os : Os) (args : Array Value) : laidMet Tryz.prog laidL ((laidW os).forCall (fun _ _ => 0) ⟨#[], args, []⟩).memory :=
  laidMet_of_run (ps := (List.range 32).map (.cell 3 ·) ++ (List.range 256).map (.cell 2 ·)) 8 (by kernel_rfl) (by kernel_rfl) (by kernel_rfl)
theorem laid_met (os : Os) (args : Array Value) : laidMetH Tryz.prog laidL ((laidW os).forCall (fun _ _ => 0) ⟨#[], args, []⟩).memory :=
  laidMetH_of_parts (by rw [laid_filter]; exact laid_met0 os args) (by kernel_rfl)
end Go.Proofs.YtombejccmojjbaaGreatDoor
