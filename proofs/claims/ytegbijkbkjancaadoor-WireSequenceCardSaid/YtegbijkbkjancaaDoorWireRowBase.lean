/- Contracts and plain laws for the proof; no claim of its own. -/
import Derived.Test.YtegbijkbkjancaaDoorTie
import Derived.Test.YtegbijkbkjancaaDoorCards
import Derived.Test.YtegbijkbkjancaaDoorEngOpen
import Derived.Test.YtegbijkbkjancaaDoorWireC5
namespace Go.Proofs.YtegbijkbkjancaaDoor
open Go Go.Eng Go.RowKit Go.ChangeShapes Go.WideShapes Go.ChangeMaps

theorem own : ownKnob Tryd.prog.godebug = none := by kernel_rfl
theorem gShifts : Tryd.prog.globalNamed "copydesk/wire.shifts" = some 0 := by kernel_rfl
theorem gShiftsType : (Tryd.prog.globals[0]?).map (·.type) = some 53 := by kernel_rfl
theorem laidOut : laidOutB Tryd.prog = true := by kernel_rfl

theorem tab_of_laid {W : World} (h : laidMet Tryd.prog [("copydesk/wire.shifts", Rows.laid_copydesk_wire_shifts)] W) : blkW W 0 = some tabV := by
  obtain ⟨ps, ⟨g, t, cs, fuel, p, q, hg, ht, hvar, hd, _, _⟩, _⟩ := h
  obtain rfl := Option.some.inj (gShifts.symm.trans hg)
  obtain rfl := Option.some.inj (gShiftsType.symm.trans ht)
  have hcs := trod_ints (kd := .u32) (e := 43) (ns := Wire.shiftTab.map Int.ofNat) Tryd.underlying53 Tryd.underlying43 (by kernel_rfl) (by kernel_rfl) hd
  unfold World.var? at hvar
  rw [gShifts] at hvar
  simp only [Option.bind_some] at hvar
  unfold blkW
  split at hvar
  · next c t fz hh =>
    rw [hh]
    simp only [Option.some.injEq] at hvar
    simp only [hvar, hcs]
    rfl
  · cases hvar
theorem laid_heap (w w' : World) (h : w.heap = w'.heap) (hl : laidMet Tryd.prog [("copydesk/wire.shifts", Rows.laid_copydesk_wire_shifts)] w) : laidMet Tryd.prog [("copydesk/wire.shifts", Rows.laid_copydesk_wire_shifts)] w' := hl.of_heap h

noncomputable def laidW (os : Os) : World :=
  let w0 := World.holding Tryd.prog os ⟨#[], #[], []⟩
  { w0 with heap := w0.heap.modify 0 fun
      | .cells _ t frozen => .cells ⟨tabV⟩ t frozen
      | o => o }
theorem laid_met (os : Os) (args : Array Value) : laidMet Tryd.prog [("copydesk/wire.shifts", Rows.laid_copydesk_wire_shifts)] ((laidW os).forCall (fun _ _ => 0) ⟨#[], args, []⟩).memory :=
  laidMet_of_run (ps := (List.range 16).map (.cell 0 ·)) 8 (by kernel_rfl) (by kernel_rfl) (by kernel_rfl)

end Go.Proofs.YtegbijkbkjancaaDoor
