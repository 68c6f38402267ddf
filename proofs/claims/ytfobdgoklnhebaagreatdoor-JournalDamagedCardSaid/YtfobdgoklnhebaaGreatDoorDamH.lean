/- A part of the proof. -/
import Derived.Test.YtfobdgoklnhebaaGreatDoorTie
import Derived.Test.YtfobdgoklnhebaaGreatDoorCards
import Derived.LaidHandle
import Derived.Test.YtfobdgoklnhebaaGreatDoorDamG
set_option linter.unusedVariables false
set_option linter.unusedSimpArgs false
set_option maxRecDepth 100000
namespace Go.Proofs.YtfobdgoklnhebaaGreatDoor
open Go Go.Eng Go.RowKit Go.ChangeShapes Go.WideShapes Go.ChangeMaps
theorem b64 {n : Int} (h : (Lit.int .i64 n).wf = true) : i64 n := bounds_i64 h
theorem b8 {n : Int} (h : (Lit.int .u8 n).wf = true) : 0 ≤ n ∧ n < 256 := by
 simp only [Lit.wf, Bool.and_eq_true, decide_eq_true_eq] at h
 have M : IntKind.min .u8 = 0 := rfl
 have O : IntKind.max .u8 = 255 := rfl
 omega
theorem own : ownKnob Tryz.prog.godebug = none := by kernel_rfl
theorem laidOut : laidOutB Tryz.prog = true := by kernel_rfl
theorem gShifts : Tryz.prog.globalNamed "copydesk/wire.shifts" = some 0 := by kernel_rfl
theorem gShiftsType : (Tryz.prog.globals[0]?).map (·.type) = some 186 := by kernel_rfl
abbrev laidL : List (String × DataW Unit) := [("unicode/utf8.acceptRanges", Rows.laid_unicode_utf8_acceptRanges), ("copydesk/wire.shifts", Rows.laid_copydesk_wire_shifts), ("unicode/utf8.first", Rows.laid_unicode_utf8_first)]
theorem laid_filter : (laidL.filter fun x => x.2.handleName?.isNone) = laidL := rfl
theorem laid_heap (w w' : World) (h : w.heap = w'.heap) (M : laidMetH Tryz.prog laidL w) : laidMetH Tryz.prog laidL w' := M.of_heap h
theorem var_blk {W : World} {n : String} {g : Nat} {c : List Value} (M : Tryz.prog.globalNamed n = some g) (h : W.var? Tryz.prog n = some ⟨c⟩) : blkW W g = some c := by
 unfold World.var? at h
 rw [M] at h
 simp only [Option.bind_some] at h
 unfold blkW
 split at h
 ·next c' t fz hh =>
  rw [hh]
  simp only [Option.some.injEq] at h
  simp only [h]
 ·cases h
theorem tab_of_laid {W : World} (h : laidMetH Tryz.prog laidL W) : blkW W 0 = some tabV := by
 have M : laidMet Tryz.prog laidL W := h
 obtain ⟨ps, ⟨_, _, _, _, _, _, _, _, _, _, ⟨g, t, cs, a2, p, q, Z, a0, a1, V, _, _⟩, _⟩, _⟩ := M
 obtain rfl := Option.some.inj (gShifts.symm.trans Z)
 obtain rfl := Option.some.inj (gShiftsType.symm.trans a0)
 have O := trod_ints (kd := .u32) (e := 184) (ns := Wire.shiftTab.map Int.ofNat) Tryz.underlying186 Tryz.underlying184 (by kernel_rfl) (by kernel_rfl) V
 have := var_blk gShifts (c := cs.toList) a1
 rw [this, O]
 rfl
def rangesV : List Value := [128, 191, 160, 191, 128, 159, 144, 191, 128, 143, 0, 0, 0, 0, 0, 0, 0, 0, 0, 0, 0, 0, 0, 0, 0, 0, 0, 0, 0, 0, 0, 0].map (Value.int .u8)
noncomputable def laidW (os : Os) : World :=
 let w0 := World.holding Tryz.prog os ⟨#[], #[], []⟩
 { w0 with heap := ((w0.heap.modify 3 fun
   | .cells _ t frozen => .cells ⟨rangesV⟩ t frozen
   | o => o).modify 0 fun
   | .cells _ t frozen => .cells ⟨tabV⟩ t frozen
   | o => o).modify 2 fun
   | .cells _ t frozen => .cells ⟨Go.Pinned.utf8FirstZ.map fun n : Nat => Value.int .u8 (n : Int)⟩ t frozen
   | o => o }
theorem laid_met0 (os : Os) (args : Array Value) : laidMet Tryz.prog laidL ((laidW os).forCall (fun _ _ => 0) ⟨#[], args, []⟩).memory :=
 laidMet_of_run (ps := (List.range 32).map (.cell 3 ·) ++ ((List.range 16).map (.cell 0 ·) ++ (List.range 256).map (.cell 2 ·))) 8 (by kernel_rfl) (by kernel_rfl) (by kernel_rfl)
theorem laid_met (os : Os) (args : Array Value) : laidMetH Tryz.prog laidL ((laidW os).forCall (fun _ _ => 0) ⟨#[], args, []⟩).memory :=
 laidMetH_of_parts (by rw [laid_filter]; exact laid_met0 os args) (by kernel_rfl)
end Go.Proofs.YtfobdgoklnhebaaGreatDoor
