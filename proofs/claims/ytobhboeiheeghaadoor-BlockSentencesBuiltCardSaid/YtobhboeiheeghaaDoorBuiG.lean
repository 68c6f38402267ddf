/- A part of the proof: the engine by which functions are walked, verification conditions that a program of the prover wrote, contracts and plain laws; no claim of its own. -/
import Derived.Test.YtobhboeiheeghaaDoorTie
import Derived.Test.YtobhboeiheeghaaDoorCards
import Derived.LaidHandle
import Derived.Test.YtobhboeiheeghaaDoorBuiF
namespace Go.Proofs.YtobhboeiheeghaaDoor
open Go Go.Eng Go.RowKit Go.ChangeShapes Go.WideShapes Go.ChangeMaps
theorem own : ownKnob Tryd.prog.godebug = none := by kernel_rfl
theorem laidOut : laidOutB Tryd.prog = true := by kernel_rfl
abbrev laidL : List (String × DataW Unit) := [("unicode/utf8.acceptRanges", Rows.laid_unicode_utf8_acceptRanges), ("unicode/utf8.first", Rows.laid_unicode_utf8_first)]
theorem laid_filter : (laidL.filter fun x => x.2.handleName?.isNone) = laidL := rfl
theorem laid_heap (w w' : World) (h : w.heap = w'.heap) (hl : laidMetH Tryd.prog laidL w) : laidMetH Tryd.prog laidL w' := hl.of_heap h
def rangesV : List Value := [128, 191, 160, 191, 128, 159, 144, 191, 128, 143, 0, 0, 0, 0, 0, 0, 0, 0, 0, 0, 0, 0, 0, 0, 0, 0, 0, 0, 0, 0, 0, 0].map (Value.int .u8)
noncomputable def laidW (os : Os) : World :=
  let w0 := World.holding Tryd.prog os ⟨#[], #[], []⟩
  { w0 with heap := (w0.heap.modify 2 fun
      | .cells _ t frozen => .cells ⟨rangesV⟩ t frozen
      | o => o).modify 1 fun
      | .cells _ t frozen => .cells ⟨Go.Pinned.utf8FirstZ.map fun n : Nat => Value.int .u8 (n : Int)⟩ t frozen
      | o => o }
theorem laid_met0 (os : Os) (args : Array Value) : laidMet Tryd.prog laidL ((laidW os).forCall (fun _ _ => 0) ⟨#[], args, []⟩).memory :=
  laidMet_of_run (ps := (List.range 32).map (.cell 2 ·) ++ (List.range 256).map (.cell 1 ·)) 8 (by kernel_rfl) (by kernel_rfl) (by kernel_rfl)
theorem laid_met (os : Os) (args : Array Value) : laidMetH Tryd.prog laidL ((laidW os).forCall (fun _ _ => 0) ⟨#[], args, []⟩).memory :=
  laidMetH_of_parts (by rw [laid_filter]; exact laid_met0 os args) (by kernel_rfl)
theorem ints_of {w : World} {p : Option Addr} {l : List Int} (h : SlAt (lkW w) 1 (intP .i64) p l) : IntsL (lkW w) p l := by
  intro hp
  obtain ⟨b, o, c, h1, h2, h3⟩ := h hp
  refine ⟨b, o, c, h1, h2, fun i hi => ?_⟩
  obtain ⟨_, h5, _⟩ := h3 i hi
  have : ((c.drop (o + i * 1)).take 1)[0]? = some (.int .i64 l[i]) := by rw [h5]; rfl
  rw [List.getElem?_take_of_lt (by decide), List.getElem?_drop] at this
  simpa using this
set_option maxRecDepth 100000 in
theorem open_Ints {H : Type} {enc : TypeId × Value → H} {w : World} {r : Reach} {b0 : Nat} {v : Value} {d : DataW H} {ps : List MemPlace} (hval : Value.okWide Tryd.prog w r b0 22 v) (hd : DataW.Trod enc Tryd.prog w 0 (fun _ => true) true 22 v d ps) :
    ∃ (l : List Int) (p : Option Addr) (c : Nat), v = .slice p l.length c ∧ IntsL (lkW w) p l ∧ (∀ n ∈ l, (Lit.int .i64 n).wf = true) ∧ l.length ≤ 9223372036854775807 := by
  obtain ⟨l, p, c, rfl, h1, h2, _, h⟩ := open_slice (sz := 1) Tryd.underlying22 (by kernel_rfl) (by decide) (opn_int (kd := .i64) Tryd.underlying3) hval hd
  refine ⟨l, p, c, rfl, ints_of h, fun n hn => ?_, Nat.le_trans h1 (Nat.le_trans h2 (by decide))⟩
  obtain ⟨i, hi, rfl⟩ := List.getElem_of_mem hn
  obtain ⟨b, o, cs, _, _, h3⟩ := h (by omega)
  exact (h3 i hi).2.2
end Go.Proofs.YtobhboeiheeghaaDoor
