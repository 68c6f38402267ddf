/- A part of the proof: the engine by which functions are walked, verification conditions that a program of the prover wrote, contracts and plain laws; no claim of its own. -/
import Derived.Test.YtobhboeiheeghaaDoorTie
import Derived.Test.YtobhboeiheeghaaDoorCards
import Derived.LaidHandle
import Derived.Test.YtobhboeiheeghaaDoorLinF
namespace Go.Proofs.YtobhboeiheeghaaDoor
open Go Go.Eng Go.RowKit Go.ChangeShapes Go.WideShapes Go.ChangeMaps
theorem own : ownKnob Tryd.prog.godebug = none := by kernel_rfl
theorem laidOut : laidOutB Tryd.prog = true := by kernel_rfl
abbrev laidL : List (String × DataW Unit) := [("unicode/utf8.acceptRanges", Rows.laid_unicode_utf8_acceptRanges), ("unicode/utf8.first", Rows.laid_unicode_utf8_first)]
theorem laid_filter : (laidL.filter fun x => x.2.handleName?.isNone) = laidL := rfl
theorem laid_heap (w w' : World) (h : w.heap = w'.heap) (hl : laidMetH Tryd.prog laidL w) : laidMetH Tryd.prog laidL w' := hl.of_heap h
def rangesV : List Value := [128, 191, 160, 191, 128, 159, 144, 191, 128, 143, 0, 0, 0, 0, 0, 0, 0, 0, 0, 0, 0, 0, 0, 0, 0, 0, 0, 0, 0, 0, 0, 0].map (Value.int .u8)
noncomputable def laidW (os : Os) : World :=
  let w0 := World.holding Tryd.prog os ⟨#[], #[], []⟩
  { w0 with heap := (w0.heap.modify 2 fun
      | .cells _ t frozen => .cells ⟨rangesV⟩ t frozen
      | o => o).modify 1 fun
      | .cells _ t frozen => .cells ⟨Go.Pinned.utf8FirstZ.map fun n : Nat => Value.int .u8 (n : Int)⟩ t frozen
      | o => o }
theorem laid_met0 (os : Os) (args : Array Value) : laidMet Tryd.prog laidL ((laidW os).forCall (fun _ _ => 0) ⟨#[], args, []⟩).memory :=
  laidMet_of_run (ps := (List.range 32).map (.cell 2 ·) ++ (List.range 256).map (.cell 1 ·)) 8 (by kernel_rfl) (by kernel_rfl) (by kernel_rfl)
theorem laid_met (os : Os) (args : Array Value) : laidMetH Tryd.prog laidL ((laidW os).forCall (fun _ _ => 0) ⟨#[], args, []⟩).memory :=
  laidMetH_of_parts (by rw [laid_filter]; exact laid_met0 os args) (by kernel_rfl)
theorem ints_of {w : World} {p : Option Addr} {l : List Int} (h : SlAt (lkW w) 1 (intP .i64) p l) : IntsL (lkW w) p l := by
  intro hp
  obtain ⟨b, o, c, h1, h2, h3⟩ := h hp
  refine ⟨b, o, c, h1, h2, fun i hi => ?_⟩
  obtain ⟨_, h5, _⟩ := h3 i hi
  have : ((c.drop (o + i * 1)).take 1)[0]? = some (.int .i64 l[i]) := by rw [h5]; rfl
  rw [List.getElem?_take_of_lt (by decide), List.getElem?_drop] at this
  simpa using this
def labP (w : World) (cs : List Value) (l : Lab) : Prop := ∃ p c, cs = l.cells p c ∧ IntsL (lkW w) p l.after ∧ l.after.length ≤ 9223372036854775807
theorem opn_Lab {H : Type} {enc : TypeId × Value → H} {w : World} : Opn enc Tryd.prog w 24 (labP w) := by
  intro fuel cs x h
  have hl := opn_len Tryd.underlying24 h (n := 4) (by kernel_rfl)
  obtain ⟨a0, h0, _⟩ := opn_field Tryd.underlying24 h 0 3 0 1 rfl (by kernel_rfl) (opn_int (kd := .i64) Tryd.underlying3)
  obtain ⟨a1, p, n, c, h1, e1, e2, e3, _, h5⟩ := opn_field Tryd.underlying24 h 1 22 1 1 rfl (by kernel_rfl) (opn_slice (sz := 1) Tryd.underlying22 (by kernel_rfl) (by decide) (opn_int (kd := .i64) Tryd.underlying3))
  obtain ⟨a2, h2, _⟩ := opn_field Tryd.underlying24 h 2 3 2 1 rfl (by kernel_rfl) (opn_int (kd := .i64) Tryd.underlying3)
  obtain ⟨a3, h3, _⟩ := opn_field Tryd.underlying24 h 3 3 3 1 rfl (by kernel_rfl) (opn_int (kd := .i64) Tryd.underlying3)
  match cs, hl with
  | [c0, c1, c2, c3], _ =>
    simp only [List.drop_zero, List.drop_succ_cons, List.take_succ_cons, List.take_zero, List.cons.injEq, and_true] at h0 h1 h2 h3
    subst h0 h1 h2 h3 e1
    exact ⟨⟨a0, a1, a2, a3⟩, p, c, rfl, ints_of h5, Nat.le_trans e2 (Nat.le_trans e3 (by decide))⟩
theorem opn_Blk {H : Type} {enc : TypeId × Value → H} {w : World} : Opn enc Tryd.prog w 26 (BlkL (lkW w)) := by
  intro fuel cs x h
  have hl := opn_len Tryd.underlying26 h (n := 9) (by kernel_rfl)
  obtain ⟨a0, h0, _⟩ := opn_field Tryd.underlying26 h 0 3 0 1 rfl (by kernel_rfl) (opn_int (kd := .i64) Tryd.underlying3)
  obtain ⟨a1, h1, _⟩ := opn_field Tryd.underlying26 h 1 3 1 1 rfl (by kernel_rfl) (opn_int (kd := .i64) Tryd.underlying3)
  obtain ⟨a2, h2, e2⟩ := opn_field Tryd.underlying26 h 2 9 2 1 rfl (by kernel_rfl) (opn_string Tryd.underlying9)
  obtain ⟨a3, h3, _⟩ := opn_field Tryd.underlying26 h 3 3 3 1 rfl (by kernel_rfl) (opn_int (kd := .i64) Tryd.underlying3)
  obtain ⟨a4, h4, _⟩ := opn_field Tryd.underlying26 h 4 3 4 1 rfl (by kernel_rfl) (opn_int (kd := .i64) Tryd.underlying3)
  obtain ⟨a5, p, c, h5, e5, e6⟩ := opn_field Tryd.underlying26 h 5 24 5 4 rfl (by kernel_rfl) opn_Lab
  match cs, hl with
  | [c0, c1, c2, c3, c4, c5, c6, c7, c8], _ =>
    simp only [List.drop_zero, List.drop_succ_cons, List.take_succ_cons, List.take_zero, List.cons.injEq, and_true] at h0 h1 h2 h3 h4 h5
    obtain ⟨rfl, rfl, rfl, rfl⟩ := h5
    subst h0 h1 h2 h3 h4
    exact ⟨⟨a0, a1, a2, a3, a4, a5⟩, p, c, rfl, e5, Nat.le_trans e2 (by decide), e6⟩
set_option maxRecDepth 100000 in
theorem open_Blks {H : Type} {enc : TypeId × Value → H} {w : World} {r : Reach} {b0 : Nat} {v : Value} {d : DataW H} {ps : List MemPlace} (hval : Value.okWide Tryd.prog w r b0 27 v) (hd : DataW.Trod enc Tryd.prog w 0 (fun _ => true) true 27 v d ps) :
    ∃ (l : List Blk) (p : Option Addr) (c : Nat), v = .slice p l.length c ∧ BlksL (lkW w) p l := by
  obtain ⟨l, p, c, rfl, _, _, _, h⟩ := open_slice (sz := 9) Tryd.underlying27 (by kernel_rfl) (by decide) opn_Blk hval hd
  exact ⟨l, p, c, rfl, h⟩
end Go.Proofs.YtobhboeiheeghaaDoor
