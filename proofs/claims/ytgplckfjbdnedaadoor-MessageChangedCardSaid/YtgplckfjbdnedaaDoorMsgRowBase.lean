/- Contracts and plain laws for the proof; no claim of its own. -/
import Derived.Test.YtgplckfjbdnedaaDoorTie
import Derived.Test.YtgplckfjbdnedaaDoorCards
import Derived.LaidHandle
import Derived.Test.YtgplckfjbdnedaaDoorEngOpen
import Derived.Test.YtgplckfjbdnedaaDoorEngData
import Derived.Test.YtgplckfjbdnedaaDoorMsgC7
namespace Go.Proofs.YtgplckfjbdnedaaDoor
open Go Go.Eng Go.RowKit Go.ChangeShapes Go.WideShapes Go.ChangeMaps

theorem own : ownKnob Tryd.prog.godebug = none := by kernel_rfl
theorem gShifts : Tryd.prog.globalNamed "copydesk/wire.shifts" = some 0 := by kernel_rfl
theorem gShiftsType : (Tryd.prog.globals[0]?).map (·.type) = some 63 := by kernel_rfl
theorem gErr : Tryd.prog.globalNamed "errors.errorType" = some 1 := by kernel_rfl
theorem laidOut : laidOutB Tryd.prog = true := by kernel_rfl
theorem rtypeRow : (Tryd.prog.cutTypes.find? (·.1 == "internal/reflectlite.rtype")).map (·.2) = some 79 := by kernel_rfl
theorem oneRow : ((List.range 121).filter fun t => Tryd.prog.rowNamed t [101, 114, 114, 111, 114]) = [48] := by kernel_rfl
theorem typesSize : Tryd.prog.types.size = 121 := by kernel_rfl

abbrev laidL : List (String × DataW Unit) := [("errors.errorType", Rows.laid_errors_errorType), ("copydesk/wire.shifts", Rows.laid_copydesk_wire_shifts)]

theorem var_blk {W : World} {n : String} {g : Nat} {c : List Value} (hg : Tryd.prog.globalNamed n = some g) (h : W.var? Tryd.prog n = some ⟨c⟩) : blkW W g = some c := by
  unfold World.var? at h
  rw [hg] at h
  simp only [Option.bind_some] at h
  unfold blkW
  split at h
  · next c' t fz hh =>
    rw [hh]
    simp only [Option.some.injEq] at h
    simp only [h]
  · cases h

theorem msg_of_laid {W : World} (h : laidMetH Tryd.prog laidL W) : MsgG W := by
  have h' : laidMet Tryd.prog [("copydesk/wire.shifts", Rows.laid_copydesk_wire_shifts)] W ∧ handlesMet Tryd.prog [("errors.errorType", Rows.laid_errors_errorType)] W := h
  refine ⟨?_, ?_⟩
  · obtain ⟨ps, ⟨g, t, cs, fuel, p, q, hg, ht, hvar, hd, _, _⟩, _⟩ := h'.1
    obtain rfl := Option.some.inj (gShifts.symm.trans hg)
    obtain rfl := Option.some.inj (gShiftsType.symm.trans ht)
    have hcs := trod_ints (kd := .u32) (e := 61) (ns := Wire.shiftTab.map Int.ofNat) Tryd.underlying63 Tryd.underlying61 (by kernel_rfl) (by kernel_rfl) hd
    have := var_blk gShifts (c := cs.toList) hvar
    rw [this, hcs]
    rfl
  · obtain ⟨name, u, ty, e1, e2, e3, e4, e5⟩ := h'.2 _ (List.mem_singleton.2 rfl)
    have en : name = [101, 114, 114, 111, 114] := (Option.some.inj e1).symm
    subst en
    obtain rfl := Option.some.inj (rtypeRow.symm.trans e2)
    have hm : ty ∈ (List.range 121).filter fun t => Tryd.prog.rowNamed t [101, 114, 114, 111, 114] := List.mem_filter.2 ⟨List.mem_range.2 (by rw [← typesSize]; exact e3), e4⟩
    rw [oneRow] at hm
    obtain rfl := List.mem_singleton.1 hm
    have hh : typeHandle Tryd.prog 48 = .pointer (some ⟨2, 48, none⟩) := by kernel_rfl
    rw [hh] at e5
    exact var_blk gErr e5
theorem laid_heap (w w' : World) (h : w.heap = w'.heap) (hl : laidMetH Tryd.prog laidL w) : laidMetH Tryd.prog laidL w' := hl.of_heap h

noncomputable def laidW (os : Os) : World :=
  let w0 := World.holding Tryd.prog os ⟨#[], #[], []⟩
  { w0 with heap := (w0.heap.modify 0 fun
      | .cells _ t frozen => .cells ⟨tabV⟩ t frozen
      | o => o).modify 1 fun
      | .cells _ t frozen => .cells #[.iface 79 (.agg #[.pointer (some ⟨2, 48, none⟩)])] t frozen
      | o => o }
theorem laid_met (os : Os) (args : Array Value) : laidMetH Tryd.prog laidL ((laidW os).forCall (fun _ _ => 0) ⟨#[], args, []⟩).memory :=
  laidMetH_of_parts (laidMet_of_run (ps := (List.range 16).map (.cell 0 ·)) 8 (by kernel_rfl) (by kernel_rfl) (by kernel_rfl)) (by kernel_rfl)

/-! ### A message as an argument -/
def msP (cs : List Value) (m : MS) : Prop := cs = m.cells
theorem opn_MS {H : Type} {enc : TypeId × Value → H} {w : World} : Opn enc Tryd.prog w 23 msP := by
  intro fuel cs x h
  have hl := opn_len Tryd.underlying23 h (n := 7) (by kernel_rfl)
  obtain ⟨a0, h0, _⟩ := opn_field Tryd.underlying23 h 0 3 0 1 rfl (by kernel_rfl) (opn_int (kd := .i64) Tryd.underlying3)
  obtain ⟨a1, h1, _⟩ := opn_field Tryd.underlying23 h 1 3 1 1 rfl (by kernel_rfl) (opn_int (kd := .i64) Tryd.underlying3)
  obtain ⟨a2, h2, _⟩ := opn_field Tryd.underlying23 h 2 3 2 1 rfl (by kernel_rfl) (opn_int (kd := .i64) Tryd.underlying3)
  obtain ⟨a3, h3, _⟩ := opn_field Tryd.underlying23 h 3 3 3 1 rfl (by kernel_rfl) (opn_int (kd := .i64) Tryd.underlying3)
  obtain ⟨a4, h4, _⟩ := opn_field Tryd.underlying23 h 4 3 4 1 rfl (by kernel_rfl) (opn_int (kd := .i64) Tryd.underlying3)
  obtain ⟨a5, h5, _⟩ := opn_field Tryd.underlying23 h 5 3 5 1 rfl (by kernel_rfl) (opn_int (kd := .i64) Tryd.underlying3)
  obtain ⟨a6, h6, _⟩ := opn_field Tryd.underlying23 h 6 9 6 1 rfl (by kernel_rfl) (opn_string Tryd.underlying9)
  match cs, hl with
  | [c0, c1, c2, c3, c4, c5, c6], _ =>
    simp only [List.drop_zero, List.drop_succ_cons, List.take_succ_cons, List.take_zero, List.cons.injEq, and_true] at h0 h1 h2 h3 h4 h5 h6
    subst h0 h1 h2 h3 h4 h5 h6
    exact ⟨⟨a0, a1, a2, a3, a4, a5, a6⟩, rfl⟩
set_option maxRecDepth 100000 in
theorem open_MS {H : Type} {enc : TypeId × Value → H} {w : World} {r : Reach} {b0 : Nat} {v : Value} {d : DataW H} {ps : List MemPlace} (hval : Value.okWide Tryd.prog w r b0 23 v) (hd : DataW.Trod enc Tryd.prog w 0 (fun _ => true) true 23 v d ps) : ∃ m : MS, v = m.val := by
  obtain ⟨m, cs, rfl, h⟩ := open_struct Tryd.underlying23 opn_MS hval hd
  exact ⟨m, by rw [show cs = m.cells from h]⟩
end Go.Proofs.YtgplckfjbdnedaaDoor
