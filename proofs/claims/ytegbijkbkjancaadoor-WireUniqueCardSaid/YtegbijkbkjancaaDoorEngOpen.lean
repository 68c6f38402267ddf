/- A part of the engine by which the functions are walked; it speaks of no program. -/
import Derived.Test.YtegbijkbkjancaaDoorEngLaw
namespace Go.Eng
open Go Go.RowKit Go.ChangeShapes Go.WideShapes Go.ChangeMaps

variable {H : Type} {enc : TypeId × Value → H} {P : Program} {w : World} {base : Nat} {sp : Nat → Bool} {held : Bool}

theorem okWide_array {r : Reach} {b0 n : Nat} {t e : TypeId} {v : Value} (ht : P.underlying t = some (.array n e)) (h : Value.okWide P w r b0 t v) : ∃ cs, v = .agg cs ∧ cs.size = P.cellsOf t := by
  unfold Value.okWide at h
  rw [ht] at h
  obtain ⟨cs, h1, h2, _⟩ := h
  exact ⟨cs, h1, h2⟩

/-- An array of two texts. -/
theorem open_strings2 {r : Reach} {b0 : Nat} {t e : TypeId} {v : Value} {d : DataW H} {ps : List MemPlace} (ht : P.underlying t = some (.array 2 e)) (he : P.underlying e = some .string) (hc : P.cellsOf e = 1) (hct : P.cellsOf t = 2)
    (hval : Value.okWide P w r b0 t v) (hd : DataW.Trod enc P w base sp held t v d ps) : ∃ a b : ByteArray, v = .agg #[.string a, .string b] ∧ a.size ≤ maxLen ∧ b.size ≤ maxLen := by
  obtain ⟨⟨cs⟩, rfl, hsz⟩ := okWide_array ht hval
  obtain ⟨fuel, hf⟩ := hd
  simp only [Value.cells] at hf
  obtain ⟨xs, m, rfl, hx, hl, hxl, hi⟩ := DataW.trod_array ht hf
  have h0 := hi 0 (by decide)
  have h1 := hi 1 (by decide)
  rw [hct] at hl
  match cs, hl with
  | [x, y], _ =>
    rw [hc, List.getElem?_eq_getElem (by omega)] at h0 h1
    obtain ⟨s0, e0, _, z0⟩ := DataW.trod_string he h0
    obtain ⟨s1, e1, _, z1⟩ := DataW.trod_string he h1
    simp at e0 e1
    exact ⟨s0, s1, by rw [e0, e1], z0, z1⟩
end Go.Eng
