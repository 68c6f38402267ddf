/- A part of the engine by which the functions are walked; it speaks of no program. -/
import Derived.Test.YtgplckfjbdnedaaDoorEngLaw
import Derived.ChangeSlices
import Derived.SliceStrings
namespace Go.Eng
open Go Go.RowKit Go.ChangeShapes Go.WideShapes Go.ChangeMaps

variable {H : Type} {enc : TypeId × Value → H} {P : Program} {w : World} {base : Nat} {sp : Nat → Bool} {held : Bool}

theorem okWide_array {r : Reach} {b0 n : Nat} {t e : TypeId} {v : Value} (ht : P.underlying t = some (.array n e)) (h : Value.okWide P w r b0 t v) : ∃ cs, v = .agg cs ∧ cs.size = P.cellsOf t := by
  unfold Value.okWide at h
  rw [ht] at h
  obtain ⟨cs, h1, h2, _⟩ := h
  exact ⟨cs, h1, h2⟩

/-- An array of two texts. -/
theorem open_strings2 {r : Reach} {b0 : Nat} {t e : TypeId} {v : Value} {d : DataW H} {ps : List MemPlace} (ht : P.underlying t = some (.array 2 e)) (he : P.underlying e = some .string) (hc : P.cellsOf e = 1) (hct : P.cellsOf t = 2)
    (hval : Value.okWide P w r b0 t v) (hd : DataW.Trod enc P w base sp held t v d ps) : ∃ a b : ByteArray, v = .agg #[.string a, .string b] ∧ a.size ≤ maxLen ∧ b.size ≤ maxLen := by
  obtain ⟨⟨cs⟩, rfl, hsz⟩ := okWide_array ht hval
  obtain ⟨fuel, hf⟩ := hd
  simp only [Value.cells] at hf
  obtain ⟨xs, m, rfl, hx, hl, hxl, hi⟩ := DataW.trod_array ht hf
  have h0 := hi 0 (by decide)
  have h1 := hi 1 (by decide)
  rw [hct] at hl
  match cs, hl with
  | [x, y], _ =>
    rw [hc, List.getElem?_eq_getElem (by omega)] at h0 h1
    obtain ⟨s0, e0, _, z0⟩ := DataW.trod_string he h0
    obtain ⟨s1, e1, _, z1⟩ := DataW.trod_string he h1
    simp at e0 e1
    exact ⟨s0, s1, by rw [e0, e1], z0, z1⟩

theorem cellsAt {W : World} {a : Addr} {n : Nat} {g : Nat → Value} (h : ∀ i, i < n → W.cell? (a.add i) = some (g i)) (hn : 0 < n) :
    ∃ c : List Value, a = ⟨a.block, a.off, none⟩ ∧ blkW W a.block = some c ∧ ∀ i, i < n → c[a.off + i]? = some (g i) := by
  have h0 := h 0 hn
  have ha : a.add 0 = a := if_pos rfl
  rw [ha] at h0
  unfold World.cell? at h0
  split at h0
  · next c t fz hh =>
    have hsp : a.spot = none := by
      cases hs : a.spot with
      | none => rfl
      | some x => rw [hs] at h0; simp at h0
    refine ⟨c.toList, by cases a; simp at hsp; rw [hsp], by rw [blkW, hh], fun i hi => ?_⟩
    have hi' := h i hi
    unfold World.cell? at hi'
    have hb : (a.add i).block = a.block := by unfold Addr.add; split <;> rfl
    have ho : (a.add i).off = a.off + i := by unfold Addr.add; split <;> simp_all
    have hs : (a.add i).spot = none := by unfold Addr.add; split <;> simp_all
    rw [hb, hh, hs] at hi'
    simp only [Option.isSome_none, Bool.false_eq_true, if_false, ho] at hi'
    rw [Array.getElem?_toList]; exact hi'
  · cases h0

/-- A slice that reads as these values, one cell each. -/
def RowAt (W : World) (p : Option Addr) (vs : List Value) : Prop :=
  0 < vs.length → ∃ (b o : Nat) (c : List Value), p = some ⟨b, o, none⟩ ∧ blkW W b = some c ∧ ∀ i, i < vs.length → c[o + i]? = vs[i]?

theorem open_intsW {r : Reach} {b0 : Nat} {t e : TypeId} {kd : IntKind} {v : Value} {d : DataW H} {ps : List MemPlace} (ht : P.underlying t = some (.slice e)) (he : P.underlying e = some (.int kd)) (hc : P.cellsOf e = 1)
    (hval : Value.okWide P w r b0 t v) (hd : DataW.Trod enc P w base sp held t v d ps) :
    ∃ (p : Option Addr) (l c : Nat) (zs : List Int), v = .slice p l c ∧ zs.length = l ∧ l ≤ maxLen ∧ RowAt w p (zs.map (.int kd)) ∧ ∀ z ∈ zs, (Lit.int kd z).wf = true := by
  obtain ⟨p, l, c, rfl⟩ := okWide_slice ht hval
  obtain ⟨fuel, hf⟩ := hd
  simp only [Value.cells] at hf
  rcases open_ints ht he hc hf with ⟨h, _⟩ | ⟨a, len, cap, zs, h, _, hl, hm, hz, _, hcell, hwf⟩
  · simp at h
    obtain ⟨rfl, rfl, rfl⟩ := h
    exact ⟨none, 0, 0, [], rfl, rfl, Nat.zero_le _, fun h => absurd h (by simp), fun z hz => absurd hz (by simp)⟩
  · simp at h
    obtain ⟨rfl, rfl, rfl⟩ := h
    have hzl : l ≤ zs.length := by rw [hz]; split <;> omega
    refine ⟨some a, l, c, zs.take l, rfl, by simp; omega, by omega, fun hp => ?_, fun z hz => hwf z (List.mem_of_mem_take hz)⟩
    simp only [List.length_map, List.length_take] at hp
    obtain ⟨cc, h1, h2, h3⟩ := cellsAt (n := zs.length) hcell (by omega)
    refine ⟨a.block, a.off, cc, by rw [← h1], h2, fun i hi => ?_⟩
    simp only [List.length_map, List.length_take] at hi
    rw [h3 i (by omega), List.getElem?_map, List.getElem?_take_of_lt (by omega), List.getElem?_eq_getElem (by omega)]
    simp only [List.getD_eq_getElem?_getD, List.getElem?_eq_getElem (show i < zs.length by omega), Option.getD_some, Option.map_some]

theorem open_textsW {r : Reach} {b0 : Nat} {t e : TypeId} {v : Value} {d : DataW H} {ps : List MemPlace} (ht : P.underlying t = some (.slice e)) (he : P.underlying e = some .string) (hc : P.cellsOf e = 1)
    (hval : Value.okWide P w r b0 t v) (hd : DataW.Trod enc P w base sp held t v d ps) :
    ∃ (p : Option Addr) (l c : Nat) (ss : List ByteArray), v = .slice p l c ∧ ss.length = l ∧ l ≤ maxLen ∧ RowAt w p (ss.map .string) ∧ ∀ s ∈ ss, s.size ≤ maxLen := by
  obtain ⟨p, l, c, rfl⟩ := okWide_slice ht hval
  obtain ⟨fuel, hf⟩ := hd
  simp only [Value.cells] at hf
  rcases open_strings ht he hc hf with ⟨h, _⟩ | ⟨a, len, cap, zs, h, _, hl, hm, hz, _, hcell, hwf⟩
  · simp at h
    obtain ⟨rfl, rfl, rfl⟩ := h
    exact ⟨none, 0, 0, [], rfl, rfl, Nat.zero_le _, fun h => absurd h (by simp), fun z hz => absurd hz (by simp)⟩
  · simp at h
    obtain ⟨rfl, rfl, rfl⟩ := h
    have hzl : l ≤ zs.length := by rw [hz]; split <;> omega
    refine ⟨some a, l, c, zs.take l, rfl, by simp; omega, by omega, fun hp => ?_, fun z hz => hwf z (List.mem_of_mem_take hz)⟩
    simp only [List.length_map, List.length_take] at hp
    obtain ⟨cc, h1, h2, h3⟩ := cellsAt (n := zs.length) hcell (by omega)
    refine ⟨a.block, a.off, cc, by rw [← h1], h2, fun i hi => ?_⟩
    simp only [List.length_map, List.length_take] at hi
    rw [h3 i (by omega), List.getElem?_map, List.getElem?_take_of_lt (by omega), List.getElem?_eq_getElem (by omega)]
    simp only [List.getD_eq_getElem?_getD, List.getElem?_eq_getElem (show i < zs.length by omega), Option.getD_some, Option.map_some]
end Go.Eng
