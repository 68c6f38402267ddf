/- A part of the engine by which the functions are walked; it speaks of no program. -/
import Derived.Test.YtgplckfjbdnedaaDoorEngOpen
namespace Go.Eng
open Go Go.RowKit Go.ChangeShapes Go.WideShapes Go.ChangeMaps

/-! ### Data in memory, by whatever way memory is looked into -/

abbrev Lk := Nat → List Value → Prop
def lkW (w : World) : Lk := fun b c => blkW w b = some c

/-- What lies in a slice's row: a datum in each sz cells. -/
def SlAt {α : Type} (lk : Lk) (sz : Nat) (Φ : List Value → α → Prop) (p : Option Addr) (l : List α) : Prop :=
  0 < l.length → ∃ (b o : Nat) (c : List Value), p = some ⟨b, o, none⟩ ∧ lk b c ∧ ∀ i (h : i < l.length), o + i * sz + sz ≤ c.length ∧ Φ ((c.drop (o + i * sz)).take sz) l[i]

theorem SlAt.mono {α : Type} {lk lk' : Lk} {sz : Nat} {Φ Φ' : List Value → α → Prop} {p : Option Addr} {l : List α} (h : SlAt lk sz Φ p l) (hl : ∀ b c, lk b c → lk' b c) (hΦ : ∀ cs, ∀ a ∈ l, Φ cs a → Φ' cs a) : SlAt lk' sz Φ' p l := by
  intro hp
  obtain ⟨b, o, c, h1, h2, h3⟩ := h hp
  exact ⟨b, o, c, h1, hl b c h2, fun i hi => ⟨(h3 i hi).1, hΦ _ _ (List.getElem_mem hi) (h3 i hi).2⟩⟩

theorem SlAt.get {α : Type} {lk : Lk} {sz : Nat} {Φ : List Value → α → Prop} {p : Option Addr} {l : List α} (h : SlAt lk sz Φ p l) {i : Nat} (hi : i < l.length) :
    ∃ (b o : Nat) (c : List Value), p = some ⟨b, o, none⟩ ∧ lk b c ∧ o + i * sz + sz ≤ c.length ∧ Φ ((c.drop (o + i * sz)).take sz) l[i] := by
  obtain ⟨b, o, c, h1, h2, h3⟩ := h (by omega)
  exact ⟨b, o, c, h1, h2, (h3 i hi).1, (h3 i hi).2⟩

theorem SlAt.take {α : Type} {lk : Lk} {sz : Nat} {Φ : List Value → α → Prop} {p : Option Addr} {l : List α} (h : SlAt lk sz Φ p l) (n : Nat) : SlAt lk sz Φ p (l.take n) := by
  intro hp
  rw [List.length_take] at hp
  obtain ⟨b, o, c, h1, h2, h3⟩ := h (by omega)
  refine ⟨b, o, c, h1, h2, fun i hi => ?_⟩
  rw [List.length_take] at hi
  rw [List.getElem_take]
  exact h3 i (by omega)

theorem SlAt.nil {α : Type} {lk : Lk} {sz : Nat} {Φ : List Value → α → Prop} {p : Option Addr} : SlAt lk sz Φ p [] := fun h => absurd h (by simp)

theorem cellsB {w : World} {a : Addr} {n : Nat} {cs : List Value} (hn : 0 < n) (h : w.cells? 0 a n = some cs) :
    ∃ c : List Value, a = ⟨a.block, a.off, none⟩ ∧ blkW w a.block = some c ∧ a.off + n ≤ c.length ∧ cs = (c.drop a.off).take n := by
  obtain ⟨_, hl, hg⟩ := World.cells?_some h
  have hall : ∀ i, i < n → w.cell? (a.add i) = some ((fun i => (cs[i]?).getD (.bool false)) i) := by
    intro i hi
    rw [hg i hi]
    simp only
    rw [List.getElem?_eq_getElem (by omega), Option.getD_some]
  obtain ⟨c, h1, h2, h3⟩ := cellsAt hall hn
  refine ⟨c, h1, h2, ?_, ?_⟩
  · have := h3 (n - 1) (by omega)
    have := (List.getElem?_eq_some_iff.1 this).1
    omega
  · apply List.ext_getElem?
    intro i
    by_cases hi : i < n
    · rw [List.getElem?_take_of_lt hi, List.getElem?_drop, h3 i hi]
      rw [List.getElem?_eq_getElem (by omega), Option.getD_some]
    · rw [List.getElem?_eq_none (by omega), List.getElem?_eq_none (by simp; omega)]

theorem add_off (a : Addr) (j : Nat) : (a.add j).off = a.off + j := by
  unfold Addr.add; split <;> simp_all

/-! ### Opening what a law is handed -/

/-- Whatever reads as data of type t is Φ. -/
def Opn {H : Type} (enc : TypeId × Value → H) (P : Program) (w : World) (t : TypeId) {α : Type} (Φ : List Value → α → Prop) : Prop :=
  ∀ fuel cs x, DataW.trod enc P w 0 (fun _ => true) true fuel t cs = some x → ∃ a, Φ cs a

variable {H : Type} {enc : TypeId × Value → H} {P : Program} {w : World} {t e : TypeId}

def intP (kd : IntKind) (cs : List Value) (n : Int) : Prop := cs = [.int kd n] ∧ (Lit.int kd n).wf = true
def boolP (cs : List Value) (b : Bool) : Prop := cs = [.bool b]
def strP (cs : List Value) (s : ByteArray) : Prop := cs = [.string s] ∧ s.size ≤ maxLen
def sliceP {α : Type} (lk : Lk) (sz : Nat) (Φ : List Value → α → Prop) (cs : List Value) (l : List α) : Prop :=
  ∃ (p : Option Addr) (n c : Nat), cs = [.slice p n c] ∧ l.length = n ∧ n ≤ c ∧ c ≤ maxLen ∧ (p = none → n = 0 ∧ c = 0) ∧ SlAt lk sz Φ p l

theorem opn_int {kd : IntKind} (ht : P.underlying t = some (.int kd)) : Opn enc P w t (intP kd) := by
  intro fuel cs x h
  obtain ⟨n, rfl, _, hw⟩ := DataW.trod_int ht h
  exact ⟨n, rfl, hw⟩
theorem opn_bool (ht : P.underlying t = some .bool) : Opn enc P w t boolP := by
  intro fuel cs x h
  obtain ⟨b, rfl, _⟩ := DataW.trod_bool ht h
  exact ⟨b, rfl⟩
theorem opn_string (ht : P.underlying t = some .string) : Opn enc P w t strP := by
  intro fuel cs x h
  obtain ⟨s, rfl, _, hs⟩ := DataW.trod_string ht h
  exact ⟨s, rfl, hs⟩

theorem choose_list {α : Type} {Q : Nat → α → Prop} : ∀ n : Nat, (∀ i, i < n → ∃ a, Q i a) → ∃ l : List α, l.length = n ∧ ∀ i (h : i < l.length), Q i l[i]
  | 0, _ => ⟨[], rfl, fun i h => absurd h (by simp)⟩
  | n + 1, h => by
    obtain ⟨l, hl, hq⟩ := choose_list n (fun i hi => h i (by omega))
    obtain ⟨a, ha⟩ := h n (by omega)
    refine ⟨l ++ [a], by simp [hl], fun i hi => ?_⟩
    by_cases hc : i < l.length
    · rw [List.getElem_append_left hc]; exact hq i hc
    · have : i = n := by simp at hi; omega
      subst this
      rw [List.getElem_append_right (by omega)]
      simpa [hl] using ha

theorem opn_slice {α : Type} {Φ : List Value → α → Prop} {sz : Nat} (ht : P.underlying t = some (.slice e)) (hc : P.cellsOf e = sz) (hp : 0 < sz) (he : Opn enc P w e Φ) : Opn enc P w t (sliceP (lkW w) sz Φ) := by
  intro fuel cs x h
  rcases DataW.trod_slice ht h with ⟨rfl, _⟩ | ⟨a, len, cap, elems, rest, n, _, rfl, _, _, hl, hm, hlen, hel, _, _⟩
  · exact ⟨[], none, 0, 0, rfl, rfl, Nat.le_refl _, Nat.zero_le _, fun _ => ⟨rfl, rfl⟩, SlAt.nil⟩
  · rw [hc] at hel
    have each : ∀ i, i < len → ∃ y, ∃ c : List Value, (a.add (i * sz)) = ⟨a.block, a.off + i * sz, none⟩ ∧ blkW w a.block = some c ∧ a.off + i * sz + sz ≤ c.length ∧ Φ ((c.drop (a.off + i * sz)).take sz) y := by
      intro i hi
      have h1 := hel i hi
      rw [List.getElem?_eq_getElem (by omega), Option.bind_eq_some_iff] at h1
      obtain ⟨cs', h2, h3⟩ := h1
      obtain ⟨c, e1, e2, e3, rfl⟩ := cellsB hp h2
      have hb : (a.add (i * sz)).block = a.block := by unfold Addr.add; split <;> rfl
      have ho : (a.add (i * sz)).off = a.off + i * sz := add_off a _
      rw [hb, ho] at e1
      rw [hb] at e2
      rw [ho] at e3 h3
      obtain ⟨y, hy⟩ := he _ _ _ h3
      exact ⟨y, c, e1, e2, e3, hy⟩
    obtain ⟨l, hll, hq⟩ := choose_list len each
    refine ⟨l, some a, len, cap, rfl, hll, hl, hm, (fun h => by cases h), fun hpos => ?_⟩
    obtain ⟨c, e1, e2, _, _⟩ := hq 0 hpos
    have hsp : a = ⟨a.block, a.off, none⟩ := by
      have h0 : a.add 0 = a := by simp [Addr.add]
      rw [Nat.zero_mul, h0] at e1
      exact e1
    refine ⟨a.block, a.off, c, by rw [← hsp], e2, fun i hi => ?_⟩
    obtain ⟨c', _, f2, f3, f4⟩ := hq i hi
    have : c' = c := by rw [e2] at f2; exact (Option.some.inj f2).symm
    subst this
    exact ⟨f3, f4⟩

/-- A struct's fields. -/
theorem opn_fields {fs : Array Field} {fuel : Nat} {cs : List Value} {x : DataW H × List MemPlace} (ht : P.underlying t = some (.struct fs)) (h : DataW.trod enc P w 0 (fun _ => true) true fuel t cs = some x) :
    cs.length = P.cellsOf t ∧ ∀ (i : Nat) (f : Field), fs[i]? = some f → ∀ {α : Type} {Φ : List Value → α → Prop}, Opn enc P w f.type Φ → ∃ a, Φ ((cs.drop f.offset).take (P.cellsOf f.type)) a := by
  obtain ⟨xs, n, _, _, hl, hxl, hf⟩ := DataW.trod_struct ht h
  refine ⟨hl, fun i f hi α Φ ho => ?_⟩
  have h1 := hf i f hi
  have hlt : i < fs.size := (Array.getElem?_eq_some_iff.1 hi).1
  rw [List.getElem?_eq_getElem (by omega)] at h1
  exact ho _ _ _ h1

theorem opn_len {fs : Array Field} {fuel : Nat} {cs : List Value} {x : DataW H × List MemPlace} (ht : P.underlying t = some (.struct fs)) (h : DataW.trod enc P w 0 (fun _ => true) true fuel t cs = some x) {n : Nat} (hn : P.cellsOf t = n) : cs.length = n := by
  rw [← hn]; exact (opn_fields ht h).1
/-- One field, its place told. -/
theorem opn_field {fs : Array Field} {fuel : Nat} {cs : List Value} {x : DataW H × List MemPlace} (ht : P.underlying t = some (.struct fs)) (h : DataW.trod enc P w 0 (fun _ => true) true fuel t cs = some x) (i tf off n : Nat)
    (hi : (fs[i]?).map (fun f => (f.type, f.offset)) = some (tf, off)) (hn : P.cellsOf tf = n) {α : Type} {Φ : List Value → α → Prop} (ho : Opn enc P w tf Φ) : ∃ a, Φ ((cs.drop off).take n) a := by
  cases hf : fs[i]? with
  | none => rw [hf] at hi; cases hi
  | some f =>
    rw [hf] at hi
    simp only [Option.map_some, Option.some.injEq, Prod.mk.injEq] at hi
    obtain ⟨rfl, rfl⟩ := hi
    subst hn
    exact (opn_fields ht h).2 i f hf ho

theorem okWide_agg {r : Reach} {b0 : Nat} {v : Value} {fs : Array Field} (ht : P.underlying t = some (.struct fs)) (h : Value.okWide P w r b0 t v) : ∃ cs, v = .agg cs := by
  unfold Value.okWide at h
  rw [ht] at h
  obtain ⟨cs, h1, _⟩ := h
  exact ⟨cs, h1⟩

theorem open_slice {α : Type} {Φ : List Value → α → Prop} {r : Reach} {b0 : Nat} {v : Value} {d : DataW H} {ps : List MemPlace} {sz : Nat} (ht : P.underlying t = some (.slice e)) (hc : P.cellsOf e = sz) (hp : 0 < sz) (he : Opn enc P w e Φ)
    (hval : Value.okWide P w r b0 t v) (hd : DataW.Trod enc P w 0 (fun _ => true) true t v d ps) :
    ∃ (l : List α) (p : Option Addr) (c : Nat), v = .slice p l.length c ∧ l.length ≤ c ∧ c ≤ maxLen ∧ (p = none → l.length = 0 ∧ c = 0) ∧ SlAt (lkW w) sz Φ p l := by
  obtain ⟨p, n, c, rfl⟩ := okWide_slice ht hval
  obtain ⟨fuel, hf⟩ := hd
  obtain ⟨l, p', n', c', h1, h2, h3, h4, h5, h6⟩ := opn_slice ht hc hp he _ _ _ hf
  simp only [Value.cells, List.cons.injEq, Value.slice.injEq, and_true] at h1
  obtain ⟨rfl, rfl, rfl⟩ := h1
  exact ⟨l, p, c, by rw [h2], by omega, h4, by rw [h2]; exact h5, h6⟩

theorem open_struct {α : Type} {Φ : List Value → α → Prop} {r : Reach} {b0 : Nat} {v : Value} {d : DataW H} {ps : List MemPlace} {fs : Array Field} (ht : P.underlying t = some (.struct fs)) (he : Opn enc P w t Φ)
    (hval : Value.okWide P w r b0 t v) (hd : DataW.Trod enc P w 0 (fun _ => true) true t v d ps) : ∃ (a : α) (cs : List Value), v = .agg ⟨cs⟩ ∧ Φ cs a := by
  obtain ⟨⟨cs⟩, rfl⟩ := okWide_agg ht hval
  obtain ⟨fuel, hf⟩ := hd
  obtain ⟨a, ha⟩ := he _ _ _ hf
  exact ⟨a, cs, rfl, ha⟩
end Go.Eng
