/- A part of the engine by which the functions are walked; it speaks of no program. -/
import Derived.Test.YtgplckfjbdnedaaDoorEngRules
import Derived.Deep.MidRow
import Derived.Laws.BytesString
import Derived.Laws.CopyRow
namespace Go.Eng
open Go Go.RowKit

variable {P : Program} {f nt : Nat} {k : List Item} {e : Env} {L : SHeap} {S : List Nat} {w0 : World} {R : Goal P}

/-! ### Lists of blocks -/

def blkL (L : SHeap) (j : Nat) : Nat := match L[j]? with | some (B, _) => B | none => 0
def cellsL (L : SHeap) (j : Nat) : List Value := match L[j]? with | some (_, .cells c _ _) => c.toList | _ => []
def elemL (L : SHeap) (j : Nat) : TypeId := match L[j]? with | some (_, .cells _ t _) => t | _ => 0
def fzL (L : SHeap) (j : Nat) : Nat × Nat := match L[j]? with | some (_, .cells _ _ fz) => fz | _ => (0, 0)
def isCellsL (L : SHeap) (j : Nat) : Bool := match L[j]? with | some (_, .cells _ _ _) => true | _ => false
def setL (L : SHeap) (j : Nat) (c : List Value) : SHeap := L.set j (blkL L j, .cells ⟨c⟩ (elemL L j) (fzL L j))

theorem isCellsL_spec {L : SHeap} {j : Nat} (h : isCellsL L j = true) : L[j]? = some (blkL L j, .cells ⟨cellsL L j⟩ (elemL L j) (fzL L j)) := by
  unfold isCellsL at h
  split at h
  · next B c t fz hj => simp [blkL, cellsL, elemL, fzL, hj]
  · cases h

theorem Mem.heapAt {W : World} (hm : Mem L S w0 W) {j : Nat} (h : isCellsL L j = true) : W.heap[blkL L j]? = some (.cells ⟨cellsL L j⟩ (elemL L j) (fzL L j)) :=
  hm.here _ (List.mem_of_getElem? (isCellsL_spec h))

theorem addr_add (b o j : Nat) : (⟨b, o, none⟩ : Addr).add j = ⟨b, o + j, none⟩ := by unfold Addr.add; split <;> simp_all

/-! ### Reading -/

def aggD : TypeDesc → Bool
  | .struct _ | .array _ _ => true
  | _ => false

/-- What a load of a variable of type T at a place of a block yields. -/
def valAt (P : Program) (T : TypeId) (c : List Value) (off : Nat) : Option Value :=
  match P.underlying T with
  | none => none
  | some d => match aggD d with
    | true => match P.info? T with
      | some i => bif Nat.ble (off + i.size) c.length then some (.agg ⟨(c.drop off).take i.size⟩) else none
      | none => none
    | false => c[off]?

theorem cell_of_heap {W : World} {B : Nat} {c : List Value} {t : TypeId} {fz : Nat × Nat} (h : W.heap[B]? = some (.cells ⟨c⟩ t fz)) (off : Nat) : W.cell? ⟨B, off, none⟩ = c[off]? := by
  simp [World.cell?, h]

theorem load_run {W : World} {B off : Nat} {c : List Value} {t : TypeId} {fz : Nat × Nat} {T : TypeId} {v : Value} (h : W.heap[B]? = some (.cells ⟨c⟩ t fz)) (hv : valAt P T c off = some v) :
    (Instr.loadAt T (.pointer (some ⟨B, off, none⟩))).run P W = .ok v W := by
  unfold valAt at hv
  split at hv
  · cases hv
  · next d hd =>
    split at hv
    · next ha =>
      split at hv
      · next i hi =>
        cases hb : Nat.ble (off + i.size) c.length with
        | false => rw [hb] at hv; simp at hv
        | true =>
          have hle := Nat.le_of_ble_eq_true hb
          rw [hb] at hv; simp only [cond_true, Option.some.injEq] at hv
          subst hv
          have := run_loadAt_mid (P := P) W B off T ((c.drop off).take i.size) d (fun j u hj => ?_) hd (by cases d <;> simp_all [aggD]) (by simp [hi]; omega)
          · simpa using this
          · rw [cell_of_heap h]
            rw [List.getElem?_take] at hj
            split at hj
            · rw [List.getElem?_drop] at hj; exact hj
            · cases hj
      · cases hv
    · next ha =>
      have hagg : (isAgg T).run P W = .ok false W := by
        unfold isAgg
        rw [Sem.run_bind, run_underlying hd W]
        cases d <;> simp_all [aggD]
      simp only [Instr.loadAt, Instr.sureAddr, Sem.run_bind, Sem.run_pure, Result.andThen_ok, loadVar, hagg]
      simp [run_load, cell_of_heap h, hv]

def asLoad (nt : Nat) (k : List Item) (e : Env) : Option (TypeId × Value) :=
  match cur nt k e with
  | some o => match o.op with
    | .load T x => some (T, rho e x)
    | _ => none
  | none => none

theorem asLoad_spec {T : TypeId} {a : Value} (h : asLoad nt k e = some (T, a)) : ∃ o x, cur nt k e = some o ∧ o.op = .load T x ∧ rho e x = a := by
  unfold asLoad at h
  split at h
  · next o hc =>
    split at h
    · next T' x ho => simp only [Option.some.injEq, Prod.mk.injEq] at h; obtain ⟨rfl, hx⟩ := h; exact ⟨o, x, hc, ho, hx⟩
    · cases h
  · cases h

theorem AtE.load (j off : Nat) {T : TypeId} {v : Value} (h : (asLoad nt k e, isCellsL L j, valAt P T (cellsL L j) off) = (some (T, .pointer (some ⟨blkL L j, off, none⟩)), true, some v))
    (hn : AtE P f nt (nextK k) (putE e (curDst nt k e) v) L S w0 R) : AtE P f nt k e L S w0 R := by
  simp only [Prod.mk.injEq] at h
  obtain ⟨h1, h2, h3⟩ := h
  obtain ⟨o, x, hc, ho, hx⟩ := asLoad_spec h1
  refine AtE.opV hc (fun W hm => ?_) hn
  simp only [execOp, ho, hx]
  exact run_lift (load_run (hm.heapAt h2) h3)

/-- A load at a place that is not known by its number, or of contents that are not. -/
theorem AtE.loadS (j : Nat) {off : Nat} {T : TypeId} {v : Value} {c : List Value} (h : (asLoad nt k e, isCellsL L j, cellsL L j) = (some (T, .pointer (some ⟨blkL L j, off, none⟩)), true, c)) (h3 : valAt P T c off = some v)
    (hn : AtE P f nt (nextK k) (putE e (curDst nt k e) v) L S w0 R) : AtE P f nt k e L S w0 R := by
  simp only [Prod.mk.injEq] at h
  obtain ⟨h1, h2, h4⟩ := h
  obtain ⟨o, x, hc, ho, hx⟩ := asLoad_spec h1
  refine AtE.opV hc (fun W hm => ?_) hn
  simp only [execOp, ho, hx]
  exact run_lift (load_run (hm.heapAt h2) (h4 ▸ h3))

theorem valAt_one {T : TypeId} {c : List Value} {off : Nat} {v : Value} (h : c[off]? = some v) (hT : (P.underlying T).map aggD = some false) : valAt P T c off = some v := by
  unfold valAt
  cases hd : P.underlying T with
  | none => rw [hd] at hT; cases hT
  | some d =>
    rw [hd] at hT; simp at hT
    simp [hT, h]

theorem valAt_agg {T : TypeId} {c : List Value} {off n : Nat} {vs : List Value} (h : (c.drop off).take n = vs) (hl : off + n ≤ c.length) (hT : (P.underlying T).map aggD = some true) (hi : (P.info? T).map (·.size) = some n) : valAt P T c off = some (.agg ⟨vs⟩) := by
  unfold valAt
  cases hd : P.underlying T with
  | none => rw [hd] at hT; cases hT
  | some d =>
    rw [hd] at hT; simp at hT
    cases hq : P.info? T with
    | none => rw [hq] at hi; cases hi
    | some i =>
      rw [hq] at hi; simp at hi
      have : Nat.ble (off + n) c.length = true := Nat.ble_eq_true_of_le hl
      simp [hT, this, hi, h]

/-! Memory that was there when the function began, and that it leaves alone. -/
def blkW (w : World) (b : Nat) : Option (List Value) := match w.heap[b]? with | some (.cells c _ _) => some c.toList | _ => none

theorem AtE.loadW {b off : Nat} {T : TypeId} {v : Value} {c : List Value} (h : asLoad nt k e = some (T, .pointer (some ⟨b, off, none⟩))) (hb : b ∉ S) (hc : blkW w0 b = some c) (hv : valAt P T c off = some v)
    (hn : AtE P f nt (nextK k) (putE e (curDst nt k e) v) L S w0 R) : AtE P f nt k e L S w0 R := by
  obtain ⟨o, x, hcu, ho, hx⟩ := asLoad_spec h
  refine AtE.opV hcu (fun W hm => ?_) hn
  simp only [execOp, ho, hx]
  refine run_lift ?_
  unfold blkW at hc
  split at hc
  · next c' t fz hh =>
    simp at hc; subst hc
    have hlt : b < w0.heap.size := by
      rcases Nat.lt_or_ge b w0.heap.size with h | h
      · exact h
      · rw [Array.getElem?_eq_none h] at hh; cases hh
    refine load_run (t := t) (fz := fz) ?_ hv
    rw [hm.kept.block b hlt hb, hh]
  · cases hc

/-! ### Writing -/

def asStore (nt : Nat) (k : List Item) (e : Env) : Option (TypeId × Value × Value) :=
  match cur nt k e with
  | some o => match o.op with
    | .store T x v => some (T, rho e x, rho e v)
    | _ => none
  | none => none

theorem asStore_spec {T : TypeId} {a v : Value} (h : asStore nt k e = some (T, a, v)) : ∃ o x y, cur nt k e = some o ∧ o.op = .store T x y ∧ rho e x = a ∧ rho e y = v := by
  unfold asStore at h
  split at h
  · next o hc =>
    split at h
    · next T' x y ho => simp only [Option.some.injEq, Prod.mk.injEq] at h; obtain ⟨rfl, hx, hy⟩ := h; exact ⟨o, x, y, hc, ho, hx, hy⟩
    · cases h
  · cases h

def allOne : List Value → Bool
  | [] => true
  | v :: r => bif v.oneCell' then allOne r else false
theorem allOne_spec : ∀ {l : List Value}, allOne l = true → ∀ v ∈ l, v.oneCell' = true
  | [], _, _, h => by cases h
  | v :: r, h, x, hx => by
    simp only [allOne] at h
    cases hv : v.oneCell' with
    | false => rw [hv] at h; simp at h
    | true =>
      rw [hv] at h
      cases hx with
      | head => exact hv
      | tail _ hm => exact allOne_spec (by simpa using h) x hm

/-- The cells behind a store of v at off. -/
def putC (P : Program) (T : TypeId) (c : List Value) (off : Nat) (v : Value) : Option (List Value) :=
  match P.info? T with
  | none => none
  | some i => bif (Nat.beq v.cells.toList.length i.size && Nat.ble (off + i.size) c.length) && allOne v.cells.toList then some (c.take off ++ v.cells.toList ++ c.drop (off + v.cells.toList.length)) else none

theorem World.setRow_heap' (W : World) (B : Nat) (c c' : Array Value) (t : TypeId) (fz : Nat × Nat) (h : W.heap[B]? = some (.cells c t fz)) : (W.setRow B c').heap = W.heap.setIfInBounds B (.cells c' t fz) := by
  apply Array.ext_getElem?
  intro i
  simp only [World.setRow, Array.getElem?_modify, Array.getElem?_setIfInBounds]
  split
  · next hi =>
    subst hi
    have : B < W.heap.size := (Array.getElem?_eq_some_iff.1 h).1
    rw [h]; simp [this]
  · rfl

theorem store_run {W : World} {B off : Nat} {c c' : List Value} {t : TypeId} {T : TypeId} {v : Value} (h : W.heap[B]? = some (.cells ⟨c⟩ t (0, 0))) (hv : putC P T c off v = some c') :
    (Instr.storeAt T (.pointer (some ⟨B, off, none⟩)) v).run P W = .ok () (W.setRow B ⟨c'⟩) := by
  unfold putC at hv
  split at hv
  · cases hv
  · next i hi =>
    cases hb : (Nat.beq v.cells.toList.length i.size && Nat.ble (off + i.size) c.length) && allOne v.cells.toList with
    | false => rw [hb] at hv; simp at hv
    | true =>
      rw [hb] at hv
      simp only [cond_true, Option.some.injEq] at hv
      subst hv
      simp only [Bool.and_eq_true] at hb
      obtain ⟨⟨h1, h2⟩, h3⟩ := hb
      have h1 := Nat.eq_of_beq_eq_true h1
      have h2 := Nat.le_of_ble_eq_true h2
      have hs := run_storeCells_at P B off t v.cells.toList 0 ⟨c⟩ W h (by simp; simp at h1; omega) (allOne_spec h3)
      simp only [Instr.storeAt, Instr.sureAddr, Sem.run_bind, Sem.run_pure, Result.andThen_ok, storeVar, sizeOf, typeInfo, run_program, hi]
      have hne : ¬ (v.cells.size ≠ i.size) := by simpa using h1
      simp only [hne, if_false]
      rw [hs]; simp

theorem Mem.setRow {W : World} (hm : Mem L S w0 W) {j : Nat} (h : isCellsL L j = true) (c' : List Value) : Mem (setL L j c') S w0 (W.setRow (blkL L j) ⟨c'⟩) :=
  Mem.setObj hm (isCellsL_spec h) _ rfl rfl rfl (World.setRow_heap' W _ _ _ _ _ (hm.heapAt h))

def stL (P : Program) (T : TypeId) (L : SHeap) (j off : Nat) (v : Value) : SHeap := match putC P T (cellsL L j) off v with | some c => setL L j c | none => L

def putOk (P : Program) (T : TypeId) (c : List Value) (off : Nat) (v : Value) : Bool := match putC P T c off v with | some _ => true | none => false
def putD (P : Program) (T : TypeId) (c : List Value) (off : Nat) (v : Value) : List Value := match putC P T c off v with | some c' => c' | none => []

theorem AtE.store (j off : Nat) {T : TypeId} {v : Value} (h : (asStore nt k e, isCellsL L j, fzL L j, putOk P T (cellsL L j) off v) = (some (T, .pointer (some ⟨blkL L j, off, none⟩), v), true, (0, 0), true))
    (hn : AtE P f nt (nextK k) (putE e (curDst nt k e) undef) (setL L j (putD P T (cellsL L j) off v)) S w0 R) : AtE P f nt k e L S w0 R := by
  simp only [Prod.mk.injEq] at h
  obtain ⟨h1, h2, h3, h4⟩ := h
  obtain ⟨o, x, y, hc, ho, hx, hy⟩ := asStore_spec h1
  cases hp : putC P T (cellsL L j) off v with
  | none => simp [putOk, hp] at h4
  | some c' =>
    have hd : putD P T (cellsL L j) off v = c' := by simp [putD, hp]
    rw [hd] at hn
    refine AtE.opK hc (fun W hm => ⟨W.setRow (blkL L j) ⟨c'⟩, ?_, hm.setRow h2 c'⟩) hn
    simp only [execOp, ho, hx, hy]
    have hh := hm.heapAt h2
    rw [h3] at hh
    rw [Sem.run_bind, store_run hh hp]; rfl

theorem setCell_setRow {W : World} {B off : Nat} {c : List Value} {t : TypeId} {fz : Nat × Nat} {v : Value} (h : W.heap[B]? = some (.cells ⟨c⟩ t fz)) : W.setCell ⟨B, off, none⟩ v = W.setRow B ⟨c.set off v⟩ := by
  unfold World.setCell World.setRow
  congr 1
  apply Array.ext_getElem?
  intro i
  simp only [Array.getElem?_modify]
  split
  · next hi => subst hi; rw [h]; simp
  · rfl

/-- A store of one cell at a place that is not known by its number. -/
theorem AtE.storeS (j : Nat) {off lo hi : Nat} {T : TypeId} {v : Value} {c : List Value} (h : (asStore nt k e, isCellsL L j, v.oneCell', (P.info? T).map (·.size), cellsL L j, fzL L j) = (some (T, .pointer (some ⟨blkL L j, off, none⟩), v), true, true, some 1, c, (lo, hi)))
    (hb : off < c.length) (hfz : off < lo ∨ hi ≤ off)
    (hn : AtE P f nt (nextK k) (putE e (curDst nt k e) undef) (setL L j (c.set off v)) S w0 R) : AtE P f nt k e L S w0 R := by
  simp only [Prod.mk.injEq] at h
  obtain ⟨h1, h2, h3, h4, h5, h6⟩ := h
  obtain ⟨o, x, y, hc, ho, hx, hy⟩ := asStore_spec h1
  refine AtE.opK hc (fun W hm => ⟨W.setRow (blkL L j) ⟨c.set off v⟩, ?_, hm.setRow h2 _⟩) hn
  have hh := hm.heapAt h2
  rw [h5, h6] at hh
  cases hq : P.info? T with
  | none => rw [hq] at h4; cases h4
  | some i =>
    rw [hq] at h4; simp at h4
    have hcs : v.cells = #[v] := by cases v <;> simp_all [Value.cells, Value.oneCell']
    have hcell : W.cell? ⟨blkL L j, off, none⟩ = some (c[off]) := by rw [cell_of_heap hh, List.getElem?_eq_getElem hb]
    have hfr : W.frozen? ⟨blkL L j, off, none⟩ = false := by
      simp only [World.frozen?, hh]
      rcases hfz with h | h
      · simp; intro h'; omega
      · simp; intro h'; omega
    simp only [execOp, ho, hx, hy, Sem.run_bind, Instr.storeAt, Instr.sureAddr, Sem.run_pure, Result.andThen_ok, storeVar, sizeOf, typeInfo, run_program, hq, hcs]
    simp only [h4, List.size_toArray, List.length_cons, List.length_nil, Nat.zero_add, ne_eq, not_true, if_false, storeCells]
    simp only [Sem.run_bind, Addr.add_zero', run_store P W _ v _ h3, hcell, hfr, Bool.false_eq_true, if_false, Result.andThen_ok, Sem.run_pure]
    rw [setCell_setRow hh]

/-! ### New blocks -/

theorem AtE.new (mk : Nat → Value) (o : Obj) (h : ∀ W, (execOp (rho e) (curO nt k e)).run P W = .ok (.value (mk W.heap.size)) { W with heap := W.heap.push o }) (hc : cur nt k e = some (curO nt k e))
    (hn : ∀ B, AtE P f nt (nextK k) (putE e (curDst nt k e) (mk B)) (L ++ [(B, o)]) S w0 R) : AtE P f nt k e L S w0 R := by
  refine AtE.op hc fun W hm => ⟨mk W.heap.size, _, h W, fun t hk => hn W.heap.size t _ ?_ (hm.alloc o)⟩
  simpa only [curDst, hc] using hk

/-! ### Addresses -/

def asIndexAddr (P : Program) (nt : Nat) (k : List Item) (e : Env) : Option (Option TypeDesc × Value × Value) :=
  match cur nt k e with
  | some o => match o.op with
    | .indexAddr T x i => some (P.underlying T, rho e x, rho e i)
    | _ => none
  | none => none

theorem asIndexAddr_spec {d : Option TypeDesc} {a i : Value} (h : asIndexAddr P nt k e = some (d, a, i)) : ∃ o T x y, cur nt k e = some o ∧ o.op = .indexAddr T x y ∧ P.underlying T = d ∧ rho e x = a ∧ rho e y = i := by
  unfold asIndexAddr at h
  split at h
  · next o hc =>
    split at h
    · next T x y ho => simp only [Option.some.injEq, Prod.mk.injEq] at h; obtain ⟨hd, hx, hy⟩ := h; exact ⟨o, T, x, y, hc, ho, hd, hx, hy⟩
    · cases h
  · cases h

theorem AtE.indexAddrL {E : TypeId} {b o len cap sz o' : Nat} {kd : IntKind} {i : Int} (h : (asIndexAddr P nt k e, (P.info? E).map (·.size)) = (some (some (.slice E), .slice (some ⟨b, o, none⟩) len cap, .int kd i), some sz))
    (hb : 0 ≤ i ∧ i < len) (ho : o' = o + i.toNat * sz) (hn : AtE P f nt (nextK k) (putE e (curDst nt k e) (.pointer (some ⟨b, o', none⟩))) L S w0 R) : AtE P f nt k e L S w0 R := by
  simp only [Prod.mk.injEq] at h
  obtain ⟨h1, h2⟩ := h
  obtain ⟨op, T, x, y, hc, hop, hd, hx, hy⟩ := asIndexAddr_spec h1
  cases hq : P.info? E with
  | none => rw [hq] at h2; cases h2
  | some ii =>
    rw [hq] at h2; simp at h2
    refine AtE.opV hc (fun W hm => ?_) hn
    simp only [execOp, hop, hx, hy]
    refine run_lift ?_
    simp only [Instr.indexAt, asIntOf, Sem.run_bind, Sem.run_pure, Result.andThen_ok, run_underlying hd, hb, and_self, if_true, sizeOf, typeInfo, run_program, hq, addr_add, h2, ← ho]

theorem AtE.indexAddrA {E : TypeId} {n b o sz o' : Nat} {kd : IntKind} {i : Int} (h : (asIndexAddr P nt k e, (P.info? E).map (·.size)) = (some (some (.array n E), .pointer (some ⟨b, o, none⟩), .int kd i), some sz))
    (hb : 0 ≤ i ∧ i < n) (ho : o' = o + i.toNat * sz) (hn : AtE P f nt (nextK k) (putE e (curDst nt k e) (.pointer (some ⟨b, o', none⟩))) L S w0 R) : AtE P f nt k e L S w0 R := by
  simp only [Prod.mk.injEq] at h
  obtain ⟨h1, h2⟩ := h
  obtain ⟨op, T, x, y, hc, hop, hd, hx, hy⟩ := asIndexAddr_spec h1
  cases hq : P.info? E with
  | none => rw [hq] at h2; cases h2
  | some ii =>
    rw [hq] at h2; simp at h2
    refine AtE.opV hc (fun W hm => ?_) hn
    simp only [execOp, hop, hx, hy]
    refine run_lift ?_
    simp only [Instr.indexAt, asIntOf, Instr.sureAddr, Sem.run_bind, Sem.run_pure, Result.andThen_ok, run_underlying hd, hb, and_self, if_true, sizeOf, typeInfo, run_program, hq, addr_add, h2, ← ho]

/-! ### A part of a slice -/

theorem AtE.sliceL {E : TypeId} {b o len cap sz o' l' c' : Nat} {lo hi : Option Value} {x y : Int} (h : (asSlice P nt k e, (P.info? E).map (·.size)) = (some (some (.slice E), .slice (some ⟨b, o, none⟩) len cap, lo, hi, none), some sz))
    (hlo : (∃ kd, lo = some (.int kd x)) ∨ (lo = none ∧ x = 0)) (hhi : (∃ kd, hi = some (.int kd y)) ∨ (hi = none ∧ y = len ∧ len ≤ cap)) (hb : 0 ≤ x ∧ x ≤ y ∧ y ≤ cap)
    (ho : o' = if x.toNat = cap then o else o + x.toNat * sz) (hl : l' = y.toNat - x.toNat) (hcap : c' = cap - x.toNat)
    (hn : AtE P f nt (nextK k) (putE e (curDst nt k e) (.slice (some ⟨b, o', none⟩) l' c')) L S w0 R) : AtE P f nt k e L S w0 R := by
  simp only [Prod.mk.injEq] at h
  obtain ⟨h1, h2⟩ := h
  unfold asSlice at h1
  split at h1
  · next op hc =>
    split at h1
    · next T x' l2 h2' m2 hop =>
      simp only [Option.some.injEq, Prod.mk.injEq] at h1
      obtain ⟨hT, hx, hl2, hh2, hm2⟩ := h1
      cases hq : P.info? E with
      | none => rw [hq] at h2; cases h2
      | some ii =>
        rw [hq] at h2; simp at h2
        refine AtE.opV hc (fun W hm => ?_) hn
        simp only [execOp, hop, hx, hl2, hh2, hm2]
        refine run_lift ?_
        have key : (Instr.sliceBounds true len cap lo hi none).run P W = .ok (x.toNat, y.toNat, cap) W := by
          have hy : (y.toNat : Int) = y := Int.toNat_of_nonneg (by omega)
          have b1 : ∀ kd code, (Instr.sliceBound (.int kd y) cap code).run P W = .ok y.toNat W := fun kd code => run_sliceBound W kd y cap code (by omega) hb.2.2
          have b2 : ∀ kd code, (Instr.sliceBound (.int kd x) y.toNat code).run P W = .ok x.toNat W := fun kd code => run_sliceBound W kd x y.toNat code hb.1 (by omega)
          rcases hlo with ⟨kd, rfl⟩ | ⟨rfl, rfl⟩ <;> rcases hhi with ⟨kd', rfl⟩ | ⟨rfl, rfl, _⟩
          · simp only [Instr.sliceBounds, Sem.run_bind, Sem.run_pure, Result.andThen_ok, b1, b2]
          · simp only [Instr.sliceBounds, Sem.run_bind, Sem.run_pure, Result.andThen_ok]
            have := b2 kd .sliceB
            simp only [Int.toNat_natCast] at this
            simp [this]
          · simp only [Instr.sliceBounds, Sem.run_bind, Sem.run_pure, Result.andThen_ok, b1]; rfl
          · simp only [Instr.sliceBounds, Sem.run_bind, Sem.run_pure, Result.andThen_ok]; simp
        simp only [Instr.sliceAt, Sem.run_bind, run_underlying hT, Result.andThen_ok, Instr.slice, key, sizeOf, typeInfo, run_program, hq, Sem.run_pure]
        simp only [Option.map_some, addr_add, h2]
        rw [ho, hl, hcap]
        congr 1
        by_cases hcx : cap = x.toNat
        · simp [hcx]
        · have : ¬ x.toNat = cap := fun h => hcx h.symm
          simp [hcx, this]
    · cases h1
  · cases h1
end Go.Eng
