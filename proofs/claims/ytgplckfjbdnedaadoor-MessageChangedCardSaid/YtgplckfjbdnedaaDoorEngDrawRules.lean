/- A part of the engine by which the functions are walked; it speaks of no program. -/
import Derived.Test.YtgplckfjbdnedaaDoorEngDraw
/- The rules of EngRules, EngMem, EngMem2 that turn no world, for the quiet part of a region that draws its order: made by text from those (mkdrawrules.py). -/
namespace Go.Eng
open Go Go.RowKit

variable {P : Program} {f nt : Nat} {k : List Item} {e : Env} {L : SHeap} {S : List Nat} {w0 : World} {R : Goal P} {ops : Array Oper} {nq : Nat} {kk : List Item}

theorem AtQ.split (i : Nat) {b : Bool} (h : get? e i = some (.bool b)) (h1 : b = true → AtQ P f nt ops nq kk k ((i, .bool true) :: e) L S w0 R)
    (h0 : b = false → AtQ P f nt ops nq kk k ((i, .bool false) :: e) L S w0 R) : AtQ P f nt ops nq kk k e L S w0 R := by
  cases b
  · exact AtQ.push h (h0 rfl)
  · exact AtQ.push h (h1 rfl)

theorem AtQ.splitP (i : Nat) {p : Prop} [Decidable p] (h : get? e i = some (.bool (decide p))) (h1 : p → AtQ P f nt ops nq kk k ((i, .bool true) :: e) L S w0 R)
    (h0 : ¬ p → AtQ P f nt ops nq kk k ((i, .bool false) :: e) L S w0 R) : AtQ P f nt ops nq kk k e L S w0 R :=
  AtQ.split i h (fun hb => h1 (of_decide_eq_true hb)) (fun hb => h0 (of_decide_eq_false hb))

theorem AtQ.splitN (i : Nat) {p : Prop} [Decidable p] (h : get? e i = some (.bool (!decide p))) (h1 : ¬ p → AtQ P f nt ops nq kk k ((i, .bool true) :: e) L S w0 R)
    (h0 : p → AtQ P f nt ops nq kk k ((i, .bool false) :: e) L S w0 R) : AtQ P f nt ops nq kk k e L S w0 R :=
  AtQ.split i h (fun hb => h1 (of_decide_eq_false (by simpa using hb))) (fun hb => h0 (of_decide_eq_true (by simpa using hb)))

theorem AtQ.splitS (i : Nat) {x y : ByteArray} (h : get? e i = some (.bool (x.toList == y.toList))) (h1 : x = y → AtQ P f nt ops nq kk k ((i, .bool true) :: e) L S w0 R)
    (h0 : ¬ x = y → AtQ P f nt ops nq kk k ((i, .bool false) :: e) L S w0 R) : AtQ P f nt ops nq kk k e L S w0 R :=
  AtQ.split i h (fun hb => h1 ((strEq_iff x y).1 hb)) (fun hb => h0 (fun he => by rw [(strEq_iff x y).2 he] at hb; cases hb))

theorem AtQ.splitT (i : Nat) {x y : ByteArray} (h : get? e i = some (.bool (!(x.toList == y.toList)))) (h1 : ¬ x = y → AtQ P f nt ops nq kk k ((i, .bool true) :: e) L S w0 R)
    (h0 : x = y → AtQ P f nt ops nq kk k ((i, .bool false) :: e) L S w0 R) : AtQ P f nt ops nq kk k e L S w0 R :=
  AtQ.split i h (fun hb => h1 (fun he => by rw [(strEq_iff x y).2 he] at hb; cases hb)) (fun hb => h0 ((strEq_iff x y).1 (by simpa using hb)))

theorem AtQ.letI (i : Nat) {kd : IntKind} {n : Int} (h : get? e i = some (.int kd n)) (hn : ∀ x, x = n → AtQ P f nt ops nq kk k ((i, .int kd x) :: e) L S w0 R) : AtQ P f nt ops nq kk k e L S w0 R :=
  AtQ.push h (hn n rfl)

theorem AtQ.letS (i : Nat) {n : ByteArray} (h : get? e i = some (.string n)) (hn : ∀ x, x = n → AtQ P f nt ops nq kk k ((i, .string x) :: e) L S w0 R) : AtQ P f nt ops nq kk k e L S w0 R :=
  AtQ.push h (hn n rfl)

theorem AtQ.letB (i : Nat) {n : Bool} (h : get? e i = some (.bool n)) (hn : ∀ x, x = n → AtQ P f nt ops nq kk k ((i, .bool x) :: e) L S w0 R) : AtQ P f nt ops nq kk k e L S w0 R :=
  AtQ.push h (hn n rfl)

theorem AtQ.indexS {s : ByteArray} {kd : IntKind} {i : Int} (h : asIndex P nt k e = some (some .string, .string s, .int kd i)) (hb : 0 ≤ i ∧ i < s.size)
    (hn : AtQ P f nt ops nq kk (nextK k) (putE e (curDst nt k e) (.int .u8 (bat s i))) L S w0 R) : AtQ P f nt ops nq kk k e L S w0 R := by
  unfold asIndex at h
  split at h
  · next o hc =>
    split at h
    · next T x ix ho =>
      simp only [Option.some.injEq, Prod.mk.injEq] at h
      obtain ⟨hT, hx, hi⟩ := h
      refine AtQ.opV hc (fun W _ => ?_) hn
      simp only [execOp, ho, hx, hi]
      refine run_lift ?_
      rw [run_index_string _ _ _ _ _ hT, dif_pos hb]
      have hlen : i.toNat < s.data.toList.length := by have : s.size = s.data.size := rfl; simp; omega
      have : (s[i.toNat]'(by omega)) = ((s.data.toList)[i.toNat]?).getD 0 := by
        rw [List.getElem?_eq_getElem hlen]; simp [ByteArray.getElem_eq_getElem_data]
      rw [this]; rfl
    · cases h
  · cases h

theorem AtQ.sliceS {s : ByteArray} {lo hi : Option Value} (h : asSlice P nt k e = some (some .string, .string s, lo, hi, none)) {a b : Int}
    (hlo : (∃ kd, lo = some (.int kd a)) ∨ (lo = none ∧ a = 0)) (hhi : (∃ kd, hi = some (.int kd b)) ∨ (hi = none ∧ b = s.size)) (hb : 0 ≤ a ∧ a ≤ b ∧ b ≤ s.size)
    (hn : AtQ P f nt ops nq kk (nextK k) (putE e (curDst nt k e) (.string (s.extract a.toNat b.toNat))) L S w0 R) : AtQ P f nt ops nq kk k e L S w0 R := by
  unfold asSlice at h
  split at h
  · next o hc =>
    split at h
    · next T x l2 h2 m2 ho =>
      simp only [Option.some.injEq, Prod.mk.injEq] at h
      obtain ⟨hT, hx, hl, hh, hm⟩ := h
      refine AtQ.opV hc (fun W _ => ?_) hn
      simp only [execOp, ho, hx, hl, hh, hm]
      refine run_lift ?_
      rw [run_sliceAt_string _ _ _ _ _ _ hT]
      rcases hlo with ⟨kd, rfl⟩ | ⟨rfl, rfl⟩ <;> rcases hhi with ⟨kd', rfl⟩ | ⟨rfl, rfl⟩
      · exact run_slice_string _ _ _ _ _ _ _ hT hb.1 hb.2.1 hb.2.2
      · rw [run_slice_string_from_if _ _ _ _ _ hT, if_pos ⟨hb.1, hb.2.1⟩]; simp
      · rw [run_slice_string_to_if _ _ _ _ _ hT, if_pos ⟨hb.2.1, hb.2.2⟩]; rfl
      · rw [run_slice_string_all _ _ _ hT]; simp
    · cases h
  · cases h

theorem AtQ.concat {x y : ByteArray} (h : asBin nt k e = some (.add, .string x, .string y)) (hb : x.size + y.size ≤ 9223372036854775807)
    (hn : AtQ P f nt ops nq kk (nextK k) (putE e (curDst nt k e) (.string (x ++ y))) L S w0 R) : AtQ P f nt ops nq kk k e L S w0 R := by
  obtain ⟨o, T, a, b, U, hc, ho, ha, hb'⟩ := asBin_spec h
  refine AtQ.opV hc (fun W _ => ?_) hn
  simp only [execOp, ho, ha, hb']
  refine run_lift ?_
  rw [Sem.run_bind, eqGuard_none _ _ _ _ _ _ (by simp)]
  simp only [Result.andThen, binOp, Op.stringOp]
  rw [if_neg (by show ¬ (((x.size + y.size : Nat) : Int) > 9223372036854775807); omega)]
  rfl

theorem AtQ.shl {kd kc : IntKind} {x y : Int} (h : asBin nt k e = some (.shl, .int kd x, .int kc y)) (hb : 0 ≤ y)
    (hn : AtQ P f nt ops nq kk (nextK k) (putE e (curDst nt k e) (.int kd (kd.wrap (x * 2 ^ (min y.toNat kd.bits))))) L S w0 R) : AtQ P f nt ops nq kk k e L S w0 R := by
  obtain ⟨o, T, a, b, U, hc, ho, ha, hb'⟩ := asBin_spec h
  refine AtQ.opV hc (fun W _ => ?_) hn
  simp only [execOp, ho, ha, hb']
  refine run_lift ?_
  rw [Sem.run_bind, eqGuard_none _ _ _ _ _ _ (by simp)]
  simp only [Result.andThen, binOp, Op.shift]
  rw [if_neg (by omega)]
  rfl

theorem AtQ.shr {kd kc : IntKind} {x y : Int} (h : asBin nt k e = some (.shr, .int kd x, .int kc y)) (hb : 0 ≤ y)
    (hn : AtQ P f nt ops nq kk (nextK k) (putE e (curDst nt k e) (.int kd (x.fdiv (2 ^ (min y.toNat kd.bits))))) L S w0 R) : AtQ P f nt ops nq kk k e L S w0 R := by
  obtain ⟨o, T, a, b, U, hc, ho, ha, hb'⟩ := asBin_spec h
  refine AtQ.opV hc (fun W _ => ?_) hn
  simp only [execOp, ho, ha, hb']
  refine run_lift ?_
  rw [Sem.run_bind, eqGuard_none _ _ _ _ _ _ (by simp)]
  simp only [Result.andThen, binOp, Op.shift]
  rw [if_neg (by omega)]
  rfl

theorem AtQ.rem {kd : IntKind} {x y : Int} (h : asBin nt k e = some (.rem, .int kd x, .int kd y)) (hb : y ≠ 0)
    (hn : AtQ P f nt ops nq kk (nextK k) (putE e (curDst nt k e) (.int kd (x.tmod y))) L S w0 R) : AtQ P f nt ops nq kk k e L S w0 R := by
  obtain ⟨o, T, a, b, U, hc, ho, ha, hb'⟩ := asBin_spec h
  refine AtQ.opV hc (fun W _ => ?_) hn
  simp only [execOp, ho, ha, hb']
  refine run_lift ?_
  rw [Sem.run_bind, eqGuard_none _ _ _ _ _ _ (by simp)]
  simp [Result.andThen, binOp, Op.intDiv, hb]

theorem AtQ.quo {kd : IntKind} {x y : Int} (h : asBin nt k e = some (.quo, .int kd x, .int kd y)) (hb : y ≠ 0)
    (hn : AtQ P f nt ops nq kk (nextK k) (putE e (curDst nt k e) (.int kd (kd.wrap (x.tdiv y)))) L S w0 R) : AtQ P f nt ops nq kk k e L S w0 R := by
  obtain ⟨o, T, a, b, U, hc, ho, ha, hb'⟩ := asBin_spec h
  refine AtQ.opV hc (fun W _ => ?_) hn
  simp only [execOp, ho, ha, hb']
  refine run_lift ?_
  rw [Sem.run_bind, eqGuard_none _ _ _ _ _ _ (by simp)]
  simp [Result.andThen, binOp, Op.intDiv, hb]

theorem AtQ.load (j off : Nat) {T : TypeId} {v : Value} (h : (asLoad nt k e, isCellsL L j, valAt P T (cellsL L j) off) = (some (T, .pointer (some ⟨blkL L j, off, none⟩)), true, some v))
    (hn : AtQ P f nt ops nq kk (nextK k) (putE e (curDst nt k e) v) L S w0 R) : AtQ P f nt ops nq kk k e L S w0 R := by
  simp only [Prod.mk.injEq] at h
  obtain ⟨h1, h2, h3⟩ := h
  obtain ⟨o, x, hc, ho, hx⟩ := asLoad_spec h1
  refine AtQ.opV hc (fun W hm => ?_) hn
  simp only [execOp, ho, hx]
  exact run_lift (load_run (hm.heapAt h2) h3)

theorem AtQ.loadS (j : Nat) {off : Nat} {T : TypeId} {v : Value} {c : List Value} (h : (asLoad nt k e, isCellsL L j, cellsL L j) = (some (T, .pointer (some ⟨blkL L j, off, none⟩)), true, c)) (h3 : valAt P T c off = some v)
    (hn : AtQ P f nt ops nq kk (nextK k) (putE e (curDst nt k e) v) L S w0 R) : AtQ P f nt ops nq kk k e L S w0 R := by
  simp only [Prod.mk.injEq] at h
  obtain ⟨h1, h2, h4⟩ := h
  obtain ⟨o, x, hc, ho, hx⟩ := asLoad_spec h1
  refine AtQ.opV hc (fun W hm => ?_) hn
  simp only [execOp, ho, hx]
  exact run_lift (load_run (hm.heapAt h2) (h4 ▸ h3))

theorem AtQ.loadW {b off : Nat} {T : TypeId} {v : Value} {c : List Value} (h : asLoad nt k e = some (T, .pointer (some ⟨b, off, none⟩))) (hb : b ∉ S) (hc : blkW w0 b = some c) (hv : valAt P T c off = some v)
    (hn : AtQ P f nt ops nq kk (nextK k) (putE e (curDst nt k e) v) L S w0 R) : AtQ P f nt ops nq kk k e L S w0 R := by
  obtain ⟨o, x, hcu, ho, hx⟩ := asLoad_spec h
  refine AtQ.opV hcu (fun W hm => ?_) hn
  simp only [execOp, ho, hx]
  refine run_lift ?_
  unfold blkW at hc
  split at hc
  · next c' t fz hh =>
    simp at hc; subst hc
    have hlt : b < w0.heap.size := by
      rcases Nat.lt_or_ge b w0.heap.size with h | h
      · exact h
      · rw [Array.getElem?_eq_none h] at hh; cases hh
    refine load_run (t := t) (fz := fz) ?_ hv
    rw [hm.kept.block b hlt hb, hh]
  · cases hc

theorem AtQ.indexAddrL {E : TypeId} {b o len cap sz o' : Nat} {kd : IntKind} {i : Int} (h : (asIndexAddr P nt k e, (P.info? E).map (·.size)) = (some (some (.slice E), .slice (some ⟨b, o, none⟩) len cap, .int kd i), some sz))
    (hb : 0 ≤ i ∧ i < len) (ho : o' = o + i.toNat * sz) (hn : AtQ P f nt ops nq kk (nextK k) (putE e (curDst nt k e) (.pointer (some ⟨b, o', none⟩))) L S w0 R) : AtQ P f nt ops nq kk k e L S w0 R := by
  simp only [Prod.mk.injEq] at h
  obtain ⟨h1, h2⟩ := h
  obtain ⟨op, T, x, y, hc, hop, hd, hx, hy⟩ := asIndexAddr_spec h1
  cases hq : P.info? E with
  | none => rw [hq] at h2; cases h2
  | some ii =>
    rw [hq] at h2; simp at h2
    refine AtQ.opV hc (fun W hm => ?_) hn
    simp only [execOp, hop, hx, hy]
    refine run_lift ?_
    simp only [Instr.indexAt, asIntOf, Sem.run_bind, Sem.run_pure, Result.andThen_ok, run_underlying hd, hb, and_self, if_true, sizeOf, typeInfo, run_program, hq, addr_add, h2, ← ho]

theorem AtQ.indexAddrA {E : TypeId} {n b o sz o' : Nat} {kd : IntKind} {i : Int} (h : (asIndexAddr P nt k e, (P.info? E).map (·.size)) = (some (some (.array n E), .pointer (some ⟨b, o, none⟩), .int kd i), some sz))
    (hb : 0 ≤ i ∧ i < n) (ho : o' = o + i.toNat * sz) (hn : AtQ P f nt ops nq kk (nextK k) (putE e (curDst nt k e) (.pointer (some ⟨b, o', none⟩))) L S w0 R) : AtQ P f nt ops nq kk k e L S w0 R := by
  simp only [Prod.mk.injEq] at h
  obtain ⟨h1, h2⟩ := h
  obtain ⟨op, T, x, y, hc, hop, hd, hx, hy⟩ := asIndexAddr_spec h1
  cases hq : P.info? E with
  | none => rw [hq] at h2; cases h2
  | some ii =>
    rw [hq] at h2; simp at h2
    refine AtQ.opV hc (fun W hm => ?_) hn
    simp only [execOp, hop, hx, hy]
    refine run_lift ?_
    simp only [Instr.indexAt, asIntOf, Instr.sureAddr, Sem.run_bind, Sem.run_pure, Result.andThen_ok, run_underlying hd, hb, and_self, if_true, sizeOf, typeInfo, run_program, hq, addr_add, h2, ← ho]

theorem AtQ.sliceL {E : TypeId} {b o len cap sz o' l' c' : Nat} {lo hi : Option Value} {x y : Int} (h : (asSlice P nt k e, (P.info? E).map (·.size)) = (some (some (.slice E), .slice (some ⟨b, o, none⟩) len cap, lo, hi, none), some sz))
    (hlo : (∃ kd, lo = some (.int kd x)) ∨ (lo = none ∧ x = 0)) (hhi : (∃ kd, hi = some (.int kd y)) ∨ (hi = none ∧ y = len ∧ len ≤ cap)) (hb : 0 ≤ x ∧ x ≤ y ∧ y ≤ cap)
    (ho : o' = if x.toNat = cap then o else o + x.toNat * sz) (hl : l' = y.toNat - x.toNat) (hcap : c' = cap - x.toNat)
    (hn : AtQ P f nt ops nq kk (nextK k) (putE e (curDst nt k e) (.slice (some ⟨b, o', none⟩) l' c')) L S w0 R) : AtQ P f nt ops nq kk k e L S w0 R := by
  simp only [Prod.mk.injEq] at h
  obtain ⟨h1, h2⟩ := h
  unfold asSlice at h1
  split at h1
  · next op hc =>
    split at h1
    · next T x' l2 h2' m2 hop =>
      simp only [Option.some.injEq, Prod.mk.injEq] at h1
      obtain ⟨hT, hx, hl2, hh2, hm2⟩ := h1
      cases hq : P.info? E with
      | none => rw [hq] at h2; cases h2
      | some ii =>
        rw [hq] at h2; simp at h2
        refine AtQ.opV hc (fun W hm => ?_) hn
        simp only [execOp, hop, hx, hl2, hh2, hm2]
        refine run_lift ?_
        have key : (Instr.sliceBounds true len cap lo hi none).run P W = .ok (x.toNat, y.toNat, cap) W := by
          have hy : (y.toNat : Int) = y := Int.toNat_of_nonneg (by omega)
          have b1 : ∀ kd code, (Instr.sliceBound (.int kd y) cap code).run P W = .ok y.toNat W := fun kd code => run_sliceBound W kd y cap code (by omega) hb.2.2
          have b2 : ∀ kd code, (Instr.sliceBound (.int kd x) y.toNat code).run P W = .ok x.toNat W := fun kd code => run_sliceBound W kd x y.toNat code hb.1 (by omega)
          rcases hlo with ⟨kd, rfl⟩ | ⟨rfl, rfl⟩ <;> rcases hhi with ⟨kd', rfl⟩ | ⟨rfl, rfl, _⟩
          · simp only [Instr.sliceBounds, Sem.run_bind, Sem.run_pure, Result.andThen_ok, b1, b2]
          · simp only [Instr.sliceBounds, Sem.run_bind, Sem.run_pure, Result.andThen_ok]
            have := b2 kd .sliceB
            simp only [Int.toNat_natCast] at this
            simp [this]
          · simp only [Instr.sliceBounds, Sem.run_bind, Sem.run_pure, Result.andThen_ok, b1]; rfl
          · simp only [Instr.sliceBounds, Sem.run_bind, Sem.run_pure, Result.andThen_ok]; simp
        simp only [Instr.sliceAt, Sem.run_bind, run_underlying hT, Result.andThen_ok, Instr.slice, key, sizeOf, typeInfo, run_program, hq, Sem.run_pure]
        simp only [Option.map_some, addr_add, h2]
        rw [ho, hl, hcap]
        congr 1
        by_cases hcx : cap = x.toNat
        · simp [hcx]
        · have : ¬ x.toNat = cap := fun h => hcx h.symm
          simp [hcx, this]
    · cases h1
  · cases h1

theorem AtQ.toString (j : Nat) {E : TypeId} {o len cap : Nat} {c : List Value} {l : List UInt8}
    (h : (asConv P nt k e, P.underlying E, isCellsL L j, cellsL L j) = (some (some (.slice E), some .string, .slice (some ⟨blkL L j, o, none⟩) len cap), some (.int .u8), true, c))
    (hl : (c.drop o).take len = bytesL l ∧ l.length = len)
    (hn : AtQ P f nt ops nq kk (nextK k) (putE e (curDst nt k e) (.string ⟨l.toArray⟩)) L S w0 R) : AtQ P f nt ops nq kk k e L S w0 R := by
  simp only [Prod.mk.injEq] at h
  obtain ⟨h1, h2, h3, h4⟩ := h
  obtain ⟨op, ts, td, x, hc, ho, hs, hd, hx⟩ := asConv_spec h1
  refine AtQ.opV hc (fun W hm => ?_) hn
  have hh := hm.heapAt h3
  rw [h4] at hh
  simp only [execOp, ho, hx]
  refine run_lift ?_
  simp only [convert, Sem.run_bind, run_underlying hs, run_underlying hd, Result.andThen_ok, run_underlying h2]
  have hld : (loadCells ⟨blkL L j, o, none⟩ len).run P W = .ok ((l.map fun b => (b.toNat : Int)).map (Value.int .u8)).toArray W := by
    have := run_loadCells_list (P := P) (w := W) ⟨blkL L j, o, none⟩ (bytesL l) (fun i u hi => ?_)
    · have e1 : (bytesL l).length = len := by simp [bytesL, hl.2]
      rw [e1] at this
      rw [this]; simp [bytesL, Function.comp_def]
    · rw [addr_add, cell_of_heap hh]
      rw [← hl.1, List.getElem?_take] at hi
      split at hi
      · rw [List.getElem?_drop] at hi; exact hi
      · cases hi
  rw [run_bytesToString W _ _ _ _ hld, foldl_push]
  rfl

end Go.Eng
