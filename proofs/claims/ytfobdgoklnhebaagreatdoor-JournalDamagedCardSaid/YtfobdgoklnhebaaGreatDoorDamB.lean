/- A part of the proof. -/
import Derived.Handed
import Derived.ChangeSame
import Derived.Carry
import Derived.OpenShut
import Derived.LaidLaws
import Derived.JoinedOf
import Derived.RowKit
import Derived.RowKit2
import Derived.ChangeSlices
import Derived.SliceStrings
import Derived.Test.YtfobdgoklnhebaaGreatDoorDamA
set_option linter.unusedVariables false
set_option linter.unusedSimpArgs false
set_option maxRecDepth 100000
namespace Go.Eng
section
open Go Go.RowKit
variable {P : Program} {f nt : Nat} {k : List Item} {e : Env} {L : SHeap} {S : List Nat} {w0 : World} {R : Goal P}
theorem AtE.permL {L' : SHeap} (hp : L'.Perm L) (hn : AtE P f nt k e L' S w0 R) : AtE P f nt k e L S w0 R := fun t W M hm => hn t W M (hm.perm hp)
def AppN (P : Program) (sz : Nat) (T U : TypeId) (s : Value) (m : Nat) (news : List Value) (L : SHeap) (S : List Nat) (w0 : World) (K : Value → SHeap → Prop) : Prop :=
 ∀ x ty W, Mem L S w0 W → Go.Src P sz U x m news W → ∃ v W' L', (Builtin.append_ #[T, U] ty #[s, x]).run P W = .ok v W' ∧ Mem L' S w0 W' ∧ K v L'
theorem AtE.appendT {sz : Nat} {T U : TypeId} {s x : Value} (m : Nat) (O : List Value) {K : Value → SHeap → Prop}
  (h : asBuiltin nt k e = some (.append, [s, x], [T, U])) (a6 : ∀ W, Mem L S w0 W → Go.Src P sz U x m O W) (H : AppN P sz T U s m O L S w0 K)
  (hn : ∀ v L', K v L' → AtE P f nt (nextK k) (putE e (curDst nt k e) v) L' S w0 R) : AtE P f nt k e L S w0 R := by
 obtain ⟨o, cl, a2, a5, a3, a1, a7⟩ := asBuiltin_spec h
 refine AtE.opB a2 a5 a3 a1 a7 (by simp) fun W hm => ?_
 obtain ⟨v, M, L', V, Z, a0⟩ := H x o.type W hm (a6 W hm)
 exact ⟨v, M, run_lift V, fun t a4 => hn v L' a0 t M a4 Z⟩
theorem AtM.appendT {ops : Array Oper} {n : Nat} {kk : List Item} {L0 : SHeap} (L1 : SHeap) {sz : Nat} {T U : TypeId} {s x : Value} (m : Nat) (M : List Value) {K : Value → SHeap → Prop} (a4 : L = L0 ++ L1)
  (h : asBuiltin nt k e = some (.append, [s, x], [T, U])) (a6 : ∀ W, Mem L S w0 W → Go.Src P sz U x m M W) (H : AppN P sz T U s m M L S w0 K)
  (hn : ∀ v L', K v L' → AtM P f nt ops n kk L0 (nextK k) (putE e (curDst nt k e) v) L' S w0 R) : AtM P f nt ops n kk L0 k e L S w0 R := by
 obtain ⟨o, cl, a2, a5, a3, a1, a7⟩ := asBuiltin_spec h
 refine AtM.opW L1 a4 a2 fun W hm => ?_
 rw [run_builtin a5 a3 a1 a7 (by simp) W]
 obtain ⟨v, O, L', V, Z, a0⟩ := H x o.type W hm (a6 W hm)
 exact ⟨v, L', O, run_lift V, Z, hn v L' a0⟩
theorem srcRow {U E' : TypeId} {sz n c0 B : Nat} {t : TypeId} {fz : Nat × Nat} {c : List Value} (V : (B, Obj.cells ⟨c⟩ t fz) ∈ L) (O : P.underlying U = some (.slice E')) (Z : c.length = n * sz) (M : ∀ u ∈ c, u.oneCell' = true) :
  ∀ W, Mem L S w0 W → Go.Src P sz U (.slice (some ⟨B, 0, none⟩) n c0) n c W :=
 fun W hm => Go.Src.ofSlice W O ⟨B, 0, none⟩ n c0 c Z (fun j u a0 => by rw [addr_add, Nat.zero_add, cell_of_heap (hm.here _ V)]; exact a0) M
theorem perm_tail {y : Nat × Obj} {A F F0 : SHeap} (hp : F.Perm (y :: F0)) : (y :: (A ++ F0)).Perm (A ++ F) := List.perm_middle.symm.trans (hp.symm.append_left A)
theorem AppN.mono {sz : Nat} {T U : TypeId} {s : Value} {m : Nat} {M : List Value} {K K' : Value → SHeap → Prop} (h : AppN P sz T U s m M L S w0 K) (a1 : ∀ v L', K v L' → K' v L') : AppN P sz T U s m M L S w0 K' := by
 intro x ty W hm a2
 obtain ⟨v, O, L', V, Z, a0⟩ := h x ty W hm a2
 exact ⟨v, O, L', V, Z, a1 v L' a0⟩
theorem AppN.nil {T U E : TypeId} {z : Value} {sz bytes m : Nat} {M : List Value} (Z : P.underlying T = some (.slice E)) (hi : infoZ P E = some (some z, sz, bytes)) (a4 : z.cells.size = sz)
  (a6 : 0 < m) (a0 : m ≤ 9223372036854775807 ∧ m * bytes ≤ 140737488355328) :
  AppN P sz T U (.slice none 0 0) m M L S w0 (fun v L' => ∃ B cap r, v = .slice (some ⟨B, 0, none⟩) m cap ∧ m ≤ cap ∧ (M ++ r).length = cap * sz ∧ L' = L ++ [(B, .cells ⟨M ++ r⟩ E)]) := by
 intro x ty W hm V
 obtain ⟨i, hi, a5, a3, a1⟩ := info_open hi
 have O := run_append_grow_src W T U ty E i z Z hi a5 none 0 0 [] (by simp [Builtin.firstCells]) x m M (by rw [a3]; exact V) (by omega) (by omega) (growslice_fits (by omega) (by rw [a1, Nat.zero_add]; exact a0.2))
 have a2 : (([] ++ M).toArray ++ Builtin.zeroCells z.cells (grownCap W (0 + m) 0 E - (0 + m))) = ⟨M ++ (Builtin.zeroCells z.cells (grownCap W (0 + m) 0 E - (0 + m))).toList⟩ := by
  apply Array.toList_inj.1; simp
 rw [a2, Nat.zero_add] at O
 refine ⟨_, _, _, O, hm.drew.alloc _, W.heap.size, grownCap W m 0 E, (Builtin.zeroCells z.cells (grownCap W m 0 E - m)).toList, rfl, grownCap_ge W m 0 E, ?_, rfl⟩
 have := grownCap_ge W m 0 E
 rw [List.length_append, zeroCells_len, V.newsLen, a4, ← Nat.add_mul]
 congr 1
 omega
theorem AppN.row {T U E : TypeId} {z : Value} {sz bytes m n cap Q : Nat} {cs M : List Value} {L0 : SHeap} (a4 : P.underlying T = some (.slice E)) (hi : infoZ P E = some (some z, sz, bytes)) (b7 : z.cells.size = sz)
  (hp : L.Perm ((Q, .cells ⟨cs⟩ E) :: L0)) (a1 : n ≤ cap ∧ cs.length = cap * sz) (c2 : 0 < m) (a7 : n + m ≤ 9223372036854775807 ∧ (n + m) * bytes ≤ 140737488355328) :
  AppN P sz T U (.slice (some ⟨Q, 0, none⟩) n cap) m M L S w0 (fun v L' => ∃ B Z r, v = .slice (some ⟨B, 0, none⟩) (n + m) Z ∧ n + m ≤ Z ∧ (cs.take (n * sz) ++ M ++ r).length = Z * sz ∧
   ((B = Q ∧ Z = cap ∧ L' = (Q, .cells ⟨cs.take (n * sz) ++ M ++ r⟩ E) :: L0) ∨ L' = (B, .cells ⟨cs.take (n * sz) ++ M ++ r⟩ E) :: (Q, .cells ⟨cs⟩ E) :: L0)) := by
 intro x ty W b4 a3
 have hm : Mem ((Q, .cells ⟨cs⟩ E) :: L0) S w0 W := b4.perm hp.symm
 obtain ⟨i, hi, b9, V, a8⟩ := info_open hi
 have a5 := a3.newsLen
 have a0 : W.heap[Q]? = some (.cells ⟨cs⟩ E (0, 0)) := hm.here _ List.mem_cons_self
 have a6 : n * sz ≤ cs.length := by rw [a1.2]; exact Nat.mul_le_mul_right _ a1.1
 by_cases hroom : n + m ≤ cap
 ·have b0 : n * sz + M.length ≤ cs.length := by
   rw [a5, a1.2, ← Nat.add_mul]; exact Nat.mul_le_mul_right _ hroom
  have O := run_append_room_src W T U ty E i a4 hi Q 0 n cap x m M (by rw [V]; exact a3) hroom
   (fun q b6 => by rw [V, Nat.zero_add, cell_of_heap a0, List.getElem?_eq_getElem (by omega)]; rfl)
   (fun q b6 => by simp [World.frozen?, a0])
  rw [V, Nat.zero_add, setCells_setRow a0 M b0] at O
  refine ⟨_, _, _, O, hm.setRow (j := 0) rfl _, Q, cap, cs.drop (n * sz + M.length), rfl, hroom, ?_, .inl ⟨rfl, rfl, rfl⟩⟩
  simp only [List.length_append, List.length_take, List.length_drop]
  rw [← a1.2]; omega
 ·have b5 : (Builtin.firstCells i.size n (.slice (some ⟨Q, 0, none⟩) n cap)).run P W.drew = .ok (cs.take (n * sz)).toArray W.drew := by
   rw [V]
   refine run_firstCells_some W.drew sz n ⟨Q, 0, none⟩ n cap (cs.take (n * sz)) (by rw [List.length_take]; exact Nat.min_eq_left a6) fun q u a2 => ?_
   have b1 : W.drew.heap[Q]? = some (.cells ⟨cs⟩ E (0, 0)) := a0
   rw [addr_add, cell_of_heap b1, Nat.zero_add]
   rw [List.getElem?_take] at a2
   split at a2
   ·exact a2
   ·cases a2
  have b3 : (cs.take (n * sz)).length = n * sz := by rw [List.length_take]; exact Nat.min_eq_left a6
  have O := run_append_grow_src W T U ty E i z a4 hi b9 (some ⟨Q, 0, none⟩) n cap (cs.take (n * sz)) b5 x m M (by rw [V]; exact a3) (by omega) (by omega) (growslice_fits (by omega) (by rw [a8]; exact a7.2))
  have a9 : ((cs.take (n * sz) ++ M).toArray ++ Builtin.zeroCells z.cells (grownCap W (n + m) cap E - (n + m))) = ⟨cs.take (n * sz) ++ M ++ (Builtin.zeroCells z.cells (grownCap W (n + m) cap E - (n + m))).toList⟩ := by
   apply Array.toList_inj.1; simp
  rw [a9] at O
  refine ⟨_, _, _, O, (hm.drew.alloc _).perm (L' := (W.heap.size, _) :: (Q, .cells ⟨cs⟩ E) :: L0) ?_, W.heap.size, grownCap W (n + m) cap E, (Builtin.zeroCells z.cells (grownCap W (n + m) cap E - (n + m))).toList, rfl, grownCap_ge W (n + m) cap E, ?_, .inr rfl⟩
  ·exact List.perm_append_comm (l₁ := [_])
  ·rw [List.length_append, List.length_append, zeroCells_len, a5, b7, b3, ← Nat.add_mul, ← Nat.add_mul]
   congr 1
   have := grownCap_ge W (n + m) cap E
   omega
theorem AtE.storeA (j : Nat) {off n : Nat} {T : TypeId} {vs : List Value} {c : List Value} (h : (asStore nt k e, isCellsL L j, (P.info? T).map (·.size), cellsL L j, fzL L j, vs.length, allOne vs) = (some (T, .pointer (some ⟨blkL L j, off, none⟩), .agg ⟨vs⟩), true, some n, c, (0, 0), n, true))
  (a4 : off + n ≤ c.length) (hn : AtE P f nt (nextK k) (putE e (curDst nt k e) undef) (setL L j (over c off vs)) S w0 R) : AtE P f nt k e L S w0 R := by
 simp only [Prod.mk.injEq] at h
 obtain ⟨Z, O, M, a0, a1, a2, a3⟩ := h
 obtain ⟨o, x, y, a5, a6, a7, a8⟩ := asStore_spec Z
 refine AtE.opK a5 (fun W hm => ⟨W.setRow (blkL L j) ⟨over c off vs⟩, ?_, hm.setRow O _⟩) hn
 have V := hm.heapAt O
 rw [a0, a1] at V
 have hp : putC P T c off (.agg ⟨vs⟩) = some (over c off vs) := by
  unfold putC
  cases hq : P.info? T with
  | none => rw [hq] at M; cases M
  | some i =>
   rw [hq] at M; simp at M
   have this : ((Nat.beq (Value.agg ⟨vs⟩).cells.toList.length i.size && Nat.ble (off + i.size) c.length) && allOne (Value.agg ⟨vs⟩).cells.toList) = true := by
    rw [M]
    have e1 : (Value.agg ⟨vs⟩).cells.toList = vs := rfl
    rw [e1, a3, a2, Nat.ble_eq_true_of_le a4]
    simp
   show (bif ((Nat.beq (Value.agg ⟨vs⟩).cells.toList.length i.size && Nat.ble (off + i.size) c.length) && allOne (Value.agg ⟨vs⟩).cells.toList) then some _ else none) = _
   rw [this]
   rfl
 simp only [execOp, a6, a7, a8]
 rw [Sem.run_bind, store_run V hp]; rfl
theorem findNow_at (kd : IntKind) (n : Int) : ∀ (es : List MapEntry) (i : Nat), intKeys kd es = true →
  (Instr.findNow (.int kd) (.int kd n) es i = some none ∧ entryI kd n es = none) ∨
  ∃ p, ∃ h : p < es.length, Instr.findNow (.int kd) (.int kd n) es i = some (some (i + p, es[p].val)) ∧ es[p].key = .int kd n ∧
   ∀ v, intKeys kd (es.modify p fun e => { e with key := .int kd n, val := v }) = true ∧ ∀ q, entryI kd q (es.modify p fun e => { e with key := .int kd n, val := v }) = if q = n then some v else entryI kd q es
 | [], i, _ => .inl ⟨rfl, rfl⟩
 | e :: es, i, h => by
  unfold intKeys at h
  split at h
  ·next kd' m hk =>
   simp only [Bool.and_eq_true, decide_eq_true_eq] at h
   obtain ⟨rfl, h⟩ := h
   by_cases hnm : n = m
   ·subst hnm
    refine .inr ⟨0, by simp, ?_, hk, fun v => ⟨?_, fun q => ?_⟩⟩
    ·unfold Instr.findNow
     simp [hk, Instr.sameNow]
    ·simp only [List.modify_zero_cons, intKeys, decide_true, Bool.true_and]; exact h
    ·simp only [List.modify_zero_cons, entryI, hk]
     by_cases hq : q = n
     ·rw [if_pos hq, if_pos hq]
     ·rw [if_neg hq, if_neg hq, if_neg hq]
   ·have V : (n == m) = false := by simpa using hnm
    have O : ∀ j, Instr.findNow (.int kd) (.int kd n) (e :: es) j = Instr.findNow (.int kd) (.int kd n) es (j + 1) := by
     intro j
     conv => lhs; unfold Instr.findNow
     simp [hk, Instr.sameNow, V]
    have M : ∀ r : List MapEntry, ∀ q, entryI kd q (e :: r) = if q = m then some e.val else entryI kd q r := by
     intro r q
     conv => lhs; unfold entryI
     simp only [hk]
    rcases findNow_at kd n es (i + 1) h with ⟨h1, h2⟩ | ⟨p, hp, h1, h2, h3⟩
    ·exact .inl ⟨by rw [O, h1], by rw [M, if_neg hnm, h2]⟩
    ·refine .inr ⟨p + 1, by simpa using hp, ?_, by simpa using h2, fun v => ⟨?_, fun q => ?_⟩⟩
     ·rw [O, h1]; simp; omega
     ·rw [List.modify_succ_cons]
      unfold intKeys
      simp only [hk, decide_true, Bool.true_and]
      exact (h3 v).1
     ·rw [List.modify_succ_cons, M, M, (h3 v).2]
      by_cases hq : q = m
      ·rw [if_pos hq, if_pos hq, if_neg (fun Z : q = n => hnm (Z.symm.trans hq))]
      ·rw [if_neg hq, if_neg hq]
  ·cases h
theorem entryI_push (kd : IntKind) (n : Int) (v : Value) (b : Nat) (q : Int) : ∀ (es : List MapEntry), intKeys kd es = true → entryI kd n es = none →
  intKeys kd (es ++ [{ key := .int kd n, val := v, born := b }]) = true ∧ entryI kd q (es ++ [{ key := .int kd n, val := v, born := b }]) = if q = n then some v else entryI kd q es
 | [], _, _ => by simp [intKeys, entryI]
 | e :: es, h, hne => by
  unfold intKeys at h
  split at h
  ·next kd' m hk =>
   simp only [Bool.and_eq_true, decide_eq_true_eq] at h
   obtain ⟨rfl, h⟩ := h
   have M : ∀ r : List MapEntry, ∀ q, entryI kd q (e :: r) = if q = m then some e.val else entryI kd q r := by
    intro r q
    conv => lhs; unfold entryI
    simp only [hk]
   rw [M] at hne
   by_cases hnm : n = m
   ·rw [if_pos hnm] at hne; cases hne
   ·rw [if_neg hnm] at hne
    obtain ⟨V, Z⟩ := entryI_push kd n v b q es h hne
    refine ⟨?_, ?_⟩
    ·rw [List.cons_append]
     unfold intKeys
     simp only [hk, decide_true, Bool.true_and]; exact V
    ·rw [List.cons_append, M, M, Z]
     by_cases hq : q = m
     ·rw [if_pos hq, if_pos hq, if_neg (fun O : q = n => hnm (O.symm.trans hq))]
     ·rw [if_neg hq, if_neg hq]
  ·cases h
theorem AtE.mapPut (j : Nat) {b c : Nat} {es : Array MapEntry} {kt et : TypeId} {kd : IntKind} {n : Int} {v : Value}
  (h : (asInsert P nt k e, mapL L j, P.underlying kt) = (some (some (.map kt et), .map (some b), .int kd n, v), some (b, es, c), some (.int kd))) (hi : intKeys kd es.toList = true)
  (hn : ∀ V c', intKeys kd V.toList = true → (∀ q, entryI kd q V.toList = if q = n then some v else entryI kd q es.toList) →
   AtE P f nt (nextK k) (putE e (curDst nt k e) undef) (L.set j (b, .map V c')) S w0 R) : AtE P f nt k e L S w0 R := by
 simp only [Prod.mk.injEq] at h
 obtain ⟨a8, a9, M⟩ := h
 obtain ⟨o, t, O, a7, a5⟩ := asInsert_spec a8
 have Z := mapL_spec a9
 have a2 : ∀ W, Mem L S w0 W → W.heap[b]? = some (.map es c) := fun W hm => hm.here _ (List.mem_of_getElem? Z)
 have a3 : ∀ W, Mem L S w0 W → (getObj b).run P W = .ok (.map es c) W := fun W hm => by simp [getObj, Sem.run, a2 W hm]
 have a6 : ∀ W, Mem L S w0 W → ∀ o', (setObj b o').run P W = .ok () (W.putObj b o') := fun W hm o' => by simp [setObj, Sem.run, a2 W hm, World.putObj]
 rcases findNow_at kd n es.toList 0 hi with ⟨f1, f2⟩ | ⟨p, hp, f1, f2, f3⟩
 ·refine AtE.opSkip O fun W hm => ⟨W.putObj b (.map (es.push { key := .int kd n, val := v, born := c }) (c + 1)), ?_, fun a1 a0 => hn (es.push { key := .int kd n, val := v, born := c }) (c + 1) ?_ (fun q => ?_) a1 _ (by simpa only [curDst, O] using a0) (hm.putObj Z _)⟩
  ·rw [a5]
   simp [Instr.mapUpdate, Sem.run_bind, run_underlying a7, a3 W hm, checkKey_int M, Instr.findKey, run_underlying M, f1, a6 W hm]
  ·rw [Array.toList_push]; exact (entryI_push kd n v c 0 es.toList hi f2).1
  ·rw [Array.toList_push]; exact (entryI_push kd n v c q es.toList hi f2).2
 ·have a4 : (es.modify p fun e => { e with key := .int kd n, val := v }).toList = es.toList.modify p fun e => { e with key := .int kd n, val := v } := by
   simp
  refine AtE.opSkip O fun W hm => ⟨W.putObj b (.map (es.modify p fun e => { e with key := .int kd n, val := v }) c), ?_, fun a1 a0 => hn (es.modify p fun e => { e with key := .int kd n, val := v }) c ?_ (fun q => ?_) a1 _ (by simpa only [curDst, O] using a0) (hm.putObj Z _)⟩
  ·rw [a5]
   have b4 : p < es.size := by simpa using hp
   have b0 : es[p].key = .int kd n := by simpa using f2
   have b5 : Instr.sameBits 10000 (.int kd n) (.int kd n) = true := by simp [Instr.sameBits]
   have b1 : (Instr.keyThatStays (.int kd n) (.int kd n)).run P W = .ok (.int kd n) W := by unfold Instr.keyThatStays; rw [b5]; rfl
   have b3 : ((es[p]?).map (·.key)).getD (.int kd n) = .int kd n := by rw [Array.getElem?_eq_getElem b4]; simp [b0]
   simp only [Nat.zero_add] at f1
   simp [Instr.mapUpdate, Sem.run_bind, run_underlying a7, a3 W hm, checkKey_int M, Instr.findKey, run_underlying M, f1, a6 W hm, b3, b1]
  ·rw [a4]; exact (f3 v).1
  ·rw [a4]; exact (f3 v).2 q
theorem AtE.mapGet (j : Nat) {b c : Nat} {es : Array MapEntry} {kt et : TypeId} {kd : IntKind} {n : Int} {z : Value} (u : Value)
  (h : (asLookup P nt k e, mapL L j, P.underlying kt, (infoZ P et).map (·.1)) = (some (some (.map kt et), .map (some b), .int kd n, false), some (b, es, c), some (.int kd), some (some z))) (hi : intKeys kd es.toList = true)
  (a6 : (entryI kd n es.toList).getD z = u) (hn : AtE P f nt (nextK k) (putE e (curDst nt k e) u) L S w0 R) : AtE P f nt k e L S w0 R := by
 simp only [Prod.mk.injEq] at h
 obtain ⟨O, V, Z, a0⟩ := h
 obtain ⟨o, t, M, a5, a4⟩ := asLookup_spec O
 have a2 := mapL_spec V
 refine AtE.op M fun W hm => ?_
 have a1 : W.heap[b]? = some (.map es c) := hm.here _ (List.mem_of_getElem? a2)
 refine ⟨u, W, ?_, fun a7 a3 => hn a7 W (by simpa only [curDst, M] using a3) hm⟩
 rw [a4, Sem.run_bind, lookup_run a5 Z a0 a1 hi, ← a6]
 cases entryI kd n es.toList <;> rfl
end
section
open Go Go.RowKit
abbrev IV (n : Int) : Value := .int .i64 n
abbrev SO (B : Nat) : Option Addr := some ⟨B, 0, none⟩
abbrev PP (B : Nat) : Value := .pointer (some ⟨B, 0, none⟩)
abbrev OA : Type := Option Addr
abbrev BA : Type := ByteArray
def pthG : Nat → Nat → List Nat → List Nat
 | 0, _, a => a
 | g + 1, n, a => bif Nat.ble n 1 then a else pthG g (n / 2) (n % 2 :: a)
def kst : Code → List Nat → List Item → List Item
 | .seq a b, i :: r, k => match i with | 0 => kst a r (.code b :: k) | _ => kst b r k
 | .cond _ a b, i :: r, k => match i with | 0 => kst a r k | _ => kst b r k
 | .block id b, _ :: r, k => kst b r (.inBlock id :: k)
 | .loop b, _ :: r, k => kst b r (.inLoop b :: k)
 | .scope b, _ :: r, k => kst b r (.inScope b :: k)
 | _, _, k => k
abbrev KS (fn : Func) (n : Nat) : List Item := kst (body fn) (pthG 99 n []) []
abbrev SB (fn : Func) (n : Nat) : Code := sub (body fn) (pthG 99 n [])
abbrev KC (fn : Func) (n : Nat) : List Item := .code (SB fn n) :: KS fn n
abbrev KR (fn : Func) (n : Nat) (l : List Nat) : List Item := .inRegion (regOps [.code (SB fn n)]) l :: KS fn n
variable {P : Program} {f nt : Nat} {k : List Item} {e : Env} {L : SHeap} {S : List Nat} {w0 : World} {R : Goal P}
theorem AtE.nm (k' : List Item) (e' : Env) (L' : SHeap) (hn : AtE P f nt k' e' L' S w0 R) (h : (k, restrict e (e'.map (·.1)), L) = (k', some e', L') := by kernel_rfl) : AtE P f nt k e L S w0 R := AtE.norm hn h
def ldT (nt : Nat) (k : List Item) (e : Env) : TypeId := match asLoad nt k e with | some (T, _) => T | none => 0
def ldV (P : Program) (nt : Nat) (k : List Item) (e : Env) (L : SHeap) (j off : Nat) : Value := (valAt P (ldT nt k e) (cellsL L j) off).getD undef
def ldB (P : Program) (nt : Nat) (k : List Item) (e : Env) (L : SHeap) (j off : Nat) : Bool := isCellsL L j && (valAt P (ldT nt k e) (cellsL L j) off).isSome
theorem ld_h {j off : Nat} (O : asLoad nt k e = some (ldT nt k e, .pointer (some ⟨blkL L j, off, none⟩))) (M : ldB P nt k e L j off = true) :
  (asLoad nt k e, isCellsL L j, valAt P (ldT nt k e) (cellsL L j) off) = (some (ldT nt k e, .pointer (some ⟨blkL L j, off, none⟩)), true, some (ldV P nt k e L j off)) := by
 unfold ldB at M
 rw [Bool.and_eq_true] at M
 obtain ⟨v, V⟩ := Option.isSome_iff_exists.1 M.2
 rw [O, M.1, ldV, V]; rfl
theorem AtE.ld (j off : Nat) (hn : AtE P f nt (nextK k) (putE e (curDst nt k e) (ldV P nt k e L j off)) L S w0 R) (M : asLoad nt k e = some (ldT nt k e, .pointer (some ⟨blkL L j, off, none⟩)) := by kernel_rfl) (O : ldB P nt k e L j off = true := by kernel_rfl) : AtE P f nt k e L S w0 R := AtE.load j off (ld_h M O) hn
theorem AtF.ld {K : Env → Prop} (j off : Nat) (hn : AtF P nt (nextK k) (putE e (curDst nt k e) (ldV P nt k e L j off)) L S w0 K) (M : asLoad nt k e = some (ldT nt k e, .pointer (some ⟨blkL L j, off, none⟩)) := by kernel_rfl) (O : ldB P nt k e L j off = true := by kernel_rfl) : AtF P nt k e L S w0 K := AtF.load j off (ld_h M O) hn
theorem AtQ.ld {ops : Array Oper} {M : Nat} {kk : List Item} (j off : Nat) (hn : AtQ P f nt ops M kk (nextK k) (putE e (curDst nt k e) (ldV P nt k e L j off)) L S w0 R) (O : asLoad nt k e = some (ldT nt k e, .pointer (some ⟨blkL L j, off, none⟩)) := by kernel_rfl) (V : ldB P nt k e L j off = true := by kernel_rfl) : AtQ P f nt ops M kk k e L S w0 R := AtQ.load j off (ld_h O V) hn
def stT (nt : Nat) (k : List Item) (e : Env) : TypeId := match asStore nt k e with | some (T, _) => T | none => 0
def stV (nt : Nat) (k : List Item) (e : Env) : Value := match asStore nt k e with | some (_, _, v) => v | none => undef
theorem AtE.st (j off : Nat) (hn : AtE P f nt (nextK k) (putE e (curDst nt k e) undef) (setL L j (putD P (stT nt k e) (cellsL L j) off (stV nt k e))) S w0 R)
  (h : (asStore nt k e, isCellsL L j, fzL L j, putOk P (stT nt k e) (cellsL L j) off (stV nt k e)) = (some (stT nt k e, .pointer (some ⟨blkL L j, off, none⟩), stV nt k e), true, (0, 0), true) := by kernel_rfl) : AtE P f nt k e L S w0 R := AtE.store j off h hn
theorem AtE.cl {g : FuncId} {args : Array Value} {L1 : SHeap} {K : Value → SHeap → Prop} (h : CallH P g args L1 S w0 K) (hn : ∀ v L', K v L' → AtE P f nt (nextK k) (putE e (curDst nt k e) v) L' S w0 R)
  (O : ∀ W, (execOp (rho e) (curO nt k e)).run P W = .ok (.enter g args) W := by intro W; kernel_rfl) (M : (cur nt k e, L) = (some (curO nt k e), L1) := by kernel_rfl) : AtE P f nt k e L S w0 R := AtE.call g args O M h hn
theorem AtE.sP (i : Nat) {p : Prop} [Decidable p] {A B : Prop} (H : (p → A) ∧ (¬ p → B)) (O : A → AtE P f nt k ((i, .bool true) :: e) L S w0 R) (M : B → AtE P f nt k ((i, .bool false) :: e) L S w0 R)
  (h : get? e i = some (.bool (decide p)) := by kernel_rfl) : AtE P f nt k e L S w0 R := AtE.splitP i h (fun hp => O (H.1 hp)) (fun hp => M (H.2 hp))
theorem AtE.sN (i : Nat) {p : Prop} [Decidable p] {A B : Prop} (H : (¬ p → A) ∧ (p → B)) (O : A → AtE P f nt k ((i, .bool true) :: e) L S w0 R) (M : B → AtE P f nt k ((i, .bool false) :: e) L S w0 R)
  (h : get? e i = some (.bool (!decide p)) := by kernel_rfl) : AtE P f nt k e L S w0 R := AtE.splitN i h (fun hp => O (H.1 hp)) (fun hp => M (H.2 hp))
theorem AtE.sB (i : Nat) {b : Bool} {A B : Prop} (H : (b = true → A) ∧ (b = false → B)) (O : A → AtE P f nt k ((i, .bool true) :: e) L S w0 R) (M : B → AtE P f nt k ((i, .bool false) :: e) L S w0 R)
  (h : get? e i = some (.bool b) := by kernel_rfl) : AtE P f nt k e L S w0 R := AtE.split i h (fun hp => O (H.1 hp)) (fun hp => M (H.2 hp))
theorem AtE.rt {R : Ending → World → Prop} {fn : Func} {v : Value} {L1 : SHeap} (M : P.funcs[f]? = some fn) (h : Fin R L1 S w0 v) (O : (isRet k, retV e fn.results.toList, L) = (true, some v, L1) := by kernel_rfl) : AtE P f nt k e L S w0 (nrm R) := AtE.ret M O h
theorem AtE.nw (M : Nat → Value) (o : Obj) (hn : ∀ B, AtE P f nt (nextK k) (putE e (curDst nt k e) (M B)) (L ++ [(B, o)]) S w0 R)
  (h : ∀ W, (execOp (rho e) (curO nt k e)).run P W = .ok (.value (M W.heap.size)) { W with heap := W.heap.push o } := by intro W; kernel_rfl) (O : cur nt k e = some (curO nt k e) := by kernel_rfl) : AtE P f nt k e L S w0 R := AtE.new M o h O hn
theorem AtE.np (o : Obj) (hn : ∀ B, AtE P f nt (nextK k) (putE e (curDst nt k e) (.pointer (some ⟨B, 0, none⟩))) (L ++ [(B, o)]) S w0 R)
  (h : ∀ W, (execOp (rho e) (curO nt k e)).run P W = .ok (.value (.pointer (some ⟨W.heap.size, 0, none⟩))) { W with heap := W.heap.push o } := by intro W; kernel_rfl) (M : cur nt k e = some (curO nt k e) := by kernel_rfl) : AtE P f nt k e L S w0 R := AtE.new (fun B => .pointer (some ⟨B, 0, none⟩)) o h M hn
theorem AtE.nH (o : Obj) {A : Nat → Prop} (H : ∀ B, A B) (hn : ∀ B, A B → AtE P f nt (nextK k) (putE e (curDst nt k e) (.pointer (some ⟨B, 0, none⟩))) (L ++ [(B, o)]) S w0 R)
  (h : ∀ W, (execOp (rho e) (curO nt k e)).run P W = .ok (.value (.pointer (some ⟨W.heap.size, 0, none⟩))) { W with heap := W.heap.push o } := by intro W; kernel_rfl) (M : cur nt k e = some (curO nt k e) := by kernel_rfl) : AtE P f nt k e L S w0 R := AtE.np o (fun B => hn B (H B)) h M
theorem AtE.cs (nt : Nat) {fn : Func} {args : List Value} {W : World} {R : Ending → World → Prop} (O : P.funcs[f]? = some fn) (hm : Mem L S w0 W)
  (h : AtE P f nt [.code (body fn)] (argsE 0 args) L S w0 (nrm R)) (M : (fn.body.isSome, fn.ntmps, Nat.ble args.length nt) = (true, nt, true) := by kernel_rfl) : Calls P f ⟨args⟩ W R := AtE.calls O M hm h
theorem AtE.lI (i : Nat) {n : Int} {A : Int → Prop} (H : ∀ x, x = n → A x) (hn : ∀ x, A x → AtE P f nt k ((i, .int .i64 x) :: e) L S w0 R) (h : get? e i = some (.int .i64 n) := by kernel_rfl) : AtE P f nt k e L S w0 R :=
 AtE.letI i h fun x M => hn x (H x M)
theorem AtE.il (g : FuncId) (args : List Value) (M : Nat) {fn : Func} (Z : P.funcs[g]? = some fn) (hn : AtE P g M [.code (body fn)] (argsE 0 args) L S w0 (nrm (InlR P f nt (nextK k) e (curDst nt k e) S w0 R)))
  (a0 : ∀ W, (execOp (rho e) (curO nt k e)).run P W = .ok (.enter g ⟨args⟩) W := by intro W; kernel_rfl) (V : cur nt k e = some (curO nt k e) := by kernel_rfl) (O : (fn.body.isSome, fn.ntmps, Nat.ble args.length M) = (true, M, true) := by kernel_rfl) : AtE P f nt k e L S w0 R :=
 AtE.inl g ⟨args⟩ a0 V fun W hm => AtE.calls Z O hm hn
theorem AtE.rk {f' V : Nat} {k' : List Item} {e' : Env} {d : Option Tmp} {fn : Func} (Z : P.funcs[f]? = some fn) (h : AtE P f' V k' (putE e' d ((retV e fn.results.toList).getD undef)) L S w0 R)
  (M : (isRet k, (retV e fn.results.toList).isSome) = (true, true) := by kernel_rfl) : AtE P f nt k e L S w0 (nrm (InlR P f' V k' e' d S w0 R)) := by
 simp only [Prod.mk.injEq] at M
 obtain ⟨v, O⟩ := Option.isSome_iff_exists.1 M.2
 rw [O] at h
 exact AtE.retK Z (by rw [M.1, O]; rfl) h
theorem AtE.ct (M : List Nat) {k' : List Item} {e' : Env} {L' : SHeap} (hn : AtE P f nt k' e' L' S w0 R) (h : (k, restrict e (e'.map (·.1)), selL L M, nodupB M) = (k', some e', L', true) := by kernel_rfl) : AtE P f nt k e L S w0 R := AtE.cut M hn h
theorem AtD.nm {ops : Array Oper} {n : Nat} {kk : List Item} (e' : Env) (L' : SHeap) (hn : AtD P f nt ops n kk e' L' S w0 R) (h : (restrict e (e'.map (·.1)), L) = (some e', L') := by kernel_rfl) : AtD P f nt ops n kk e L S w0 R := AtD.norm hn h
theorem AtE.tT (M : List Nat) (m : Nat) {k' : List Item} {e' : Env} {L' : SHeap} (hn : AtE P f nt k' e' L' S w0 R) (h : (k, restrict e (e'.map (·.1)), selL (L.take m) M ++ L.drop m, nodupB M) = (k', some e', L', true) := by kernel_rfl) : AtE P f nt k e L S w0 R := AtE.cutT M m hn h
theorem AtF.dn {K : Env → Prop} (hn : K e) (h : doneK k = true := by kernel_rfl) : AtF P nt k e L S w0 K := AtF.done h hn
section
variable {ops : Array Oper} {n : Nat} {kk : List Item}
theorem AtQ.dn (hn : AtE P f nt (tailK ops n kk) e L S w0 R) (h : k = [.inRegion ops []] := by kernel_rfl) : AtQ P f nt ops n kk k e L S w0 R := AtQ.done h hn
theorem AtE.dr (n : Nat) (h : AtQ P f nt (regOps k) n (restK k) (qK (regOps k) n) e L S w0 R) (M : (isDraw k, P.follows .mixedOrders, drawB (regOps k) n) = (true, true, true) := by kernel_rfl) : AtE P f nt k e L S w0 R := AtE.draw n M h
theorem AtE.dD (h : AtD P f nt (regOps k) 0 (restK k) e L S w0 R) (M : (isDraw k, P.follows .mixedOrders) = (true, true) := by kernel_rfl) : AtE P f nt k e L S w0 R := AtE.drawD M h
theorem AtD.tl (hn : AtE P f nt (tailK ops n kk) e L S w0 R) (h : Region.seqB .any ops (ops.size - n) n (firstN n ops.size) = true := by kernel_rfl) : AtD P f nt ops n kk e L S w0 R := AtD.tail h hn
theorem AtD.ph {n1 : Nat} (n : Nat) (F M : List Nat) (L0 : SHeap) {L1 : SHeap} (h : AtF P nt [.inRegion ops F] e L0 S w0 fun O => AtM P f nt ops n kk L0 [.inRegion ops M] O L S w0 R) (Z : planB ops n1 n e F M = true := by kernel_rfl) (V : L = L0 ++ L1 := by rfl) : AtD P f nt ops n1 kk e L S w0 R := AtD.phase n F M L0 Z V h
end
theorem AtF.cl {K : Env → Prop} {g : FuncId} {args : Array Value} {v : Value} {L1 : SHeap} (h : QCallB P g args L1 S w0 v) (hn : AtF P nt (nextK k) (putE e (curDst nt k e) v) L1 S w0 K)
  (O : ∀ W, (execOp (rho e) (curO nt k e)).run P W = .ok (.enter g args) W := by intro W; kernel_rfl) (M : (cur nt k e, L) = (some (curO nt k e), L1) := by kernel_rfl) : AtF P nt k e L S w0 K := AtF.call g args O M h hn
theorem AtF.sk {K : Env → Prop} (hn : AtF P nt (nextK k) (putE e (skipD nt k e) undef) L S w0 K) (h : skipO nt k e = some (skipD nt k e) := by kernel_rfl) : AtF P nt k e L S w0 K := AtF.skip h hn
section
variable {ops : Array Oper} {n : Nat} {kk : List Item} {L0 : SHeap}
theorem AtQ.sk (hn : AtQ P f nt ops n kk (nextK k) (putE e (skipD nt k e) undef) L S w0 R) (h : skipO nt k e = some (skipD nt k e) := by kernel_rfl) : AtQ P f nt ops n kk k e L S w0 R := AtQ.skip h hn
theorem AtQ.cl {g : FuncId} {args : Array Value} {v : Value} {L1 : SHeap} (h : QCall P g args L1 S w0 v) (hn : AtQ P f nt ops n kk (nextK k) (putE e (curDst nt k e) v) L S w0 R)
  (O : ∀ W, (execOp (rho e) (curO nt k e)).run P W = .ok (.enter g args) W := by intro W; kernel_rfl) (M : (cur nt k e, L) = (some (curO nt k e), L1) := by kernel_rfl) : AtQ P f nt ops n kk k e L S w0 R := AtQ.call g args O M h hn
theorem AtM.cl {L1 : SHeap} {g : FuncId} {args : Array Value} {M : SHeap} {K : Value → SHeap → Prop} (h : CallH P g args M S w0 K) (hn : ∀ v L', K v L' → AtM P f nt ops n kk L0 (nextK k) (putE e (curDst nt k e) v) L' S w0 R) (V : L = L0 ++ L1 := by rfl)
  (Z : ∀ W, (execOp (rho e) (curO nt k e)).run P W = .ok (.enter g args) W := by intro W; kernel_rfl) (O : (cur nt k e, L) = (some (curO nt k e), M) := by kernel_rfl) : AtM P f nt ops n kk L0 k e L S w0 R := AtM.call L1 g args V Z O h hn
theorem AtM.dn {L1 : SHeap} (hn : AtD P f nt ops n kk e L S w0 R) (h : k = [.inRegion ops []] := by kernel_rfl) (M : L = L0 ++ L1 := by rfl) : AtM P f nt ops n kk L0 k e L S w0 R := AtM.done L1 h M hn
end
abbrev Br (p A B : Prop) : Prop := (p → A) ∧ (¬ p → B)
abbrev Bn (p A B : Prop) : Prop := (¬ p → A) ∧ (p → B)
abbrev Bb (b : Bool) (A B : Prop) : Prop := (b = true → A) ∧ (b = false → B)
end
open Go Go.RowKit
theorem wi64 {x : Int} (h : -9223372036854775808 ≤ x ∧ x ≤ 9223372036854775807) : IntKind.i64.wrap x = x := by rw [IntKind.wrap_i64]; omega
theorem wu64 {x : Int} (h : 0 ≤ x ∧ x < 18446744073709551616) : IntKind.u64.wrap x = x := by rw [IntKind.wrap_u64]; omega
theorem wu32 {x : Int} (h : 0 ≤ x ∧ x < 4294967296) : IntKind.u32.wrap x = x := by rw [IntKind.wrap_u32]; omega
theorem wu8 {x : Int} (h : 0 ≤ x ∧ x < 256) : IntKind.u8.wrap x = x := by rw [IntKind.wrap_u8]; omega
theorem ofInt_nat (n x : Nat) : (BitVec.ofInt n (x : Int)).toNat = x % 2 ^ n := by
 rw [BitVec.toNat_ofInt, ← Int.natCast_emod, Int.toNat_natCast]
theorem ior64 {x y : Nat} (O : x < 2 ^ 64) (V : y < 2 ^ 64) : ior .u64 (x : Int) (y : Int) = ((x ||| y : Nat) : Int) := by
 have h : x ||| y < 2 ^ 64 := Nat.or_lt_two_pow O V
 have e1 : x % 2 ^ 64 = x := Nat.mod_eq_of_lt (by omega)
 have M : y % 2 ^ 64 = y := Nat.mod_eq_of_lt (by omega)
 have e : (BitVec.ofInt 64 (x : Int) ||| BitVec.ofInt 64 (y : Int)).toNat = x ||| y := by
  rw [BitVec.toNat_or, ofInt_nat, ofInt_nat, e1, M]
 show IntKind.u64.wrap ((BitVec.ofInt 64 (x : Int) ||| BitVec.ofInt 64 (y : Int)).toNat : Int) = _
 rw [e, wu64 (by omega)]
theorem ixor32 {x y : Nat} (O : x < 2 ^ 32) (V : y < 2 ^ 32) : ixor .u32 (x : Int) (y : Int) = ((x ^^^ y : Nat) : Int) := by
 have h : x ^^^ y < 2 ^ 32 := Nat.xor_lt_two_pow O V
 have e1 : x % 2 ^ 32 = x := Nat.mod_eq_of_lt (by omega)
 have M : y % 2 ^ 32 = y := Nat.mod_eq_of_lt (by omega)
 have e : (BitVec.ofInt 32 (x : Int) ^^^ BitVec.ofInt 32 (y : Int)).toNat = x ^^^ y := by
  rw [BitVec.toNat_xor, ofInt_nat, ofInt_nat, e1, M]
 show IntKind.u32.wrap ((BitVec.ofInt 32 (x : Int) ^^^ BitVec.ofInt 32 (y : Int)).toNat : Int) = _
 rw [e, wu32 (by omega)]
theorem ixor8 {x y : Nat} (O : x < 2 ^ 8) (V : y < 2 ^ 8) : ixor .u8 (x : Int) (y : Int) = ((x ^^^ y : Nat) : Int) := by
 have h : x ^^^ y < 2 ^ 8 := Nat.xor_lt_two_pow O V
 have e1 : x % 2 ^ 8 = x := Nat.mod_eq_of_lt (by omega)
 have M : y % 2 ^ 8 = y := Nat.mod_eq_of_lt (by omega)
 have e : (BitVec.ofInt 8 (x : Int) ^^^ BitVec.ofInt 8 (y : Int)).toNat = x ^^^ y := by
  rw [BitVec.toNat_xor, ofInt_nat, ofInt_nat, e1, M]
 show IntKind.u8.wrap ((BitVec.ofInt 8 (x : Int) ^^^ BitVec.ofInt 8 (y : Int)).toNat : Int) = _
 rw [e, wu8 (by omega)]
theorem or_add {z w m : Nat} (M : z < 2 ^ m) : z ||| w * 2 ^ m = z + w * 2 ^ m := by
 have := Nat.two_pow_add_eq_or_of_lt M w
 rw [Nat.or_comm, Nat.mul_comm, ← this]; omega
theorem tmod_nat (x m : Nat) : ((x : Int).tmod (m : Int)) = ((x % m : Nat) : Int) := (Int.ofNat_tmod x m).symm
theorem tdiv_nat (x m : Nat) : ((x : Int).tdiv (m : Int)) = ((x / m : Nat) : Int) := (Int.ofNat_tdiv x m).symm
theorem fdiv_nat (x m : Nat) : ((x : Int).fdiv (m : Int)) = ((x / m : Nat) : Int) := by
 rw [Int.fdiv_eq_ediv_of_nonneg _ (by omega)]; simp
theorem bat_get {s : ByteArray} {i : Nat} (h : i < s.data.toList.length) : bat s (i : Int) = ((s.data.toList[i]).toNat : Int) := by
 simp only [bat, Int.toNat_natCast, List.getElem?_eq_getElem h, Option.getD_some]
theorem blkW_kept {S : List Nat} {w0 W : World} {b : Nat} {c : List Value} (h : Kept S w0 W) (O : b ∉ S) (M : blkW w0 b = some c) : blkW W b = some c := by
 have V : b < w0.heap.size := by
  rcases Nat.lt_or_ge b w0.heap.size with h | h
  ·exact h
  ·rw [blkW, Array.getElem?_eq_none h] at M; cases M
 rw [blkW, h.block b V O]; exact M
def PureG (P : Program) (g : FuncId) (args : Array Value) (b : Nat) (c : List Value) (v : Value) : Prop :=
 ∀ W, blkW W b = some c → Calls P g args W fun e W' => e = .returned v ∧ Below W.heap.size W W'
theorem CallH.pureG {P : Program} {L : SHeap} {S : List Nat} {w0 : World} {g : FuncId} {args : Array Value} {v : Value} {K : Value → SHeap → Prop} {b : Nat} {c : List Value}
  (h : PureG P g args b c v) (V : b ∉ S) (Z : blkW w0 b = some c) (O : K v L) : CallH P g args L S w0 K :=
 fun W hm => (h W (blkW_kept hm.kept V Z)).mono fun _ _ M => ⟨v, L, M.1, hm.after M.2, O⟩
theorem yes {p A B : Prop} (h : p) (a : A) : (p → A) ∧ (¬ p → B) := ⟨fun _ => a, fun n => absurd h n⟩
theorem yes' {p A B : Prop} (h : p) (a : A) : (¬ p → B) ∧ (p → A) := ⟨fun n => absurd h n, fun _ => a⟩
theorem no {p A B : Prop} (h : ¬ p) (a : A) : (p → B) ∧ (¬ p → A) := ⟨fun n => absurd n h, fun _ => a⟩
theorem tt {b : Bool} {A B : Prop} (h : b = true) (a : A) : (b = true → A) ∧ (b = false → B) := ⟨fun _ => a, fun n => Bool.noConfusion (h.symm.trans n)⟩
open Go.ChangeShapes Go.WideShapes
theorem trodAll_below {H : Type} {enc : TypeId × Value → H} {P : Program} {W V : World} (a0 : laidOutB P = true) (Z : Below W.heap.size W V) :
  ∀ (M : List TypeId) (vs : List Value) (ds : List (DataW H)) (p : List MemPlace), M.all (fun t => P.readableRec t && decide (t < P.types.size)) = true → (∀ x ∈ p, x.block < W.heap.size) →
  DataW.TrodAll enc P W 0 (fun _ => true) true M vs ds p → DataW.TrodAll enc P V 0 (fun b => decide (b < W.heap.size)) true M vs ds p
 | [], vs, ds, p, _, _, h => by
  obtain ⟨rfl, rfl, rfl⟩ := trodAll_nil h
  exact trodAll_mk0
 | t :: M, vs, ds, p, ht, hlt, h => by
  obtain ⟨v, a4, d, a1, p1, q, rfl, rfl, rfl, a2, a3⟩ := trodAll_cons h
  simp only [List.all_cons, Bool.and_eq_true, decide_eq_true_eq] at ht
  exact trodAll_cons_mk (Below.trod a0 ht.1.1 ht.1.2 a2 Z (fun x O => hlt x (List.mem_append_left _ O))) (trodAll_below a0 Z M a4 a1 q ht.2 (fun x O => hlt x (List.mem_append_right _ O)) a3)
theorem law_lift {H : Type} {enc : TypeId × Value → H} {C : Checked} {os : Os} {f : FuncId} {fn : Func} {s : ChangeSpec} {M : Bool} {X : World → Prop} {tb : TypeId}
  (own : ownKnob C.prog.godebug = none) (c8 : os.Started) (c7 : C.prog.inits.idxOf? f = none) (b5 : C.prog.funcs[f]? = some fn)
  (b0 : ∀ (w w' : World), w.heap = w'.heap → X w → X w')
  (d0 : ∃ (w : World) (tape : Tape) (i : Input), w.os = os ∧ (w.forCall tape i).Shaped C.prog ∧ i.vars = [] ∧ Input.okWide C.prog (w.forCall tape i) .any w.heap.size f i ∧
   ((s.pre enc C.prog fn [] M (w.forCall tape i).memory i.args ∧ X (w.forCall tape i).memory) ∧ sizedMet enc C.prog fn (OpenSpec.ofChange s) M (w.forCall tape i).memory i.args) ∧ ({} : Assume).holds C.prog (lone (Frame.enter C.prog f i.args .normal) [] (w.forCall tape i)))
  (a8 : s.vars = []) (c4 : ∀ ds : List (DataW H), ds.length = fn.params.toList.length → s.fn H ds = { results := [.lit (.bool true)], args := ds })
  (c3 : fn.resultTypes = #[tb]) (b3 : C.prog.underlying tb = some .bool) (b7 : laidOutB C.prog = true) (c2 : fn.params.toList.all (fun t => C.prog.readableRec t && decide (t < C.prog.types.size)) = true)
  (c9 : ∀ (W : World) (base : Nat) (args : List Value) (ds : List (DataW H)) (p : List MemPlace), (∀ (j : Nat) t v, fn.params[j]? = some t → args[j]? = some v → Value.okWide C.prog W .any base t v) →
   DataW.TrodAll enc C.prog W 0 (fun _ => true) true fn.params.toList args ds p → X W → Calls C.prog f ⟨args⟩ W fun e a2 => e = .returned (.bool true) ∧ Below W.heap.size W a2) :
  ReturnsInHanded {} C os f .any (fun w args => (s.pre enc C.prog fn [] M w args ∧ X w) ∧ sizedMet enc C.prog fn (OpenSpec.ofChange s) M w args)
   (s.post enc C.prog fn M true false false) := by
 refine returnsInHanded_of_change_and (C := C) (X := fun w _ => X w) (fun _ _ _ a0 h => b0 _ _ a0 h) own c8 c7 b5 d0 ?_
 intro W base args ds d3 d1 c5 a5 d4 _ a9 _
 have a6 := a5
 obtain ⟨p, q, Z, a4, rfl, d5, d6⟩ := a5
 rw [a8] at a4
 obtain ⟨rfl, rfl⟩ := trodVars_none a4
 have b6 : ds.length = fn.params.toList.length := by
  have : ∀ (O : List TypeId) (vs : List Value) (ds : List (DataW H)) (p : List MemPlace), DataW.TrodAll enc C.prog W 0 (fun _ => true) true O vs ds p → ds.length = O.length := by
   intro O
   induction O with
   | nil => intro vs ds p h; obtain ⟨_, rfl, _⟩ := trodAll_nil h; rfl
   | cons t O ih => intro vs ds p h; obtain ⟨v, d7, d, d2, p1, q, rfl, rfl, rfl, a3, V⟩ := trodAll_cons h; simp [ih _ _ _ V]
  exact this _ _ _ _ Z
 have b9 : ∀ x ∈ p, x.block < W.heap.size := fun x c6 => a6.lt x (List.mem_append_left _ c6)
 have b1 : (⟨args.toList⟩ : Array Value) = args := rfl
 refine ((b1 ▸ c9 W base args.toList ds p (fun j t v a3 V => c5 j t v a3 (by simpa using V)) Z a9)).mono fun e a2 a0 => ?_
 obtain ⟨b4, a7⟩ := a0
 subst b4
 have a1 : s.fn H (ds ++ []) = { results := [.lit (.bool true)], args := ds } := by rw [List.append_nil]; exact c4 ds b6
 refine ⟨_, rfl, ds, [], p ++ [], [], p, [], a6, ?_, ?_, ?_, a7.frame _, fun h => by cases h⟩
 ·rw [a1, c3]
  exact trodAll_mk1 (shut_bool b3 true)
 ·rw [a1]
  exact trodAll_below b7 a7 _ _ _ _ c2 b9 Z
 ·rw [a1, a8]; rfl
theorem trod_ints {H : Type} {enc : TypeId × Value → H} {P : Program} {w : World} {base : Nat} {sp : Nat → Bool} {held : Bool} {a0 : Nat} {t e : TypeId} {kd : IntKind} {cs : List Value} {ns : List Int} {ps : List MemPlace}
  (a7 : P.underlying t = some (.array ns.length e)) (a5 : P.underlying e = some (.int kd)) (a2 : P.cellsOf e = 1) (a4 : P.cellsOf t = ns.length)
  (h : DataW.trod enc P w base sp held a0 t cs = some (.agg (ns.map fun n => .lit (.int kd n)), ps)) : cs = ns.map fun n => .int kd n := by
 obtain ⟨xs, m, rfl, Z, a6, a9, hi⟩ := DataW.trod_array a7 h
 simp only [Prod.mk.injEq, DataW.agg.injEq] at Z
 rw [a4] at a6
 apply List.ext_getElem?
 intro i
 by_cases hlt : i < ns.length
 ·have M := hi i hlt
  rw [a2, Nat.mul_one] at M
  have V : i < xs.length := by rw [a9]; exact hlt
  rw [List.getElem?_eq_getElem V] at M
  obtain ⟨n, a3, a8, _⟩ := DataW.trod_int a5 M
  have O : (xs.map (·.1))[i]? = some (.lit (.int kd n)) := by rw [List.getElem?_map, List.getElem?_eq_getElem V, Option.map_some, a8]
  rw [← Z.1, List.getElem?_map, List.getElem?_eq_getElem hlt, Option.map_some] at O
  simp only [Option.some.injEq, DataW.lit.injEq, Lit.int.injEq, true_and] at O
  have a1 : cs[i]? = some (.int kd n) := by
   have : ((cs.drop i).take 1)[0]? = some (.int kd n) := by rw [a3]; rfl
   rw [List.getElem?_take_of_lt (by decide), List.getElem?_drop] at this
   simpa using this
  rw [a1, List.getElem?_map, List.getElem?_eq_getElem hlt, Option.map_some, O]
 ·rw [List.getElem?_eq_none (by omega), List.getElem?_eq_none (by simp; omega)]
section
open Go.ChangeMaps
variable {H : Type} {enc : TypeId × Value → H} {P : Program} {w : World} {base : Nat} {sp : Nat → Bool} {held : Bool}
theorem cellsAt {W : World} {a : Addr} {n : Nat} {g : Nat → Value} (h : ∀ i, i < n → W.cell? (a.add i) = some (g i)) (hn : 0 < n) :
  ∃ c : List Value, a = ⟨a.block, a.off, none⟩ ∧ blkW W a.block = some c ∧ ∀ i, i < n → c[a.off + i]? = some (g i) := by
 have M := h 0 hn
 have a0 : a.add 0 = a := if_pos rfl
 rw [a0] at M
 unfold World.cell? at M
 split at M
 ·next c t fz hh =>
  have Z : a.spot = none := by
   cases V : a.spot with
   | none => rfl
   | some x => rw [V] at M; simp at M
  refine ⟨c.toList, by cases a; simp at Z; rw [Z], by rw [blkW, hh], fun i hi => ?_⟩
  have O := h i hi
  unfold World.cell? at O
  have a1 : (a.add i).block = a.block := by unfold Addr.add; split <;> rfl
  have a2 : (a.add i).off = a.off + i := by unfold Addr.add; split <;> simp_all
  have V : (a.add i).spot = none := by unfold Addr.add; split <;> simp_all
  rw [a1, hh, V] at O
  simp only [Option.isSome_none, Bool.false_eq_true, if_false, a2] at O
  rw [Array.getElem?_toList]; exact O
 ·cases M
end
section
open Go.ChangeMaps
abbrev Lk := Nat → List Value → Prop
def lkW (w : World) : Lk := fun b c => blkW w b = some c
def SlAt {α : Type} (lk : Lk) (sz : Nat) (Φ : List Value → α → Prop) (p : Option Addr) (l : List α) : Prop :=
 0 < l.length → ∃ (b o : Nat) (c : List Value), p = some ⟨b, o, none⟩ ∧ lk b c ∧ ∀ i (h : i < l.length), o + i * sz + sz ≤ c.length ∧ Φ ((c.drop (o + i * sz)).take sz) l[i]
theorem SlAt.get {α : Type} {lk : Lk} {sz : Nat} {Φ : List Value → α → Prop} {p : Option Addr} {l : List α} (h : SlAt lk sz Φ p l) {i : Nat} (hi : i < l.length) :
  ∃ (b o : Nat) (c : List Value), p = some ⟨b, o, none⟩ ∧ lk b c ∧ o + i * sz + sz ≤ c.length ∧ Φ ((c.drop (o + i * sz)).take sz) l[i] := by
 obtain ⟨b, o, c, O, V, M⟩ := h (by omega)
 exact ⟨b, o, c, O, V, (M i hi).1, (M i hi).2⟩
theorem SlAt.nil {α : Type} {lk : Lk} {sz : Nat} {Φ : List Value → α → Prop} {p : Option Addr} : SlAt lk sz Φ p [] := fun h => absurd h (by simp)
theorem cellsB {w : World} {a : Addr} {n : Nat} {cs : List Value} (hn : 0 < n) (h : w.cells? 0 a n = some cs) :
  ∃ c : List Value, a = ⟨a.block, a.off, none⟩ ∧ blkW w a.block = some c ∧ a.off + n ≤ c.length ∧ cs = (c.drop a.off).take n := by
 obtain ⟨_, a1, a0⟩ := World.cells?_some h
 have Z : ∀ i, i < n → w.cell? (a.add i) = some ((fun i => (cs[i]?).getD (.bool false)) i) := by
  intro i hi
  rw [a0 i hi]
  simp only
  rw [List.getElem?_eq_getElem (by omega), Option.getD_some]
 obtain ⟨c, O, V, M⟩ := cellsAt Z hn
 refine ⟨c, O, V, ?_, ?_⟩
 ·have := M (n - 1) (by omega)
  have := (List.getElem?_eq_some_iff.1 this).1
  omega
 ·apply List.ext_getElem?
  intro i
  by_cases hi : i < n
  ·rw [List.getElem?_take_of_lt hi, List.getElem?_drop, M i hi]
   rw [List.getElem?_eq_getElem (by omega), Option.getD_some]
  ·rw [List.getElem?_eq_none (by omega), List.getElem?_eq_none (by simp; omega)]
theorem add_off (a : Addr) (j : Nat) : (a.add j).off = a.off + j := by
 unfold Addr.add; split <;> simp_all
def Opn {H : Type} (enc : TypeId × Value → H) (P : Program) (w : World) (t : TypeId) {α : Type} (Φ : List Value → α → Prop) : Prop :=
 ∀ fuel cs x, DataW.trod enc P w 0 (fun _ => true) true fuel t cs = some x → ∃ a, Φ cs a
variable {H : Type} {enc : TypeId × Value → H} {P : Program} {w : World} {t e : TypeId}
def intP (kd : IntKind) (cs : List Value) (n : Int) : Prop := cs = [.int kd n] ∧ (Lit.int kd n).wf = true
def strP (cs : List Value) (s : ByteArray) : Prop := cs = [.string s] ∧ s.size ≤ maxLen
def sliceP {α : Type} (lk : Lk) (sz : Nat) (Φ : List Value → α → Prop) (cs : List Value) (l : List α) : Prop :=
 ∃ (p : Option Addr) (n c : Nat), cs = [.slice p n c] ∧ l.length = n ∧ n ≤ c ∧ c ≤ maxLen ∧ (p = none → n = 0 ∧ c = 0) ∧ SlAt lk sz Φ p l
theorem opn_int {kd : IntKind} (M : P.underlying t = some (.int kd)) : Opn enc P w t (intP kd) := by
 intro V cs x h
 obtain ⟨n, rfl, _, O⟩ := DataW.trod_int M h
 exact ⟨n, rfl, O⟩
theorem opn_string (O : P.underlying t = some .string) : Opn enc P w t strP := by
 intro V cs x h
 obtain ⟨s, rfl, _, M⟩ := DataW.trod_string O h
 exact ⟨s, rfl, M⟩
theorem choose_list {α : Type} {Q : Nat → α → Prop} : ∀ n : Nat, (∀ i, i < n → ∃ a, Q i a) → ∃ l : List α, l.length = n ∧ ∀ i (h : i < l.length), Q i l[i]
 | 0, _ => ⟨[], rfl, fun i h => absurd h (by simp)⟩
 | n + 1, h => by
  obtain ⟨l, M, V⟩ := choose_list n (fun i hi => h i (by omega))
  obtain ⟨a, O⟩ := h n (by omega)
  refine ⟨l ++ [a], by simp [M], fun i hi => ?_⟩
  by_cases hc : i < l.length
  ·rw [List.getElem_append_left hc]; exact V i hc
  ·have : i = n := by simp at hi; omega
   subst this
   rw [List.getElem_append_right (by omega)]
   simpa [M] using O
theorem opn_slice {α : Type} {Φ : List Value → α → Prop} {sz : Nat} (b5 : P.underlying t = some (.slice e)) (a9 : P.cellsOf e = sz) (hp : 0 < sz) (b0 : Opn enc P w e Φ) : Opn enc P w t (sliceP (lkW w) sz Φ) := by
 intro b9 cs x h
 rcases DataW.trod_slice b5 h with ⟨rfl, _⟩ | ⟨a, len, cap, elems, rest, n, _, rfl, _, _, hl, hm, hlen, hel, _, _⟩
 ·exact ⟨[], none, 0, 0, rfl, rfl, Nat.le_refl _, Nat.zero_le _, fun _ => ⟨rfl, rfl⟩, SlAt.nil⟩
 ·rw [a9] at hel
  have a4 : ∀ i, i < len → ∃ y, ∃ c : List Value, (a.add (i * sz)) = ⟨a.block, a.off + i * sz, none⟩ ∧ blkW w a.block = some c ∧ a.off + i * sz + sz ≤ c.length ∧ Φ ((c.drop (a.off + i * sz)).take sz) y := by
   intro i hi
   have Z := hel i hi
   rw [List.getElem?_eq_getElem (by omega), Option.bind_eq_some_iff] at Z
   obtain ⟨b7, a8, a0⟩ := Z
   obtain ⟨c, e1, M, O, rfl⟩ := cellsB hp a8
   have a1 : (a.add (i * sz)).block = a.block := by unfold Addr.add; split <;> rfl
   have a2 : (a.add (i * sz)).off = a.off + i * sz := add_off a _
   rw [a1, a2] at e1
   rw [a1] at M
   rw [a2] at O a0
   obtain ⟨y, b6⟩ := b0 _ _ _ a0
   exact ⟨y, c, e1, M, O, b6⟩
  obtain ⟨l, b1, a3⟩ := choose_list len a4
  refine ⟨l, some a, len, cap, rfl, b1, hl, hm, (fun h => by cases h), fun b3 => ?_⟩
  obtain ⟨c, e1, M, _, _⟩ := a3 0 b3
  have b4 : a = ⟨a.block, a.off, none⟩ := by
   have a7 : a.add 0 = a := by simp [Addr.add]
   rw [Nat.zero_mul, a7] at e1
   exact e1
  refine ⟨a.block, a.off, c, by rw [← b4], M, fun i hi => ?_⟩
  obtain ⟨c', _, V, a5, a6⟩ := a3 i hi
  have : c' = c := by rw [M] at V; exact (Option.some.inj V).symm
  subst this
  exact ⟨a5, a6⟩
theorem opn_fields {fs : Array Field} {O : Nat} {cs : List Value} {x : DataW H × List MemPlace} (a0 : P.underlying t = some (.struct fs)) (h : DataW.trod enc P w 0 (fun _ => true) true O t cs = some x) :
  cs.length = P.cellsOf t ∧ ∀ (i : Nat) (f : Field), fs[i]? = some f → ∀ {α : Type} {Φ : List Value → α → Prop}, Opn enc P w f.type Φ → ∃ a, Φ ((cs.drop f.offset).take (P.cellsOf f.type)) a := by
 obtain ⟨xs, n, _, _, Z, a2, V⟩ := DataW.trod_struct a0 h
 refine ⟨Z, fun i f hi α Φ ho => ?_⟩
 have M := V i f hi
 have a1 : i < fs.size := (Array.getElem?_eq_some_iff.1 hi).1
 rw [List.getElem?_eq_getElem (by omega)] at M
 exact ho _ _ _ M
theorem opn_len {fs : Array Field} {M : Nat} {cs : List Value} {x : DataW H × List MemPlace} (O : P.underlying t = some (.struct fs)) (h : DataW.trod enc P w 0 (fun _ => true) true M t cs = some x) {n : Nat} (hn : P.cellsOf t = n) : cs.length = n := by
 rw [← hn]; exact (opn_fields O h).1
theorem opn_field {fs : Array Field} {O : Nat} {cs : List Value} {x : DataW H × List MemPlace} (Z : P.underlying t = some (.struct fs)) (h : DataW.trod enc P w 0 (fun _ => true) true O t cs = some x) (i M off n : Nat)
  (hi : (fs[i]?).map (fun f => (f.type, f.offset)) = some (M, off)) (hn : P.cellsOf M = n) {α : Type} {Φ : List Value → α → Prop} (V : Opn enc P w M Φ) : ∃ a, Φ ((cs.drop off).take n) a := by
 cases hf : fs[i]? with
 | none => rw [hf] at hi; cases hi
 | some f =>
  rw [hf] at hi
  simp only [Option.map_some, Option.some.injEq, Prod.mk.injEq] at hi
  obtain ⟨rfl, rfl⟩ := hi
  subst hn
  exact (opn_fields Z h).2 i f hf V
theorem open_slice {α : Type} {Φ : List Value → α → Prop} {r : Reach} {Z : Nat} {v : Value} {d : DataW H} {ps : List MemPlace} {sz : Nat} (V : P.underlying t = some (.slice e)) (a3 : P.cellsOf e = sz) (hp : 0 < sz) (a5 : Opn enc P w e Φ)
  (a7 : Value.okWide P w r Z t v) (a4 : DataW.Trod enc P w 0 (fun _ => true) true t v d ps) :
  ∃ (l : List α) (p : Option Addr) (c : Nat), v = .slice p l.length c ∧ l.length ≤ c ∧ c ≤ maxLen ∧ (p = none → l.length = 0 ∧ c = 0) ∧ SlAt (lkW w) sz Φ p l := by
 obtain ⟨p, n, c, rfl⟩ := okWide_slice V a7
 obtain ⟨a8, a6⟩ := a4
 obtain ⟨l, p', n', c', M, O, a9, a0, a1, a2⟩ := opn_slice V a3 hp a5 _ _ _ a6
 simp only [Value.cells, List.cons.injEq, Value.slice.injEq, and_true] at M
 obtain ⟨rfl, rfl, rfl⟩ := M
 exact ⟨l, p, c, by rw [O], by omega, a0, by rw [O]; exact a1, a2⟩
end
section
structure FnD (P : Program) where
 f : Nat
 fn : Func
 hf : P.funcs[f]? = some fn
abbrev fd {P : Program} {f : Nat} {fn : Func} (h : P.funcs[f]? = some fn) : FnD P := ⟨f, fn, h⟩
structure Fr (P : Program) where
 d : FnD P
 k : List Item
 e : Env
 x : Option Tmp
structure Qd where
 ops : Array Oper
 n : Nat
 kk : List Item
structure St (P : Program) where
 d : FnD P
 k : List Item
 e : Env
 L : SHeap
 q : Option Qd
 fr : List (Fr P)
structure Cx where
 P : Program
 S : List Nat
 w0 : World
 R : Ending → World → Prop
abbrev St.nt {P : Program} (s : St P) : Nat := s.d.fn.ntmps
def goal (C : Cx) : List (Fr C.P) → Goal C.P
 | [] => nrm C.R
 | x :: r => nrm (InlR C.P x.d.f x.d.fn.ntmps x.k x.e x.x C.S C.w0 (goal C r))
def J (C : Cx) (s : St C.P) : Prop := match s.q with
 | none => AtE C.P s.d.f s.nt s.k s.e s.L C.S C.w0 (goal C s.fr)
 | some q => AtQ C.P s.d.f s.nt q.ops q.n q.kk s.k s.e s.L C.S C.w0 (goal C s.fr)
structure VC (C : Cx) : Type 1 where
 pr : Prop
 T : Type
 l : St C.P → T
 N : T → T
 ok : ∀ s, l s = N (l s) → pr → J C s
structure KT (C : Cx) : Type 1 where
 pr : Value → SHeap → Prop
 T : Type
 l : (Value → SHeap → St C.P) → T
 N : T → T
 ok : ∀ b, l b = N (l b) → ∀ v L', pr v L' → J C (b v L')
variable {C : Cx}
abbrev St.nx {P : Program} (s : St P) (v : Value) : St P := { s with k := nextK s.k, e := putE s.e (curDst s.nt s.k s.e) v }
abbrev St.hp {P : Program} (s : St P) (v : Value) (L : SHeap) : St P := { s with k := nextK s.k, e := putE s.e (curDst s.nt s.k s.e) v, L := L }
def ptrAt (b off : Nat) : Value := .pointer (some ⟨b, off, none⟩)
def offOf : Value → Nat
 | .pointer (some a) => a.off
 | _ => 0
def TE : List Nat → Type → Type
 | [], T => T
 | _ :: r, T => World → Bool × World × (Value × Value) × TE r T
def NE {T : Type} (N : T → T) : (hs : List Nat) → TE hs T → TE hs T
 | [], t => N t
 | _ :: r, g => fun W => match g W with | (_, _, (_, y), t) => (true, W, (y, y), NE N r t)
def memE {α : Type} (P : Program) (nt j : Nat) (k : List Item) (e : Env) (L : SHeap) (W : World) (K : List Item → Env → SHeap → α) : Bool × World × (Value × Value) × α :=
 match asLoad nt k e with
 | some (T, p) => ((isCellsL L j && (valAt P T (cellsL L j) (offOf p)).isSome), W, (p, ptrAt (blkL L j) (offOf p)), K (nextK k) (putE e (curDst nt k e) ((valAt P T (cellsL L j) (offOf p)).getD undef)) L)
 | none => match asStore nt k e with
  | some (T, p, v) => ((isCellsL L j && (Nat.beq (fzL L j).1 0 && (Nat.beq (fzL L j).2 0 && putOk P T (cellsL L j) (offOf p) v))), W, (p, ptrAt (blkL L j) (offOf p)),
    K (nextK k) (putE e (curDst nt k e) undef) (setL L j (putD P T (cellsL L j) (offOf p) v)))
  | none => (false, W, (undef, undef), K k e L)
def lE {T : Type} (P : Program) (nt : Nat) (K : List Item → Env → SHeap → T) : (hs : List Nat) → List Item → Env → SHeap → TE hs T
 | [], k, e, L => K k e L
 | h :: r, k, e, L => fun W => bif Nat.ble 200 h then memE P nt (h - 200) k e L W (lE P nt K r)
  else match run P nt h k e W with
   | some (k', e', W') => (true, W', (undef, undef), lE P nt K r k' e' L)
   | none => (false, W, (undef, undef), lE P nt K r k e L)
theorem memE_ok {α : Type} {P : Program} {f nt j : Nat} {k : List Item} {e : Env} {L : SHeap} {S : List Nat} {w0 W : World} {R : Goal P} {K : List Item → Env → SHeap → α} {y : Value} {t : α}
  (h : memE P nt j k e L W K = (true, W, (y, y), t)) (hn : ∀ k e L, K k e L = t → AtE P f nt k e L S w0 R) : AtE P f nt k e L S w0 R := by
 unfold memE at h
 split at h
 ·next T p ha =>
  simp only [Prod.mk.injEq, Bool.and_eq_true] at h
  obtain ⟨⟨O, V⟩, _, ⟨Z, a0⟩, M⟩ := h
  obtain ⟨v, a1⟩ := Option.isSome_iff_exists.1 V
  have hp : p = .pointer (some ⟨blkL L j, offOf p, none⟩) := Z.trans a0.symm
  rw [a1] at M
  exact AtE.load j (offOf p) (v := v) (T := T) (by rw [ha, O, a1, ← hp]) (hn _ _ _ M)
 ·split at h
  ·next T p v ha =>
   simp only [Prod.mk.injEq, Bool.and_eq_true] at h
   obtain ⟨⟨O, a2, a3, V⟩, _, ⟨Z, a0⟩, M⟩ := h
   have hp : p = .pointer (some ⟨blkL L j, offOf p, none⟩) := Z.trans a0.symm
   have a4 : fzL L j = (0, 0) := Prod.ext (Nat.eq_of_beq_eq_true a2) (Nat.eq_of_beq_eq_true a3)
   exact AtE.store j (offOf p) (v := v) (T := T) (by rw [ha, O, a4, V, ← hp]) (hn _ _ _ M)
  ·simp at h
theorem lE_ok {T : Type} {P : Program} {f nt : Nat} {S : List Nat} {w0 : World} {R : Goal P} {K : List Item → Env → SHeap → T} {N : T → T} (O : ∀ k e L, K k e L = N (K k e L) → AtE P f nt k e L S w0 R) :
  ∀ (V : List Nat) (k : List Item) (e : Env) (L : SHeap), lE P nt K V k e L = NE N V (lE P nt K V k e L) → AtE P f nt k e L S w0 R
 | [], k, e, L, h => O k e L h
 | n :: r, k, e, L, h => by
  intro t W Z hm
  have M := congrFun h W
  simp only [NE, lE] at M
  cases hb : Nat.ble 200 n with
  | true =>
   simp only [hb, cond_true] at M
   revert M
   generalize hg : memE P nt (n - 200) k e L W (lE P nt K r) = g
   obtain ⟨b, a0, ⟨x, y⟩, g⟩ := g
   intro M
   simp only [Prod.mk.injEq] at M
   obtain ⟨rfl, rfl, ⟨rfl, _⟩, a2⟩ := M
   exact memE_ok hg (fun k' e' L' a1 => lE_ok O r k' e' L' (by rw [a1]; exact a2)) t _ Z hm
  | false =>
   simp only [hb, cond_false] at M
   revert M
   cases hr : run P nt n k e W with
   | none => intro M; simp at M
   | some x =>
    obtain ⟨k', e', a0⟩ := x
    intro M
    simp only [Prod.mk.injEq, true_and] at M
    obtain ⟨rfl, hn⟩ := M
    exact run_sound n hr Z fun t' a3 => lE_ok O r k' e' L hn t' _ a3 hm
@[reducible] def VC.ru (hs : List Nat) (A : VC C) : VC C where
 pr := A.pr
 T := TE hs A.T × Bool
 l s := (lE C.P s.nt (fun k e L => A.l { s with k := k, e := e, L := L }) hs s.k s.e s.L, s.q.isNone)
 N p := (NE A.N hs p.1, true)
 ok s h hp := by
  obtain ⟨d, k, e, L, q, fr⟩ := s
  simp only [Prod.mk.injEq] at h
  cases q with
  | some q => exact absurd h.2 (by simp)
  | none => exact lE_ok (R := goal C fr) (f := d.f) (nt := d.fn.ntmps) (S := C.S) (w0 := C.w0) (N := A.N) (fun k e L hh => A.ok ⟨d, k, e, L, none, fr⟩ hh hp) hs k e L h.1
def TQ : List Nat → Type → Type
 | [], T => T
 | _ :: r, T => (World → Bool × World × Value) × (Bool × Value × (Value × Value)) × TQ r T
def NQ {T : Type} (N : T → T) : (hs : List Nat) → TQ hs T → TQ hs T
 | [], t => N t
 | _ :: r, (_, (_, v, (_, y)), t) => ((fun W => (true, W, v)), (true, v, (y, y)), NQ N r t)
def qs {α : Type} (P : Program) (nt : Nat) (h : Nat) (k : List Item) (e : Env) (L : SHeap) (K : List Item → Env → α) : (World → Bool × World × Value) × (Bool × Value × (Value × Value)) × α :=
 match h with
 | 0 => match skipO nt k e with
  | some d => ((fun W => (true, W, undef)), (true, undef, (undef, undef)), K (nextK k) (putE e d undef))
  | none => ((fun W => match (execOp (rho e) (curO nt k e)).run P W with | .ok (.value v) W' => (true, W', v) | _ => (false, W, undef)),
    ((cur nt k e).isSome, vQ P nt k e, (undef, undef)), K (nextK k) (putE e (curDst nt k e) (vQ P nt k e)))
 | j + 1 => match asLoad nt k e with
  | some (T, p) => ((fun W => (true, W, undef)), ((isCellsL L j && (valAt P T (cellsL L j) (offOf p)).isSome), undef, (p, ptrAt (blkL L j) (offOf p))),
    K (nextK k) (putE e (curDst nt k e) ((valAt P T (cellsL L j) (offOf p)).getD undef)))
  | none => ((fun W => (true, W, undef)), (false, undef, (undef, undef)), K k e)
def lQ {T : Type} (P : Program) (nt : Nat) (L : SHeap) (K : List Item → Env → T) : (hs : List Nat) → List Item → Env → TQ hs T
 | [], k, e => K k e
 | h :: r, k, e => qs P nt h k e L (lQ P nt L K r)
theorem qs_ok {α : Type} {P : Program} {f nt j : Nat} {k : List Item} {e : Env} {L : SHeap} {S : List Nat} {w0 : World} {R : Goal P} {q : Qd} {K : List Item → Env → α} {v y : Value} {t : α}
  (h : qs P nt j k e L K = ((fun W => (true, W, v)), (true, v, (y, y)), t)) (hn : ∀ k e, K k e = t → AtQ P f nt q.ops q.n q.kk k e L S w0 R) : AtQ P f nt q.ops q.n q.kk k e L S w0 R := by
 unfold qs at h
 split at h
 ·split at h
  ·next d hd =>
   simp only [Prod.mk.injEq] at h
   have a2 : skipD nt k e = d := by simp [skipD, hd]
   exact AtQ.skip (by rw [a2, hd]) (hn _ _ (by rw [a2]; exact h.2.2))
  ·simp only [Prod.mk.injEq] at h
   obtain ⟨O, ⟨V, Z, _⟩, a0⟩ := h
   obtain ⟨o, a5⟩ := Option.isSome_iff_exists.1 V
   have a4 : cur nt k e = some (curO nt k e) := by simp [curO, a5]
   refine AtQ.pure a4 (fun W => ?_) (hn _ _ a0)
   have M := congrFun O W
   split at M
   ·next v' W' hr => simp only [Prod.mk.injEq, true_and] at M; rw [hr, M.1, M.2, Z]
   ·simp at M
 ·split at h
  ·next j _ T p ha =>
   simp only [Prod.mk.injEq, Bool.and_eq_true] at h
   obtain ⟨_, ⟨⟨O, V⟩, _, Z, a0⟩, a1⟩ := h
   obtain ⟨u, a3⟩ := Option.isSome_iff_exists.1 V
   have hp : p = .pointer (some ⟨blkL L j, offOf p, none⟩) := Z.trans a0.symm
   rw [a3] at a1
   exact AtQ.load j (offOf p) (v := u) (T := T) (by rw [ha, O, a3, ← hp]) (hn _ _ a1)
  ·simp at h
theorem lQ_ok {T : Type} {P : Program} {f nt : Nat} {S : List Nat} {w0 : World} {R : Goal P} {q : Qd} {L : SHeap} {K : List Item → Env → T} {N : T → T} (V : ∀ k e, K k e = N (K k e) → AtQ P f nt q.ops q.n q.kk k e L S w0 R) :
  ∀ (M : List Nat) (k : List Item) (e : Env), lQ P nt L K M k e = NQ N M (lQ P nt L K M k e) → AtQ P f nt q.ops q.n q.kk k e L S w0 R
 | [], k, e, h => V k e h
 | n :: r, k, e, h => by
  simp only [NQ, lQ] at h
  revert h
  generalize hg : qs P nt n k e L (lQ P nt L K r) = g
  obtain ⟨g1, ⟨b, v, ⟨x, y⟩⟩, O⟩ := g
  intro h
  have a1 : g1 = (fun W => (true, W, v)) := congrArg (·.1) h
  have Z : (b, v, (x, y)) = (true, v, (y, y)) := congrArg (·.2.1) h
  have a0 : O = NQ N r O := congrArg (·.2.2) h
  clear h
  simp only [Prod.mk.injEq] at Z
  obtain ⟨rfl, _, rfl, _⟩ := Z
  subst a1
  exact qs_ok hg fun k' e' a2 => lQ_ok V r k' e' (by rw [a2]; exact a0)
def qz : Nat → List Nat → List Nat
 | 0, l => l
 | n + 1, l => 0 :: qz n l
def qx : List Nat → List Nat
 | [] => []
 | h :: r => bif Nat.ble 100 h then (h - 99) :: qx r else qz h (qx r)
@[reducible] def VC.qu (hs : List Nat) (A : VC C) : VC C where
 pr := A.pr
 T := TQ (qx hs) A.T × Bool
 l s := (lQ C.P s.nt s.L (fun k e => A.l { s with k := k, e := e }) (qx hs) s.k s.e, s.q.isSome)
 N p := (NQ A.N (qx hs) p.1, true)
 ok s h hp := by
  obtain ⟨d, k, e, L, q, fr⟩ := s
  simp only [Prod.mk.injEq] at h
  cases q with
  | none => exact absurd h.2 (by simp)
  | some q => exact lQ_ok (R := goal C fr) (f := d.f) (nt := d.fn.ntmps) (L := L) (S := C.S) (w0 := C.w0) (q := q) (N := A.N) (fun k e hh => A.ok ⟨d, k, e, L, some q, fr⟩ hh hp) (qx hs) k e h.1
@[reducible] def VC.dr (n : Nat) (A : VC C) : VC C where
 pr := A.pr
 T := (Bool × Bool × Bool × Bool) × A.T
 l s := ((isDraw s.k, C.P.follows .mixedOrders, drawB (regOps s.k) n, s.q.isNone), A.l { s with k := qK (regOps s.k) n, q := some ⟨regOps s.k, n, restK s.k⟩ })
 N p := ((true, true, true, true), A.N p.2)
 ok s h hp := by
  obtain ⟨d, k, e, L, q, fr⟩ := s
  simp only [Prod.mk.injEq] at h
  cases q with
  | some q => exact absurd h.1.2.2.2 (by simp)
  | none => exact AtE.draw n (by rw [h.1.1, h.1.2.1, h.1.2.2.1]) (A.ok ⟨d, _, e, L, some ⟨_, _, _⟩, fr⟩ h.2 hp)
@[reducible] def VC.dn (A : VC C) : VC C where
 pr := A.pr
 T := Option (List Item × Array Oper) × A.T
 l s := match s.q with
  | some q => (some (s.k, q.ops), A.l { s with k := tailK q.ops q.n q.kk, q := none })
  | none => (none, A.l s)
 N p := (match p.1 with | some (_, o) => some ([.inRegion o []], o) | none => some ([], #[]), A.N p.2)
 ok s h hp := by
  obtain ⟨d, k, e, L, q, fr⟩ := s
  cases q with
  | none => exact absurd (congrArg Prod.fst h) (by simp)
  | some q =>
   simp only [Prod.mk.injEq, Option.some.injEq] at h
   exact AtQ.done h.1.1 (A.ok ⟨d, _, e, L, none, fr⟩ h.2 hp)
end
section
variable {C : Cx}
@[reducible] def VC.zre (v : Value) (L : SHeap) : VC C where
 pr := Fin C.R L C.S C.w0 v
 T := Bool × Option Value × SHeap × Bool × Bool
 l s := (isRet s.k, retV s.e s.d.fn.results.toList, s.L, s.fr.isEmpty, s.q.isNone)
 N _ := (true, some v, L, true, true)
 ok s h hp := by
  obtain ⟨d, k, e, L', q, fr⟩ := s
  simp only [Prod.mk.injEq] at h
  obtain ⟨h1, h2, rfl, h4, h5⟩ := h
  cases fr with
  | cons x r => simp at h4
  | nil => cases q with
   | some q => simp at h5
   | none => exact AtE.ret (v := v) (L1 := L') d.hf (by rw [h1, h2]) hp
@[reducible] def VC.ff : VC C where
 pr := False
 T := Unit
 l _ := ()
 N _ := ()
 ok _ _ h := h.elim
@[reducible] def VC.zrk (A : VC C) : VC C where
 pr := A.pr
 T := (Bool × Bool × Bool) × A.T
 l s := match s.fr with
  | x :: r => ((isRet s.k, (retV s.e s.d.fn.results.toList).isSome, s.q.isNone), A.l ⟨x.d, x.k, putE x.e x.x ((retV s.e s.d.fn.results.toList).getD undef), s.L, none, r⟩)
  | [] => ((false, false, false), A.l s)
 N p := ((true, true, true), A.N p.2)
 ok s h hp := by
  obtain ⟨d, k, e, L', q, fr⟩ := s
  cases fr with
  | nil => exact absurd (congrArg (·.1.1) h) (by simp)
  | cons x r =>
   simp only [Prod.mk.injEq] at h
   obtain ⟨⟨h1, h2, h3⟩, h4⟩ := h
   cases q with
   | some q => simp at h3
   | none => exact AtE.rk (R := goal C r) d.hf (A.ok ⟨x.d, x.k, _, L', none, r⟩ h4 hp) (by rw [h1, h2])
@[reducible] def VC.zil {g : FuncId} {fn : Func} (hf : C.P.funcs[g]? = some fn) (args : List Value) (A : VC C) : VC C where
 pr := A.pr
 T := (World → Result Next) × Bool × A.T
 l s := ((fun W => (execOp (rho s.e) (curO s.nt s.k s.e)).run C.P W), ((cur s.nt s.k s.e).isSome && (fn.body.isSome && (Nat.ble args.length fn.ntmps && s.q.isNone))),
  A.l ⟨fd hf, [.code (body fn)], argsE 0 args, s.L, none, ⟨s.d, nextK s.k, s.e, curDst s.nt s.k s.e⟩ :: s.fr⟩)
 N p := ((fun W => .ok (.enter g ⟨args⟩) W), true, A.N p.2.2)
 ok s h hp := by
  obtain ⟨d, k, e, L', q, fr⟩ := s
  simp only [Prod.mk.injEq, Bool.and_eq_true] at h
  obtain ⟨h1, ⟨h2, h3, h4, h5⟩, h6⟩ := h
  obtain ⟨o, ho⟩ := Option.isSome_iff_exists.1 h2
  cases q with
  | some q => simp at h5
  | none => exact AtE.il (R := goal C fr) g args fn.ntmps hf (A.ok ⟨fd hf, _, _, L', none, _ :: fr⟩ h6 hp) (fun W => congrFun h1 W) (by simp [curO, ho]) (by simp only [h3, h4])
structure Cut where
 P : Program
 S : List Nat
 f : Nat
 nt : Nat
 k : List Item
 e : Env
 L : SHeap
def Cut.at (c : Cut) (w0 : World) (R : Ending → World → Prop) : Prop := AtE c.P c.f c.nt c.k c.e c.L c.S w0 (nrm R)
instance : CoeFun Cut (fun _ => World → (Ending → World → Prop) → Prop) := ⟨Cut.at⟩
@[reducible] def VC.zct (is : List Nat) (c : Cut) : VC C where
 pr := c.at C.w0 C.R
 T := (Program × List Nat × Nat × Nat) × (List Item × Option Env × SHeap) × Bool
 l s := ((C.P, C.S, s.d.f, s.nt), (s.k, restrict s.e (c.e.map (·.1)), selL s.L is), (nodupB is && (s.fr.isEmpty && s.q.isNone)))
 N _ := ((c.P, c.S, c.f, c.nt), (c.k, some c.e, c.L), true)
 ok s h hp := by
  obtain ⟨d, k, e, L', q, fr⟩ := s
  obtain ⟨P, S, f, nt, k2, e2, L2⟩ := c
  simp only [Prod.mk.injEq, Bool.and_eq_true] at h
  obtain ⟨⟨rfl, rfl, rfl, rfl⟩, ⟨h1, h2, h3⟩, h4, h5, h6⟩ := h
  cases fr with
  | cons x r => simp at h5
  | nil => cases q with
   | some q => simp at h6
   | none => exact AtE.cut is hp (by rw [h1, h2, h3, h4])
@[reducible] def VC.zcT (is : List Nat) (m : Nat) (c : Cut) : VC C where
 pr := c.at C.w0 C.R
 T := (Program × List Nat × Nat × Nat) × (List Item × Option Env × SHeap) × Bool
 l s := ((C.P, C.S, s.d.f, s.nt), (s.k, restrict s.e (c.e.map (·.1)), selL (s.L.take m) is ++ s.L.drop m), (nodupB is && (s.fr.isEmpty && s.q.isNone)))
 N _ := ((c.P, c.S, c.f, c.nt), (c.k, some c.e, c.L), true)
 ok s h hp := by
  obtain ⟨d, k, e, L', q, fr⟩ := s
  obtain ⟨P, S, f, nt, k2, e2, L2⟩ := c
  simp only [Prod.mk.injEq, Bool.and_eq_true] at h
  obtain ⟨⟨rfl, rfl, rfl, rfl⟩, ⟨h1, h2, h3⟩, h4, h5, h6⟩ := h
  cases fr with
  | cons x r => simp at h5
  | nil => cases q with
   | some q => simp at h6
   | none => exact AtE.cutT is m hp (by rw [h1, h2, h3, h4])
@[reducible] def VC.ex {α : Type} (f : α → VC C) : VC C where
 pr := ∃ x, (f x).pr
 T := (x : α) → (f x).T
 l s := fun x => (f x).l s
 N g := fun x => (f x).N (g x)
 ok s h hp := hp.elim fun x hx => (f x).ok s (congrFun h x) hx
@[reducible] def KT.ex {α : Type} (f : α → KT C) : KT C where
 pr v L := ∃ x, (f x).pr v L
 T := (x : α) → (f x).T
 l b := fun x => (f x).l b
 N g := fun x => (f x).N (g x)
 ok b h v L' hp := hp.elim fun x hx => (f x).ok b (congrFun h x) v L' hx
@[reducible] def KT.rt (v0 : Value) (L0 : SHeap) (A : VC C) : KT C where
 pr v L := v = v0 ∧ L = L0 ∧ A.pr
 T := A.T
 l b := A.l (b v0 L0)
 N := A.N
 ok b h v L' hp := by obtain ⟨rfl, rfl, hp⟩ := hp; exact A.ok _ h hp
@[reducible] def VC.zcl (g : FuncId) (args : List Value) (L1 : SHeap) (K : KT C) : VC C where
 pr := CallH C.P g ⟨args⟩ L1 C.S C.w0 K.pr
 T := (World → Result Next) × Bool × SHeap × K.T
 l s := ((fun W => (execOp (rho s.e) (curO s.nt s.k s.e)).run C.P W), ((cur s.nt s.k s.e).isSome && s.q.isNone), s.L, K.l fun v L' => s.hp v L')
 N p := ((fun W => .ok (.enter g ⟨args⟩) W), true, L1, K.N p.2.2.2)
 ok s h hp := by
  obtain ⟨d, k, e, L', q, fr⟩ := s
  simp only [Prod.mk.injEq, Bool.and_eq_true] at h
  obtain ⟨h1, ⟨h2, h3⟩, rfl, h6⟩ := h
  obtain ⟨o, ho⟩ := Option.isSome_iff_exists.1 h2
  cases q with
  | some q => simp at h3
  | none => exact AtE.call (R := goal C fr) g ⟨args⟩ (fun W => congrFun h1 W) (by simp [curO, ho]) hp fun v L2 hk => K.ok _ h6 v L2 hk
theorem J.split {s : St C.P} (i : Nat) {b : Bool} (h : get? s.e i = some (.bool b)) (O : b = true → J C { s with e := (i, .bool true) :: s.e }) (M : b = false → J C { s with e := (i, .bool false) :: s.e }) : J C s := by
 obtain ⟨d, k, e, L', q, fr⟩ := s
 cases q with
 | none => exact AtE.split i h O M
 | some q => exact AtQ.split i h O M
@[reducible] def VC.b2 (i : Nat) (p q : Prop) (v : Bool) (h1 : v = true → p) (h0 : v = false → q) (A B : VC C) : VC C where
 pr := (p → A.pr) ∧ (q → B.pr)
 T := Option Value × A.T × B.T
 l s := (get? s.e i, A.l { s with e := (i, .bool true) :: s.e }, B.l { s with e := (i, .bool false) :: s.e })
 N g := (some (.bool v), A.N g.2.1, B.N g.2.2)
 ok s h hp := J.split i (congrArg (·.1) h) (fun hb => A.ok _ (congrArg (·.2.1) h) (hp.1 (h1 hb))) fun hb => B.ok _ (congrArg (·.2.2) h) (hp.2 (h0 hb))
abbrev VC.zP (i : Nat) (p : Prop) [Decidable p] (A B : VC C) : VC C := .b2 i p (¬ p) (decide p) of_decide_eq_true of_decide_eq_false A B
abbrev VC.zI (i : Nat) (p : Prop) [Decidable p] (A B : VC C) : VC C := .b2 i (¬ p) p (!decide p) (fun h => by simpa using h) (fun h => by simpa using h) A B
abbrev VC.zB (i : Nat) (b : Bool) (A B : VC C) : VC C := .b2 i (b = true) (b = false) b id id A B
abbrev VC.zsE (i : Nat) (x y : BA) (A B : VC C) : VC C := .b2 i (x = y) (¬ x = y) (x.toList == y.toList) (fun h => (strEq_iff x y).1 h) (fun h e => by rw [(strEq_iff x y).2 e] at h; cases h) A B
abbrev VC.zsN (i : Nat) (x y : BA) (A B : VC C) : VC C := .b2 i (¬ x = y) (x = y) (!(x.toList == y.toList)) (fun h e => by rw [(strEq_iff x y).2 e] at h; cases h) (fun h => (strEq_iff x y).1 (by simpa using h)) A B
theorem J.push {s : St C.P} (i : Nat) {v : Value} (h : get? s.e i = some v) (hn : J C { s with e := (i, v) :: s.e }) : J C s := by
 obtain ⟨d, k, e, L', q, fr⟩ := s
 cases q with
 | none => exact AtE.push h hn
 | some q => exact AtQ.push h hn
@[reducible] def VC.zli (i : Nat) (n : Int) (f : Int → VC C) (kd : IntKind := .i64) : VC C where
 pr := ∀ x, x = n → (f x).pr
 T := Option Value × ((x : Int) → (f x).T)
 l s := (get? s.e i, fun x => (f x).l { s with e := (i, .int kd x) :: s.e })
 N g := (some (.int kd n), fun x => (f x).N (g.2 x))
 ok s h hp := J.push i (congrArg (·.1) h) ((f n).ok _ (congrFun (congrArg (·.2) h) n) (hp n rfl))
@[reducible] def VC.zls (i : Nat) (n : BA) (f : BA → VC C) : VC C where
 pr := ∀ x, x = n → (f x).pr
 T := Option Value × ((x : BA) → (f x).T)
 l s := (get? s.e i, fun x => (f x).l { s with e := (i, .string x) :: s.e })
 N g := (some (.string n), fun x => (f x).N (g.2 x))
 ok s h hp := J.push i (congrArg (·.1) h) ((f n).ok _ (congrFun (congrArg (·.2) h) n) (hp n rfl))
@[reducible] def VC.o1 {δ : Type} (dat : Program → Nat → List Item → Env → δ) (d0 : δ) (F : Prop) (v : Value)
  (hE : ∀ {f nt k e L} {R : Goal C.P}, dat C.P nt k e = d0 → F → AtE C.P f nt (nextK k) (putE e (curDst nt k e) v) L C.S C.w0 R → AtE C.P f nt k e L C.S C.w0 R)
  (hQ : ∀ {f nt k e L ops n kk} {R : Goal C.P}, dat C.P nt k e = d0 → F → AtQ C.P f nt ops n kk (nextK k) (putE e (curDst nt k e) v) L C.S C.w0 R → AtQ C.P f nt ops n kk k e L C.S C.w0 R)
  (A : VC C) : VC C where
 pr := F ∧ A.pr
 T := δ × A.T
 l s := (dat C.P s.nt s.k s.e, A.l (s.nx v))
 N g := (d0, A.N g.2)
 ok s h hp := by
  obtain ⟨d, k, e, L', q, fr⟩ := s
  have h1 := congrArg (·.1) h
  have h2 := congrArg (·.2) h
  cases q with
  | none => exact hE h1 hp.1 (A.ok ⟨d, _, _, L', none, fr⟩ h2 hp.2)
  | some q => exact hQ h1 hp.1 (A.ok ⟨d, _, _, L', some q, fr⟩ h2 hp.2)
def dIx (P : Program) (nt : Nat) (k : List Item) (e : Env) : Option (BA × Int) := match asIndex P nt k e with
 | some (some .string, .string s, .int _ i) => some (s, i)
 | _ => none
theorem dIx_ok {P : Program} {nt : Nat} {k : List Item} {e : Env} {s : BA} {i : Int} (h : dIx P nt k e = some (s, i)) : ∃ kd, asIndex P nt k e = some (some .string, .string s, .int kd i) := by
 unfold dIx at h
 split at h
 ·next hh => simp only [Option.some.injEq, Prod.mk.injEq] at h; obtain ⟨rfl, rfl⟩ := h; exact ⟨_, hh⟩
 ·cases h
@[reducible] def VC.ix (s : BA) (i : Int) (A : VC C) : VC C := .o1 dIx (some (s, i)) (0 ≤ i ∧ i < s.size) (.int .u8 (bat s i)) (fun h hb hn => (dIx_ok h).elim fun _ h => AtE.indexS h hb hn) (fun h hb hn => (dIx_ok h).elim fun _ h => AtQ.indexS h hb hn) A
def loV : Option Value → Option Int
 | none => some 0
 | some (.int _ a) => some a
 | _ => none
def hiV (s : Int) : Option Value → Option Int
 | none => some s
 | some (.int _ a) => some a
 | _ => none
def dSl (P : Program) (nt : Nat) (k : List Item) (e : Env) : Option (BA × Option Int × Option Int) := match asSlice P nt k e with
 | some (some .string, .string s, lo, hi, none) => some (s, loV lo, hiV s.size hi)
 | _ => none
theorem dSl_ok {P : Program} {nt : Nat} {k : List Item} {e : Env} {s : BA} {a b : Int} (h : dSl P nt k e = some (s, some a, some b)) :
  ∃ lo hi, asSlice P nt k e = some (some .string, .string s, lo, hi, none) ∧ ((∃ kd, lo = some (.int kd a)) ∨ (lo = none ∧ a = 0)) ∧ ((∃ kd, hi = some (.int kd b)) ∨ (hi = none ∧ b = s.size)) := by
 unfold dSl at h
 split at h
 ·next lo hi hh =>
  simp only [Option.some.injEq, Prod.mk.injEq] at h
  obtain ⟨rfl, M, O⟩ := h
  refine ⟨lo, hi, hh, ?_, ?_⟩
  ·unfold loV at M
   split at M
   ·exact .inr ⟨rfl, (Option.some.inj M).symm⟩
   ·next _ x _ => exact .inl ⟨x, by rw [Option.some.inj M]⟩
   ·cases M
  ·unfold hiV at O
   split at O
   ·exact .inr ⟨rfl, (Option.some.inj O).symm⟩
   ·next _ x _ => exact .inl ⟨x, by rw [Option.some.inj O]⟩
   ·cases O
 ·cases h
@[reducible] def VC.ss (s : BA) (a b : Int) (A : VC C) : VC C := .o1 dSl (some (s, some a, some b)) (0 ≤ a ∧ a ≤ b ∧ b ≤ s.size) (.string (s.extract a.toNat b.toNat))
 (fun h hb hn => by obtain ⟨lo, hi, h1, h2, h3⟩ := dSl_ok h; exact AtE.sliceS h1 h2 h3 hb hn) (fun h hb hn => by obtain ⟨lo, hi, h1, h2, h3⟩ := dSl_ok h; exact AtQ.sliceS h1 h2 h3 hb hn) A
def dBin (_ : Program) (nt : Nat) (k : List Item) (e : Env) : Option (BinOp × Value × Value) := asBin nt k e
@[reducible] def VC.cc (x y : BA) (A : VC C) : VC C := .o1 dBin (some (.add, .string x, .string y)) (x.size + y.size ≤ 9223372036854775807) (.string (x ++ y)) (fun h hb hn => AtE.concat h hb hn) (fun h hb hn => AtQ.concat h hb hn) A
theorem VC.cs {f : Nat} {P : Program} {fn : Func} {S : List Nat} {w0 W : World} {R : Ending → World → Prop} {L : SHeap} {args : List Value} (M : P.funcs[f]? = some fn) (hm : Mem L S w0 W) (t : VC ⟨P, S, w0, R⟩) (H : t.pr)
  (h : (fn.body.isSome, Nat.ble args.length fn.ntmps, t.l ⟨fd M, [.code (body fn)], argsE 0 args, L, none, []⟩) = (true, true, t.N (t.l ⟨fd M, [.code (body fn)], argsE 0 args, L, none, []⟩)) := by kernel_rfl) : Calls P f ⟨args⟩ W R := by
 simp only [Prod.mk.injEq] at h
 exact AtE.cs fn.ntmps M hm (t.ok ⟨fd M, _, _, L, none, []⟩ h.2.2 H) (by rw [h.1, h.2.1])
theorem VC.go {f nt : Nat} {P : Program} {fn : Func} {S : List Nat} {w0 : World} {R : Ending → World → Prop} {k : List Item} {e : Env} {L : SHeap} (M : P.funcs[f]? = some fn) (t : VC ⟨P, S, w0, R⟩) (H : t.pr)
  (h : (fn.ntmps, t.l ⟨fd M, k, e, L, none, []⟩) = (nt, t.N (t.l ⟨fd M, k, e, L, none, []⟩)) := by kernel_rfl) : AtE P f nt k e L S w0 (nrm R) := by
 simp only [Prod.mk.injEq] at h
 have := t.ok ⟨fd M, k, e, L, none, []⟩ h.2 H
 rw [← h.1]; exact this
end
section
variable {C : Cx}
abbrev VC.x2 {α β : Type} (f : α → β → VC C) : VC C := .ex fun a => .ex (f a)
abbrev VC.x3 {α β γ : Type} (f : α → β → γ → VC C) : VC C := .ex fun a => .x2 (f a)
abbrev VC.x4 {α β γ δ : Type} (f : α → β → γ → δ → VC C) : VC C := .ex fun a => .x3 (f a)
abbrev VC.x5 {α β γ δ ε : Type} (f : α → β → γ → δ → ε → VC C) : VC C := .ex fun a => .x4 (f a)
abbrev KT.x2 {α β : Type} (f : α → β → KT C) : KT C := .ex fun a => .ex (f a)
abbrev KT.x3 {α β γ : Type} (f : α → β → γ → KT C) : KT C := .ex fun a => .x2 (f a)
abbrev KT.x4 {α β γ δ : Type} (f : α → β → γ → δ → KT C) : KT C := .ex fun a => .x3 (f a)
abbrev KT.x5 {α β γ δ ε : Type} (f : α → β → γ → δ → ε → KT C) : KT C := .ex fun a => .x4 (f a)
@[reducible] def VC.oE {δ : Type} (dat : Program → Nat → List Item → Env → SHeap → δ) (d0 : δ) (F : Prop) (v : Value) (g : SHeap → SHeap)
  (hE : ∀ {f nt k e L} {R : Goal C.P}, dat C.P nt k e L = d0 → F → AtE C.P f nt (nextK k) (putE e (curDst nt k e) v) (g L) C.S C.w0 R → AtE C.P f nt k e L C.S C.w0 R) (A : VC C) : VC C where
 pr := F ∧ A.pr
 T := (δ × Bool) × A.T
 l s := ((dat C.P s.nt s.k s.e s.L, s.q.isNone), A.l (s.hp v (g s.L)))
 N p := ((d0, true), A.N p.2)
 ok s h hp := by
  obtain ⟨d, k, e, L', q, fr⟩ := s
  have h1 := congrArg (·.1.1) h
  have h3 := congrArg (·.1.2) h
  have h2 := congrArg (·.2) h
  cases q with
  | none => exact hE h1 hp.1 (A.ok ⟨d, _, _, _, none, fr⟩ h2 hp.2)
  | some q => exact absurd h3 (by simp)
@[reducible] def VC.oT {δ : Type} (dat : Program → Nat → List Item → Env → SHeap → δ) (d0 : δ) (v : Value)
  (hE : ∀ {f nt k e L} {R : Goal C.P}, dat C.P nt k e L = d0 → AtE C.P f nt (nextK k) (putE e (curDst nt k e) v) L C.S C.w0 R → AtE C.P f nt k e L C.S C.w0 R) (A : VC C) : VC C where
 pr := A.pr
 T := (δ × Bool) × A.T
 l s := ((dat C.P s.nt s.k s.e s.L, s.q.isNone), A.l (s.nx v))
 N p := ((d0, true), A.N p.2)
 ok s h hp := by
  obtain ⟨d, k, e, L', q, fr⟩ := s
  have h1 := congrArg (·.1.1) h
  have h3 := congrArg (·.1.2) h
  have h2 := congrArg (·.2) h
  cases q with
  | none => exact hE h1 (A.ok ⟨d, _, _, _, none, fr⟩ h2 hp)
  | some q => exact absurd h3 (by simp)
theorem J.load {s : St C.P} {b off : Nat} {T : TypeId} {c : List Value} {v : Value} (h : asLoad s.nt s.k s.e = some (T, .pointer (some ⟨b, off, none⟩))) (Z : ∀ W, Mem s.L C.S C.w0 W → ∃ t fz, W.heap[b]? = some (.cells ⟨c⟩ t fz))
  (a1 : valAt C.P T c off = some v) (hn : J C (s.nx v)) : J C s := by
 obtain ⟨d, k, e, L', q, fr⟩ := s
 obtain ⟨o, x, M, a0, a2⟩ := asLoad_spec h
 have O : ∀ W, Mem L' C.S C.w0 W → (execOp (rho e) o).run C.P W = .ok (.value v) W := fun W hm => by
  obtain ⟨t, fz, V⟩ := Z W hm
  simp only [execOp, a0, a2]
  exact run_lift (load_run (t := t) (fz := fz) V a1)
 cases q with
 | none => exact AtE.opV M O hn
 | some q => exact AtQ.opV M O hn
theorem held_W {L : SHeap} {S : List Nat} {w0 W : World} {b : Nat} {c : List Value} (M : b ∉ S) (O : blkW w0 b = some c) (hm : Mem L S w0 W) : ∃ t fz, W.heap[b]? = some (.cells ⟨c⟩ t fz) := held_at hm M (.inr O)
@[reducible] def VC.lg (b off : Nat) (T : TypeId) (c : List Value) (v : Value) (L : Option SHeap) (F : Prop) (hF : F → ∀ L' W, (L = none ∨ L = some L') → Mem L' C.S C.w0 W → ∃ t fz, W.heap[b]? = some (.cells ⟨c⟩ t fz)) (A : VC C) : VC C where
 pr := F ∧ c[off]? = some v ∧ A.pr
 T := (Option (TypeId × Value) × Option Bool × Option SHeap) × A.T
 l s := ((asLoad s.nt s.k s.e, (C.P.underlying T).map aggD, (match L with | none => none | some _ => some s.L)), A.l (s.nx v))
 N p := ((some (T, .pointer (some ⟨b, off, none⟩)), some false, L), A.N p.2)
 ok s h hp := by
  have h1 := congrArg (·.1.1) h
  have h3 := congrArg (·.1.2.1) h
  have h4 := congrArg (·.1.2.2) h
  have h2 := congrArg (·.2) h
  refine J.load h1 (fun W hm => hF hp.1 s.L W ?_ hm) (valAt_one hp.2.1 h3) (A.ok _ h2 hp.2.2)
  cases L with
  | none => exact .inl rfl
  | some L => exact .inr h4.symm
@[reducible] def VC.la (b off n : Nat) (T : TypeId) (c vs : List Value) (L : Option SHeap) (F : Prop) (hF : F → ∀ L' W, (L = none ∨ L = some L') → Mem L' C.S C.w0 W → ∃ t fz, W.heap[b]? = some (.cells ⟨c⟩ t fz)) (A : VC C) : VC C where
 pr := F ∧ ((c.drop off).take n = vs ∧ off + n ≤ c.length) ∧ A.pr
 T := (Option (TypeId × Value) × (Option Bool × Option Nat) × Option SHeap) × A.T
 l s := ((asLoad s.nt s.k s.e, ((C.P.underlying T).map aggD, (C.P.info? T).map (·.size)), (match L with | none => none | some _ => some s.L)), A.l (s.nx (.agg ⟨vs⟩)))
 N p := ((some (T, .pointer (some ⟨b, off, none⟩)), (some true, some n), L), A.N p.2)
 ok s h hp := by
  have h1 := congrArg (·.1.1) h
  have h3 := congrArg (·.1.2.1.1) h
  have h5 := congrArg (·.1.2.1.2) h
  have h4 := congrArg (·.1.2.2) h
  have h2 := congrArg (·.2) h
  refine J.load h1 (fun W hm => hF hp.1 s.L W ?_ hm) (valAt_agg hp.2.1.1 hp.2.1.2 h3 h5) (A.ok _ h2 hp.2.2)
  cases L with
  | none => exact .inl rfl
  | some L => exact .inr h4.symm
def noS : List Nat → Bool
 | [] => true
 | _ => false
theorem noS_not {S : List Nat} (h : noS S = true) (b : Nat) : b ∉ S := by cases S <;> simp_all [noS]
theorem fW {b : Nat} {c : List Value} {S : List Nat} {w0 : World} (M : noS S = true) (h : blkW w0 b = some c) (L' : SHeap) (W : World) (_ : (none : Option SHeap) = none ∨ none = some L') (hm : Mem L' S w0 W) : ∃ t fz, W.heap[b]? = some (.cells ⟨c⟩ t fz) := held_W (noS_not M b) h hm
theorem fM {b : Nat} {c : List Value} {S : List Nat} {w0 : World} {L : SHeap} (O : noS S = true) (h : held L w0 b c) (L' : SHeap) (W : World) (M : some L = none ∨ some L = some L') (hm : Mem L' S w0 W) : ∃ t fz, W.heap[b]? = some (.cells ⟨c⟩ t fz) := by
 rcases M with M | M
 ·cases M
 ·cases M; exact held_at hm (noS_not O b) h
abbrev VC.lW (b off : Nat) (T : TypeId) (c : List Value) (v : Value) (A : VC C) (hS : noS C.S = true := by rfl) : VC C := .lg b off T c v none (blkW C.w0 b = some c) (fW hS) A
abbrev VC.lWa (b off n : Nat) (T : TypeId) (c vs : List Value) (A : VC C) (hS : noS C.S = true := by rfl) : VC C := .la b off n T c vs none (blkW C.w0 b = some c) (fW hS) A
abbrev VC.lM (L : SHeap) (b off : Nat) (T : TypeId) (c : List Value) (v : Value) (A : VC C) (hS : noS C.S = true := by rfl) : VC C := .lg b off T c v (some L) (held L C.w0 b c) (fM hS) A
abbrev VC.lMa (L : SHeap) (b off n : Nat) (T : TypeId) (c vs : List Value) (A : VC C) (hS : noS C.S = true := by rfl) : VC C := .la b off n T c vs (some L) (held L C.w0 b c) (fM hS) A
@[reducible] def VC.nw (fr : Bool) (mk : Nat → Value) (o : Obj) (f : Nat → VC C) : VC C where
 pr := ∀ B, (f B).pr
 T := (World → Result Next) × Bool × ((B : Nat) → (f B).T)
 l s := ((fun W => (execOp (rho s.e) (curO s.nt s.k s.e)).run C.P W), ((cur s.nt s.k s.e).isSome && s.q.isNone), fun B => (f B).l (s.hp (mk B) (match fr with | true => (B, o) :: s.L | false => s.L ++ [(B, o)])))
 N p := ((fun W => .ok (.value (mk W.heap.size)) { W with heap := W.heap.push o }), true, fun B => (f B).N (p.2.2 B))
 ok s h hp := by
  obtain ⟨d, k, e, L', q, r⟩ := s
  have h1 := congrArg (·.1) h
  have h2 := congrArg (·.2.1) h
  have h3 := congrArg (·.2.2) h
  simp only [Bool.and_eq_true] at h2
  obtain ⟨o', ho⟩ := Option.isSome_iff_exists.1 h2.1
  cases q with
  | some q => exact absurd h2.2 (by simp)
  | none =>
   refine AtE.new (R := goal C r) mk o (fun W => congrFun h1 W) (by simp [curO, ho]) fun B => ?_
   have := (f B).ok _ (congrFun h3 B) (hp B)
   cases fr with
   | false => exact this
   | true => exact AtE.front this
abbrev VC.znp (o : Obj) (f : Nat → VC C) : VC C := .nw false (fun B => PP B) o f
abbrev VC.znf (o : Obj) (f : Nat → VC C) : VC C := .nw true (fun B => PP B) o f
abbrev VC.ns (fr : Bool) (n : Nat) (o : Obj) (f : Nat → VC C) : VC C := .nw fr (fun B => .slice (SO B) n n) o f
def dIa (P : Program) (nt : Nat) (k : List Item) (e : Env) : Option (Value × Int × Option Nat) := match asIndexAddr P nt k e with
 | some (some (.slice E), x, .int _ i) => some (x, i, (P.info? E).map (·.size))
 | _ => none
theorem dIa_ok {P : Program} {nt : Nat} {k : List Item} {e : Env} {x : Value} {i : Int} {z : Option Nat} (h : dIa P nt k e = some (x, i, z)) : ∃ E kd, asIndexAddr P nt k e = some (some (.slice E), x, .int kd i) ∧ (P.info? E).map (·.size) = z := by
 unfold dIa at h
 split at h
 ·next hh => simp only [Option.some.injEq, Prod.mk.injEq] at h; obtain ⟨rfl, rfl, rfl⟩ := h; exact ⟨_, _, hh, rfl⟩
 ·cases h
@[reducible] def VC.iL (b o len cap sz : Nat) (i : Int) (o' : Nat) (A : VC C) (ho : o' = o + i.toNat * sz := by omega) : VC C :=
 .o1 dIa (some (.slice (some ⟨b, o, none⟩) len cap, i, some sz)) (0 ≤ i ∧ i < len) (.pointer (some ⟨b, o', none⟩))
  (fun h hb hn => by obtain ⟨E, kd, h1, h2⟩ := dIa_ok h; exact AtE.indexAddrL (by rw [h1, h2]) hb ho hn) (fun h hb hn => by obtain ⟨E, kd, h1, h2⟩ := dIa_ok h; exact AtQ.indexAddrL (by rw [h1, h2]) hb ho hn) A
@[reducible] def VC.iP (p : OA) (b o len cap sz : Nat) (i : Int) (o' : Nat) (A : VC C) (ho : o' = o + i.toNat * sz := by omega) : VC C where
 pr := p = some ⟨b, o, none⟩ ∧ (0 ≤ i ∧ i < len) ∧ A.pr
 T := Option (Value × Int × Option Nat) × A.T
 l s := (dIa C.P s.nt s.k s.e, A.l (s.nx (.pointer (some ⟨b, o', none⟩))))
 N g := (some (.slice p len cap, i, some sz), A.N g.2)
 ok s h hp := by
  obtain ⟨d, k, e, L', q, fr⟩ := s
  have h1 := congrArg (·.1) h
  have h2 := congrArg (·.2) h
  obtain ⟨hp0, hb, hA⟩ := hp
  obtain ⟨E, kd, h1, h3⟩ := dIa_ok h1
  cases q with
  | none => exact AtE.indexAddrP hp0 (by rw [h1, h3]) hb ho (A.ok ⟨d, _, _, L', none, fr⟩ h2 hA)
  | some q => exact AtQ.indexAddrP hp0 (by rw [h1, h3]) hb ho (A.ok ⟨d, _, _, L', some q, fr⟩ h2 hA)
def subE (a : OA) : List Nat → Env → Env × List OA
 | [], e => (e, [])
 | i :: r, e => match subE a r e with
  | (e', l) => match get? e i with
   | some (.slice p n c) => ((i, .slice a n c) :: e', p :: l)
   | _ => (e', none :: some ⟨0, 0, none⟩ :: l)
@[reducible] def VC.sp (p : OA) (b o : Nat) (is : List Nat) (A : VC C) : VC C where
 pr := p = some ⟨b, o, none⟩ ∧ A.pr
 T := List OA × A.T
 l s := ((subE (some ⟨b, o, none⟩) is s.e).2, A.l { s with e := (subE (some ⟨b, o, none⟩) is s.e).1 })
 N g := (is.map fun _ => p, A.N g.2)
 ok s h hp := by
  have h1 := congrArg (·.1) h
  have h2 := congrArg (·.2) h
  obtain ⟨rfl, hA⟩ := hp
  have hJ := A.ok _ h2 hA
  have key : ∀ (is : List Nat) (e : Env), (subE (some ⟨b, o, none⟩) is e).2 = is.map (fun _ => some ⟨b, o, none⟩) → ∀ i v, get? (subE (some ⟨b, o, none⟩) is e).1 i = some v → get? e i = some v := by
   intro is
   induction is with
   | nil => intro e _ i v hv; exact hv
   | cons j r ih =>
    intro e he i v hv
    simp only [subE] at he hv
    split at he
    ·next p n c hg =>
     simp only [List.map_cons, List.cons.injEq] at he
     obtain ⟨rfl, he⟩ := he
     rw [hg] at hv
     simp only [get?] at hv
     cases hb : Nat.beq j i with
     | true =>
      have : j = i := Nat.eq_of_beq_eq_true hb
      subst this
      rw [hb] at hv; simp only [cond_true, Option.some.injEq] at hv
      subst hv; exact hg
     | false => rw [hb] at hv; exact ih e he i v hv
    ·simp at he
  obtain ⟨d, k, e, L', q, fr⟩ := s
  cases q with
  | none => exact fun t W hk hm => hJ t W ⟨hk.size, fun i v hv => hk.slot i v (key is e h1 i v hv)⟩ hm
  | some q => exact fun j hj hle t hk => hJ j hj hle t ⟨hk.size, fun i v hv => hk.slot i v (key is e h1 i v hv)⟩
@[reducible] def VC.qc (g : FuncId) (args : List Value) (L1 : SHeap) (v : Value) (A : VC C) : VC C where
 pr := QCall C.P g ⟨args⟩ L1 C.S C.w0 v ∧ A.pr
 T := (World → Result Next) × Bool × SHeap × A.T
 l s := ((fun W => (execOp (rho s.e) (curO s.nt s.k s.e)).run C.P W), ((cur s.nt s.k s.e).isSome && s.q.isSome), s.L, A.l (s.nx v))
 N p := ((fun W => .ok (.enter g ⟨args⟩) W), true, L1, A.N p.2.2.2)
 ok s h hp := by
  obtain ⟨d, k, e, L', q, fr⟩ := s
  simp only [Prod.mk.injEq, Bool.and_eq_true] at h
  obtain ⟨h1, ⟨h2, h3⟩, rfl, h6⟩ := h
  obtain ⟨o, ho⟩ := Option.isSome_iff_exists.1 h2
  cases q with
  | none => simp at h3
  | some q => exact AtQ.call (R := goal C fr) g ⟨args⟩ (fun W => congrFun h1 W) (by simp [curO, ho]) hp.1 (A.ok ⟨d, _, _, L', some q, fr⟩ h6 hp.2)
@[reducible] def VC.so (j b off lo hi : Nat) (T : TypeId) (v : Value) (c : List Value) (F : Prop) (hF : F → off < c.length ∧ (off < lo ∨ hi ≤ off)) (A : VC C) : VC C :=
 .oE (fun P nt k e L => (asStore nt k e, isCellsL L j, v.oneCell', (P.info? T).map (·.size), cellsL L j, fzL L j, blkL L j)) (some (T, .pointer (some ⟨b, off, none⟩), v), true, true, some 1, c, (lo, hi), b) F undef (fun L => setL L j (c.set off v))
  (fun h hF' hn => by
   simp only [Prod.mk.injEq] at h
   obtain ⟨h1, h2, h3, h4, h5, h6, rfl⟩ := h
   exact AtE.storeS j (by rw [h1, h2, h3, h4, h5, h6]) (hF hF').1 (hF hF').2 hn) A
abbrev VC.sr (j b off : Nat) (T : TypeId) (v : Value) (c : List Value) (A : VC C) : VC C := .so j b off 0 0 T v c (off < c.length) (fun h => ⟨h, .inr (Nat.zero_le _)⟩) A
end
section
variable {C : Cx}
def resD (P : Program) (rs : List ResultVar) (e : Env) (L : SHeap) (j j2 : Nat) : Option ((Value × Value) × (Value × Value) × Value) :=
 match rs with
 | [.cell a T] => match get? e a with
  | some p => match isCellsL L j with
   | true => match valAt P T (cellsL L j) (offOf p) with
    | some v => some ((p, ptrAt (blkL L j) (offOf p)), (undef, undef), v)
    | none => none
   | false => none
  | none => none
 | [.cell a T, .cell b U] => match get? e a with
  | some p => match isCellsL L j with
   | true => match valAt P T (cellsL L j) (offOf p) with
    | some u => match get? e b with
     | some q => match isCellsL L j2 with
      | true => match valAt P U (cellsL L j2) (offOf q) with
       | some v => some ((p, ptrAt (blkL L j) (offOf p)), (q, ptrAt (blkL L j2) (offOf q)), .tuple #[u, v])
       | none => none
      | false => none
     | none => none
    | none => none
   | false => none
  | none => none
 | [.cell a T, .tmp b] => match get? e a with
  | some p => match isCellsL L j with
   | true => match valAt P T (cellsL L j) (offOf p) with
    | some u => match get? e b with
     | some v => some ((p, ptrAt (blkL L j) (offOf p)), (undef, undef), .tuple #[u, v])
     | none => none
    | none => none
   | false => none
  | none => none
 | _ => none
theorem resD_ok {P : Program} {fn : Func} {nt : Nat} {e : Env} {L : SHeap} {S : List Nat} {w0 : World} {j Z : Nat} {y z v : Value} (h : resD P fn.results.toList e L j Z = some ((y, y), (z, z), v)) : ResOk P fn nt e L S w0 v := by
 unfold resD at h
 split at h
 ·next a T hr =>
  have V : fn.results = #[.cell a T] := by rw [← Array.toList_inj, hr]
  split at h
  ·next p hp =>
   split at h
   ·next hi =>
    split at h
    ·next u hu =>
     simp only [Option.some.injEq, Prod.mk.injEq] at h
     obtain ⟨⟨rfl, M⟩, _, rfl⟩ := h
     have O : p = .pointer (some ⟨blkL L j, offOf p, none⟩) := M.symm
     rw [O] at hp
     intro t W a2 hm
     have a4 := load_res (P := P) hm hi hu
     have a1 : t[a]?.getD undef = .pointer (some ⟨blkL L j, offOf p, none⟩) := by rw [← Array.getD_eq_getD_getElem?]; exact a2.getD hp
     simp [results, V, a1, asAddr, a4]
    ·cases h
   ·cases h
  ·cases h
 ·next a T b U hr =>
  have V : fn.results = #[.cell a T, .cell b U] := by rw [← Array.toList_inj, hr]
  split at h
  ·next p hp =>
   split at h
   ·next hi =>
    split at h
    ·next u hu =>
     split at h
     ·next q hq =>
      split at h
      ·next hi2 =>
       split at h
       ·next v' hv' =>
        simp only [Option.some.injEq, Prod.mk.injEq] at h
        obtain ⟨⟨rfl, M⟩, ⟨rfl, a0⟩, rfl⟩ := h
        have O : p = .pointer (some ⟨blkL L j, offOf p, none⟩) := M.symm
        have a3 : q = .pointer (some ⟨blkL L Z, offOf q, none⟩) := a0.symm
        exact ResOk.cells2 j (offOf p) Z (offOf q) V (by rw [hp, hi, hu, hq, hi2, hv', ← O, ← a3])
       ·cases h
      ·cases h
     ·cases h
    ·cases h
   ·cases h
  ·cases h
 ·next a T b hr =>
  have V : fn.results = #[.cell a T, .tmp b] := by rw [← Array.toList_inj, hr]
  split at h
  ·next p hp =>
   split at h
   ·next hi =>
    split at h
    ·next u hu =>
     split at h
     ·next v' hq =>
      simp only [Option.some.injEq, Prod.mk.injEq] at h
      obtain ⟨⟨rfl, M⟩, _, rfl⟩ := h
      have O : p = .pointer (some ⟨blkL L j, offOf p, none⟩) := M.symm
      exact ResOk.ct j (offOf p) V (by rw [hp, hi, hu, hq, ← O])
     ·cases h
    ·cases h
   ·cases h
  ·cases h
 ·cases h
@[reducible] def VC.rc (j j2 : Nat) (v : Value) (L : SHeap) : VC C where
 pr := Fin C.R L C.S C.w0 v
 T := Bool × Option ((Value × Value) × (Value × Value) × Value) × SHeap × Bool × Bool
 l s := (isRet s.k, resD C.P s.d.fn.results.toList s.e s.L j j2, s.L, s.fr.isEmpty, s.q.isNone)
 N p := (true, (match p.2.1 with | some ((_, y), (_, z), _) => some ((y, y), (z, z), v) | none => some ((undef, undef), (undef, undef), undef)), L, true, true)
 ok s h hp := by
  obtain ⟨d, k, e, L', q, fr⟩ := s
  simp only [Prod.mk.injEq] at h
  obtain ⟨h1, h2, rfl, h4, h5⟩ := h
  cases fr with
  | cons x r => simp at h4
  | nil => cases q with
   | some q => simp at h5
   | none =>
    split at h2
    ·exact AtE.retR (v := v) d.hf (by rw [h1]) (resD_ok h2) hp
    ·next he => rw [he] at h2; cases h2
@[reducible] def VC.rm (kd : IntKind) (x y : Int) (A : VC C) : VC C := .o1 dBin (some (.rem, .int kd x, .int kd y)) (y ≠ 0) (.int kd (x.tmod y)) (fun h hb hn => AtE.rem h hb hn) (fun h hb hn => AtQ.rem h hb hn) A
@[reducible] def VC.sl (kd kc : IntKind) (x y : Int) (A : VC C) : VC C := .o1 dBin (some (.shl, .int kd x, .int kc y)) (0 ≤ y) (.int kd (kd.wrap (x * 2 ^ (min y.toNat kd.bits)))) (fun h hb hn => AtE.shl h hb hn) (fun h hb hn => AtQ.shl h hb hn) A
@[reducible] def VC.nS (T : TypeId) (a : Addr) (A : VC C) : VC C :=
 .oT (fun P nt k e _ => (asBin2 nt k e, (match P.underlying T with | some (.pointer E) => (P.info? E).isSome | _ => false))) (some (.neq, T, .pointer (some a), .pointer (some a)), true) (.bool false)
  (fun h hn => by
   simp only [Prod.mk.injEq] at h
   obtain ⟨h1, h4⟩ := h
   split at h4
   ·next E hf => exact AtE.neqSame (by rw [h1, hf, h4]) hn
   ·cases h4) A
def dSs (P : Program) (nt : Nat) (k : List Item) (e : Env) : Option (Value × Option Value × Option Value × Option Nat) := match asSlice P nt k e with
 | some (some (.slice E), x, lo, hi, none) => some (x, lo, hi, (P.info? E).map (·.size))
 | _ => none
theorem dSs_ok {P : Program} {nt : Nat} {k : List Item} {e : Env} {x : Value} {lo hi : Option Value} {z : Option Nat} (h : dSs P nt k e = some (x, lo, hi, z)) : ∃ E, asSlice P nt k e = some (some (.slice E), x, lo, hi, none) ∧ (P.info? E).map (·.size) = z := by
 unfold dSs at h
 split at h
 ·next hh => simp only [Option.some.injEq, Prod.mk.injEq] at h; obtain ⟨rfl, rfl, rfl, rfl⟩ := h; exact ⟨_, hh, rfl⟩
 ·cases h
@[reducible] def VC.sL (b o len cap sz o' l' c' : Nat) (lo hi : Option Value) (x y : Int) (A : VC C) (ho : o' = (if x.toNat = cap then o else o + x.toNat * sz) := by simp) (hl : l' = y.toNat - x.toNat := by simp) (hc : c' = cap - x.toNat := by simp)
  (hlo : (∃ kd, lo = some (.int kd x)) ∨ (lo = none ∧ x = 0) := by first | exact .inl ⟨_, rfl⟩ | exact .inr ⟨rfl, rfl⟩) (hhi : (∃ kd, hi = some (.int kd y)) ∨ (hi = none ∧ y = len) := by first | exact .inl ⟨_, rfl⟩ | exact .inr ⟨rfl, rfl⟩) : VC C :=
 .oE (fun P nt k e _ => dSs P nt k e) (some (.slice (some ⟨b, o, none⟩) len cap, lo, hi, some sz)) (0 ≤ x ∧ x ≤ y ∧ y ≤ cap) (.slice (some ⟨b, o', none⟩) l' c') id
  (fun h hb hn => by
   obtain ⟨E, h1, h2⟩ := dSs_ok h
   refine AtE.sliceL (by rw [h1, h2]) hlo ?_ hb ho hl hc hn
   rcases hhi with h | ⟨h, h'⟩
   ·exact .inl h
   ·exact .inr ⟨h, h', by have := hb.2.2; omega⟩) A
@[reducible] def VC.sU (p : OA) (len cap sz : Nat) (lo hi : Option Value) (y : Int) (v : Nat) (A : VC C) (hv : v = y.toNat := by simp)
  (hlo : (∃ kd, lo = some (.int kd 0)) ∨ lo = none := by first | exact .inr rfl | exact .inl ⟨_, rfl⟩) (hhi : (∃ kd, hi = some (.int kd y)) ∨ (hi = none ∧ y = len) := by first | exact .inl ⟨_, rfl⟩ | exact .inr ⟨rfl, rfl⟩) : VC C :=
 .oE (fun P nt k e _ => dSs P nt k e) (some (.slice p len cap, lo, hi, some sz)) (0 ≤ y ∧ y ≤ cap) (.slice p v cap) id
  (fun h hb hn => by
   obtain ⟨E, h1, h2⟩ := dSs_ok h
   subst hv
   refine AtE.sliceU (by rw [h1, h2]) hlo ?_ hb hn
   rcases hhi with h | ⟨h, h'⟩
   ·exact .inl h
   ·exact .inr ⟨h, h', by have := hb.2; omega⟩) A
end
section
variable {C : Cx}
@[reducible] def VC.mk' (fr : Bool) (E : TypeId) (kl kc : IntKind) (n m : Int) (z : Value) (bytes : Nat) (A : Nat → VC C) : VC C where
 pr := (0 ≤ n ∧ n ≤ m ∧ (bytes : Int) * m ≤ 281474976710656 ∧ m ≤ 9223372036854775807) ∧ ∀ B, (A B).pr
 T := ((Option (Option TypeDesc × Value × Value) × Option (Option Value × Nat × Nat) × Array Value) × Bool) × ((B : Nat) → (A B).T)
 l s := (((asMake C.P s.nt s.k s.e, infoZ C.P E, z.cells), s.q.isNone), fun B => (A B).l (s.hp (.slice (SO B) n.toNat m.toNat) (match fr with | true => (B, .cells ⟨List.replicate m.toNat z⟩ E) :: s.L | false => s.L ++ [(B, .cells ⟨List.replicate m.toNat z⟩ E)])))
 N p := (((some (some (.slice E), .int kl n, .int kc m), some (some z, 1, bytes), #[z]), true), fun B => (A B).N (p.2 B))
 ok s h hp := by
  obtain ⟨d, k, e, L', q, r⟩ := s
  have h1 := congrArg (·.1.1) h
  have h3 := congrArg (·.1.2) h
  have h2 := congrArg (·.2) h
  cases q with
  | some q => exact absurd h3 (by simp)
  | none =>
   refine AtE.make (R := goal C r) h1 hp.1 fun B => ?_
   have := (A B).ok _ (congrFun h2 B) (hp.2 B)
   cases fr with
   | false => exact this
   | true => exact AtE.front this
@[reducible] def VC.tb (fr : Bool) (E : TypeId) (s0 : BA) (A : Nat → Nat → VC C) : VC C where
 pr := ∀ B r, (A B r).pr
 T := ((Option (Option TypeDesc × Option TypeDesc × Value) × Option TypeDesc) × Bool) × ((B : Nat) → (r : Nat) → (A B r).T)
 l s := (((asConv C.P s.nt s.k s.e, C.P.underlying E), s.q.isNone), fun B r => (A B r).l (s.hp (.slice (SO B) s0.size (s0.size + r))
  (match fr with | true => (B, .cells ⟨bytesL s0.data.toList ++ List.replicate r (.int .u8 0)⟩ E (s0.size + r, s0.size + r + 1)) :: s.L | false => s.L ++ [(B, .cells ⟨bytesL s0.data.toList ++ List.replicate r (.int .u8 0)⟩ E (s0.size + r, s0.size + r + 1))])))
 N p := (((some (some .string, some (.slice E), .string s0), some (.int .u8)), true), fun B r => (A B r).N (p.2 B r))
 ok s h hp := by
  obtain ⟨d, k, e, L', q, r⟩ := s
  have h1 := congrArg (·.1.1) h
  have h3 := congrArg (·.1.2) h
  have h2 := congrArg (·.2) h
  cases q with
  | some q => exact absurd h3 (by simp)
  | none =>
   refine AtE.toBytes (R := goal C r) h1 fun B x => ?_
   have := (A B x).ok _ (congrFun (congrFun h2 B) x) (hp B x)
   cases fr with
   | false => exact this
   | true => exact AtE.front this
@[reducible] def VC.tS (j b : Nat) (E : TypeId) (o len cap : Nat) (c : List Value) (l : List UInt8) (F : Prop) (hF : F → (c.drop o).take len = bytesL l ∧ l.length = len) (A : VC C) : VC C :=
 .oE (fun P nt k e L => (asConv P nt k e, P.underlying E, isCellsL L j, cellsL L j, blkL L j)) (some (some (.slice E), some .string, .slice (some ⟨b, o, none⟩) len cap), some (.int .u8), true, c, b) F (.string ⟨l.toArray⟩) id
  (fun h hF' hn => by
   simp only [Prod.mk.injEq] at h
   obtain ⟨h1, h2, h3, h4, rfl⟩ := h
   exact AtE.toString j (by rw [h1, h2, h3, h4]) (hF hF') hn) A
abbrev VC.tG (j b : Nat) (E : TypeId) (o len cap : Nat) (c : List Value) (l : List UInt8) (A : VC C) : VC C := .tS j b E o len cap c l ((c.drop o).take len = bytesL l ∧ l.length = len) id A
@[reducible] def VC.ap (j b : Nat) (E t : TypeId) (sz : Nat) (T U : TypeId) (s0 : Value) (m c0 : Nat) (news : List Value) (L1 : SHeap) (K : KT C) : VC C where
 pr := AppN C.P sz T U s0 m news L1 C.S C.w0 K.pr
 T := ((Option (Builtin × List Value × List TypeId) × SHeap × Bool) × (Option (Nat × Obj) × Option TypeDesc × Bool × Bool)) × K.T
 l s := (((asBuiltin s.nt s.k s.e, s.L, s.q.isNone), (s.L[j]?, C.P.underlying U, Nat.beq news.length (m * sz), allOne news)), K.l fun v L' => s.hp v L')
 N p := (((some (.append, [s0, .slice (some ⟨b, 0, none⟩) m c0], [T, U]), L1, true), (some (b, .cells ⟨news⟩ t (0, 0)), some (.slice E), true, true)), K.N p.2)
 ok s h hp := by
  obtain ⟨d, k, e, L', q, r⟩ := s
  have h1 := congrArg (·.1.1.1) h
  have h3 := congrArg (·.1.1.2.2) h
  have h4 := congrArg (·.1.1.2.1) h
  have h5 := congrArg (·.1.2.1) h
  have h6 := congrArg (·.1.2.2.1) h
  have h7 := congrArg (·.1.2.2.2.1) h
  have h8 := congrArg (·.1.2.2.2.2) h
  have h2 := congrArg (·.2) h
  cases q with
  | some q => exact absurd h3 (by simp)
  | none =>
   subst h4
   exact AtE.appendT (R := goal C r) m news h1 (srcRow (List.mem_of_getElem? h5) h6 (Nat.eq_of_beq_eq_true h7) (allOne_spec h8)) hp fun v L2 hk => K.ok _ h2 v L2 hk
@[reducible] def VC.aq (sz : Nat) (T U : TypeId) (s0 x : Value) (m : Nat) (news : List Value) (L1 : SHeap) (K : KT C) : VC C where
 pr := (∀ W, Mem L1 C.S C.w0 W → Go.Src C.P sz U x m news W) ∧ AppN C.P sz T U s0 m news L1 C.S C.w0 K.pr
 T := (Option (Builtin × List Value × List TypeId) × SHeap × Bool) × K.T
 l s := ((asBuiltin s.nt s.k s.e, s.L, s.q.isNone), K.l fun v L' => s.hp v L')
 N p := ((some (.append, [s0, x], [T, U]), L1, true), K.N p.2)
 ok s h hp := by
  obtain ⟨d, k, e, L', q, r⟩ := s
  have h1 := congrArg (·.1.1) h
  have h3 := congrArg (·.1.2.2) h
  have h4 := congrArg (·.1.2.1) h
  have h2 := congrArg (·.2) h
  cases q with
  | some q => exact absurd h3 (by simp)
  | none =>
   subst h4
   exact AtE.appendT (R := goal C r) m news h1 hp.1 hp.2 fun v L2 hk => K.ok _ h2 v L2 hk
abbrev VC.lgs (b off : Nat) (T : TypeId) (c : List Value) (v : Value) (A : VC C) : VC C where
 pr := b ∉ C.S ∧ blkW C.w0 b = some c ∧ c[off]? = some v ∧ A.pr
 T := (Option (TypeId × Value) × Option Bool) × A.T
 l s := ((asLoad s.nt s.k s.e, (C.P.underlying T).map aggD), A.l (s.nx v))
 N p := ((some (T, .pointer (some ⟨b, off, none⟩)), some false), A.N p.2)
 ok s h hp := J.load (congrArg (·.1.1) h) (fun W hm => held_W hp.1 hp.2.1 hm) (valAt_one hp.2.2.1 (congrArg (·.1.2) h)) (A.ok _ (congrArg (·.2) h) hp.2.2.2)
end
section
variable {C : Cx}
abbrev VC.r (n : Nat) (A : VC C) : VC C := .ru [n] A
abbrev VC.hp (L : SHeap) (f : SHeap → VC C) : VC C := f L
abbrev VC.P (n i : Nat) (p : Prop) [Decidable p] (A B : VC C) : VC C := .ru [n] (.zP i p A B)
abbrev VC.I (n i : Nat) (p : Prop) [Decidable p] (A B : VC C) : VC C := .ru [n] (.zI i p A B)
abbrev VC.B (n i : Nat) (b : Bool) (A B : VC C) : VC C := .ru [n] (.zB i b A B)
abbrev VC.sE (n i : Nat) (x y : BA) (A B : VC C) : VC C := .ru [n] (.zsE i x y A B)
abbrev VC.sN (n i : Nat) (x y : BA) (A B : VC C) : VC C := .ru [n] (.zsN i x y A B)
abbrev VC.re (n : Nat) (v : Value) (L : SHeap) : VC C := .ru [n] (.zre v L)
abbrev VC.rk (n : Nat) (A : VC C) : VC C := .ru [n] (.zrk A)
abbrev VC.cl (n : Nat) (g : FuncId) (args : List Value) (L : SHeap) (K : KT C) : VC C := .ru [n] (.zcl g args L K)
abbrev VC.np (n : Nat) (o : Obj) (f : Nat → VC C) : VC C := .ru [n] (.znp o f)
abbrev VC.nf (n : Nat) (o : Obj) (f : Nat → VC C) : VC C := .ru [n] (.znf o f)
abbrev VC.li (n i : Nat) (x : Int) (f : Int → VC C) : VC C := .ru [n] (.zli i x f)
abbrev VC.ls (n i : Nat) (x : BA) (f : BA → VC C) : VC C := .ru [n] (.zls i x f)
abbrev VC.ct (n : Nat) (is : List Nat) (c : Cut) : VC C := .ru [n] (.zct is c)
abbrev VC.cT (n : Nat) (is : List Nat) (m : Nat) (c : Cut) : VC C := .ru [n] (.zcT is m c)
abbrev VC.il (n : Nat) {g : FuncId} {fn : Func} (hf : C.P.funcs[g]? = some fn) (args : List Value) (A : VC C) : VC C := .ru [n] (.zil hf args A)
abbrev VC.c1 {α : Type} (n : Nat) (g : FuncId) (args : List Value) (L : SHeap) (v : α → Value) (A : α → VC C) : VC C := .ru [n] (.zcl g args L (.ex fun x => .rt (v x) L (A x)))
end
section
variable {C : Cx}
structure SD (P : Program) where
 d : FnD P
 ops : Array Oper
 n : Nat
 kk : List Item
 e : Env
 L : SHeap
 fr : List (Fr P)
structure SM (P : Program) where
 d : FnD P
 ops : Array Oper
 n : Nat
 kk : List Item
 L0 : SHeap
 k : List Item
 e : Env
 L : SHeap
 fr : List (Fr P)
structure SF (P : Program) where
 m : SM P
 M : List Nat
structure VD (C : Cx) : Type 1 where
 pr : Prop
 T : Type
 l : SD C.P → T
 N : T → T
 ok : ∀ s, l s = N (l s) → pr → AtD C.P s.d.f s.d.fn.ntmps s.ops s.n s.kk s.e s.L C.S C.w0 (goal C s.fr)
def JMd (C : Cx) (s : SM C.P) : Prop := AtM C.P s.d.f s.d.fn.ntmps s.ops s.n s.kk s.L0 s.k s.e s.L C.S C.w0 (goal C s.fr)
structure VM (C : Cx) : Type 1 where
 pr : Prop
 T : Type
 l : SM C.P → T
 N : T → T
 ok : ∀ s, l s = N (l s) → pr → JMd C s
def JFd (C : Cx) (s : SF C.P) : Prop := AtF C.P s.m.d.fn.ntmps s.m.k s.m.e s.m.L0 C.S C.w0 fun eF => JMd C { s.m with k := [.inRegion s.m.ops s.M], e := eF }
structure VF (C : Cx) : Type 1 where
 pr : Prop
 T : Type
 l : SF C.P → T
 N : T → T
 ok : ∀ s, l s = N (l s) → pr → JFd C s
structure KM (C : Cx) : Type 1 where
 pr : Value → SHeap → Prop
 T : Type
 l : (Value → SHeap → SM C.P) → T
 N : T → T
 ok : ∀ b, l b = N (l b) → ∀ v L', pr v L' → JMd C (b v L')
abbrev SF.to {P : Program} (s : SF P) (k : List Item) (e : Env) : SF P := { s with m := { s.m with k := k, e := e } }
abbrev SM.nx {P : Program} (s : SM P) (v : Value) (L : SHeap) : SM P := { s with k := nextK s.k, e := putE s.e (curDst s.d.fn.ntmps s.k s.e) v, L := L }
abbrev SM.pre {P : Program} (s : SM P) : SHeap × SHeap := (s.L.take s.L0.length, s.L0)
theorem SM.pre_ok {P : Program} {s : SM P} {y : SHeap} (h : s.pre = (y, y)) : s.L = s.L0 ++ s.L.drop s.L0.length := by
 simp only [SM.pre, Prod.mk.injEq] at h
 conv => lhs; rw [← List.take_append_drop s.L0.length s.L, h.1, ← h.2]
@[reducible] def VC.dD (A : VD C) : VC C where
 pr := A.pr
 T := (Bool × Bool × Bool) × A.T
 l s := ((isDraw s.k, C.P.follows .mixedOrders, s.q.isNone), A.l ⟨s.d, regOps s.k, 0, restK s.k, s.e, s.L, s.fr⟩)
 N p := ((true, true, true), A.N p.2)
 ok s h hp := by
  obtain ⟨d, k, e, L, q, fr⟩ := s
  simp only [Prod.mk.injEq] at h
  cases q with
  | some q => exact absurd h.1.2.2 (by simp)
  | none => exact AtE.drawD (by rw [h.1.1, h.1.2.1]) (A.ok ⟨d, _, 0, _, e, L, fr⟩ h.2 hp)
@[reducible] def VD.tl (A : VC C) : VD C where
 pr := A.pr
 T := Bool × A.T
 l s := (Region.seqB .any s.ops (s.ops.size - s.n) s.n (firstN s.n s.ops.size), A.l ⟨s.d, tailK s.ops s.n s.kk, s.e, s.L, none, s.fr⟩)
 N p := (true, A.N p.2)
 ok s h hp := by
  simp only [Prod.mk.injEq] at h
  exact AtD.tail h.1 (A.ok ⟨s.d, _, s.e, s.L, none, s.fr⟩ h.2 hp)
@[reducible] def VD.ph (n : Nat) (F M : List Nat) (r : Nat) (A : VF C) : VD C where
 pr := A.pr
 T := Bool × A.T
 l s := (planB s.ops s.n n s.e F M, A.l ⟨⟨s.d, s.ops, n, s.kk, s.L.take r, [.inRegion s.ops F], s.e, s.L, s.fr⟩, M⟩)
 N p := (true, A.N p.2)
 ok s h hp := by
  simp only [Prod.mk.injEq] at h
  exact AtD.phase n F M (s.L.take r) h.1 (List.take_append_drop r s.L).symm (A.ok ⟨⟨s.d, s.ops, n, s.kk, s.L.take r, _, s.e, s.L, s.fr⟩, M⟩ h.2 hp)
theorem qsF_ok {α : Type} {P : Program} {nt j : Nat} {k : List Item} {e : Env} {L : SHeap} {S : List Nat} {w0 : World} {G : Env → Prop} {K : List Item → Env → α} {v y : Value} {t : α}
  (h : qs P nt j k e L K = ((fun W => (true, W, v)), (true, v, (y, y)), t)) (hn : ∀ k e, K k e = t → AtF P nt k e L S w0 G) : AtF P nt k e L S w0 G := by
 unfold qs at h
 split at h
 ·split at h
  ·next d hd =>
   simp only [Prod.mk.injEq] at h
   have a2 : skipD nt k e = d := by simp [skipD, hd]
   exact AtF.skip (by rw [a2, hd]) (hn _ _ (by rw [a2]; exact h.2.2))
  ·simp only [Prod.mk.injEq] at h
   obtain ⟨O, ⟨V, Z, _⟩, a0⟩ := h
   obtain ⟨o, a5⟩ := Option.isSome_iff_exists.1 V
   have a4 : cur nt k e = some (curO nt k e) := by simp [curO, a5]
   refine AtF.pure a4 (fun W => ?_) (hn _ _ a0)
   have M := congrFun O W
   split at M
   ·next v' W' hr => simp only [Prod.mk.injEq, true_and] at M; rw [hr, M.1, M.2, Z]
   ·simp at M
 ·split at h
  ·next j _ T p ha =>
   simp only [Prod.mk.injEq, Bool.and_eq_true] at h
   obtain ⟨_, ⟨⟨O, V⟩, _, Z, a0⟩, a1⟩ := h
   obtain ⟨u, a3⟩ := Option.isSome_iff_exists.1 V
   have hp : p = .pointer (some ⟨blkL L j, offOf p, none⟩) := Z.trans a0.symm
   rw [a3] at a1
   exact AtF.load j (offOf p) (v := u) (T := T) (by rw [ha, O, a3, ← hp]) (hn _ _ a1)
  ·simp at h
theorem lQF_ok {T : Type} {P : Program} {nt : Nat} {S : List Nat} {w0 : World} {G : Env → Prop} {L : SHeap} {K : List Item → Env → T} {N : T → T} (V : ∀ k e, K k e = N (K k e) → AtF P nt k e L S w0 G) :
  ∀ (M : List Nat) (k : List Item) (e : Env), lQ P nt L K M k e = NQ N M (lQ P nt L K M k e) → AtF P nt k e L S w0 G
 | [], k, e, h => V k e h
 | n :: r, k, e, h => by
  simp only [NQ, lQ] at h
  revert h
  generalize hg : qs P nt n k e L (lQ P nt L K r) = g
  obtain ⟨g1, ⟨b, v, ⟨x, y⟩⟩, O⟩ := g
  intro h
  have a1 : g1 = (fun W => (true, W, v)) := congrArg (·.1) h
  have Z : (b, v, (x, y)) = (true, v, (y, y)) := congrArg (·.2.1) h
  have a0 : O = NQ N r O := congrArg (·.2.2) h
  clear h
  simp only [Prod.mk.injEq] at Z
  obtain ⟨rfl, _, rfl, _⟩ := Z
  subst a1
  exact qsF_ok hg fun k' e' a2 => lQF_ok V r k' e' (by rw [a2]; exact a0)
@[reducible] def VF.qu (hs : List Nat) (A : VF C) : VF C where
 pr := A.pr
 T := TQ (qx hs) A.T
 l s := lQ C.P s.m.d.fn.ntmps s.m.L0 (fun k e => A.l (s.to k e)) (qx hs) s.m.k s.m.e
 N p := NQ A.N (qx hs) p
 ok s h hp := lQF_ok (P := C.P) (S := C.S) (w0 := C.w0) (nt := s.m.d.fn.ntmps) (L := s.m.L0) (G := fun eF => JMd C { s.m with k := [.inRegion s.m.ops s.M], e := eF }) (N := A.N) (fun k e hh => A.ok (s.to k e) hh hp) (qx hs) s.m.k s.m.e h
@[reducible] def VF.ex {α : Type} (f : α → VF C) : VF C where
 pr := ∃ x, (f x).pr
 T := (x : α) → (f x).T
 l s := fun x => (f x).l s
 N g := fun x => (f x).N (g x)
 ok s h hp := hp.elim fun x hx => (f x).ok s (congrFun h x) hx
abbrev VF.hp (L : SHeap) (f : SHeap → VF C) : VF C := f L
@[reducible] def VF.qc (g : FuncId) (args : List Value) (L1 : SHeap) (v : Value) (A : VF C) : VF C where
 pr := QCallB C.P g ⟨args⟩ L1 C.S C.w0 v ∧ A.pr
 T := (World → Result Next) × Bool × SHeap × A.T
 l s := ((fun W => (execOp (rho s.m.e) (curO s.m.d.fn.ntmps s.m.k s.m.e)).run C.P W), (cur s.m.d.fn.ntmps s.m.k s.m.e).isSome, s.m.L0, A.l (s.to (nextK s.m.k) (putE s.m.e (curDst s.m.d.fn.ntmps s.m.k s.m.e) v)))
 N p := ((fun W => .ok (.enter g ⟨args⟩) W), true, L1, A.N p.2.2.2)
 ok s h hp := by
  simp only [Prod.mk.injEq] at h
  obtain ⟨h1, h2, h3, h6⟩ := h
  obtain ⟨o, ho⟩ := Option.isSome_iff_exists.1 h2
  subst h3
  exact AtF.call g ⟨args⟩ (fun W => congrFun h1 W) (by simp [curO, ho]) hp.1 (A.ok (s.to _ _) h6 hp.2)
@[reducible] def VF.b2 (i : Nat) (p q : Prop) (v : Bool) (h1 : v = true → p) (h0 : v = false → q) (A B : VF C) : VF C where
 pr := (p → A.pr) ∧ (q → B.pr)
 T := Option Value × A.T × B.T
 l s := (get? s.m.e i, A.l (s.to s.m.k ((i, .bool true) :: s.m.e)), B.l (s.to s.m.k ((i, .bool false) :: s.m.e)))
 N g := (some (.bool v), A.N g.2.1, B.N g.2.2)
 ok s h hp := AtF.split i (congrArg (·.1) h) (fun hb => A.ok (s.to s.m.k ((i, .bool true) :: s.m.e)) (congrArg (·.2.1) h) (hp.1 (h1 hb))) fun hb => B.ok (s.to s.m.k ((i, .bool false) :: s.m.e)) (congrArg (·.2.2) h) (hp.2 (h0 hb))
abbrev VF.zB (i : Nat) (b : Bool) (A B : VF C) : VF C := .b2 i (b = true) (b = false) b id id A B
@[reducible] def VF.o1 {δ : Type} (dat : Program → Nat → List Item → Env → δ) (d0 : δ) (F : Prop) (v : Value)
  (hF : ∀ {nt k e L} {G : Env → Prop}, dat C.P nt k e = d0 → F → AtF C.P nt (nextK k) (putE e (curDst nt k e) v) L C.S C.w0 G → AtF C.P nt k e L C.S C.w0 G) (A : VF C) : VF C where
 pr := F ∧ A.pr
 T := δ × A.T
 l s := (dat C.P s.m.d.fn.ntmps s.m.k s.m.e, A.l (s.to (nextK s.m.k) (putE s.m.e (curDst s.m.d.fn.ntmps s.m.k s.m.e) v)))
 N g := (d0, A.N g.2)
 ok s h hp := hF (congrArg (·.1) h) hp.1 (A.ok (s.to _ _) (congrArg (·.2) h) hp.2)
@[reducible] def VF.ss (s : BA) (a b : Int) (A : VF C) : VF C := .o1 dSl (some (s, some a, some b)) (0 ≤ a ∧ a ≤ b ∧ b ≤ s.size) (.string (s.extract a.toNat b.toNat))
 (fun h hb hn => by obtain ⟨lo, hi, h1, h2, h3⟩ := dSl_ok h; exact AtF.sliceS h1 h2 h3 hb hn) A
@[reducible] def VF.dn (A : VM C) : VF C where
 pr := A.pr
 T := Bool × A.T
 l s := (doneK s.m.k, A.l { s.m with k := [.inRegion s.m.ops s.M] })
 N p := (true, A.N p.2)
 ok s h hp := AtF.done (congrArg (·.1) h) (A.ok { s.m with k := [.inRegion s.m.ops s.M] } (congrArg (·.2) h) hp)
def ms {α : Type} (P : Program) (nt h : Nat) (k : List Item) (e : Env) (L : SHeap) (K : List Item → Env → SHeap → α) : (World → Bool × World × Value) × (Bool × Value × (Value × Value)) × α :=
 match h with
 | 0 => match skipO nt k e with
  | some d => ((fun W => (true, W, undef)), (true, undef, (undef, undef)), K (nextK k) (putE e d undef) L)
  | none => ((fun W => match (execOp (rho e) (curO nt k e)).run P W with | .ok (.value v) W' => (true, W', v) | _ => (false, W, undef)),
    ((cur nt k e).isSome, vQ P nt k e, (undef, undef)), K (nextK k) (putE e (curDst nt k e) (vQ P nt k e)) L)
 | j + 1 => match asStore nt k e with
  | some (T, p, v) => ((fun W => (true, W, undef)), ((isCellsL L j && (Nat.beq (fzL L j).1 0 && (Nat.beq (fzL L j).2 0 && putOk P T (cellsL L j) (offOf p) v))), undef, (p, ptrAt (blkL L j) (offOf p))),
    K (nextK k) (putE e (curDst nt k e) undef) (setL L j (putD P T (cellsL L j) (offOf p) v)))
  | none => ((fun W => (true, W, undef)), (false, undef, (undef, undef)), K k e L)
@[reducible] def VM.st (h : Nat) (A : VM C) : VM C where
 pr := A.pr
 T := (SHeap × SHeap) × (World → Bool × World × Value) × (Bool × Value × (Value × Value)) × A.T
 l s := (s.pre, ms C.P s.d.fn.ntmps h s.k s.e s.L fun k e L => A.l { s with k := k, e := e, L := L })
 N p := ((p.1.2, p.1.2), (fun W => (true, W, p.2.2.1.2.1)), (true, p.2.2.1.2.1, (p.2.2.1.2.2.2, p.2.2.1.2.2.2)), A.N p.2.2.2)
 ok s h0 hp := by
  have hl := SM.pre_ok (congrArg (·.1) h0)
  have h := congrArg (·.2) h0
  clear h0
  show AtM _ _ _ _ _ _ _ _ _ _ _ _ _
  dsimp only at h
  unfold ms at h
  split at h
  ·split at h
   ·next d hd =>
    have hs : skipD s.d.fn.ntmps s.k s.e = d := by simp [skipD, hd]
    exact AtM.skip _ (by rw [hs, hd]) hl (by rw [hs]; exact A.ok { s with k := nextK s.k, e := putE s.e d undef, L := s.L } (congrArg (·.2.2) h) hp)
   ·have h1 := congrArg (·.1) h
    have h2 := congrArg (·.2.1.1) h
    have h4 := congrArg (·.2.2) h
    obtain ⟨o, ho⟩ := Option.isSome_iff_exists.1 h2
    have hc : cur s.d.fn.ntmps s.k s.e = some (curO s.d.fn.ntmps s.k s.e) := by simp [curO, ho]
    refine AtM.pure _ hl hc (fun W => ?_) (A.ok { s with k := nextK s.k, e := putE s.e _ _, L := s.L } h4 hp)
    have hW := congrFun h1 W
    dsimp only at hW
    split at hW
    ·next v' W' hr => simp only [Prod.mk.injEq, true_and] at hW; rw [hr, hW.1, hW.2]
    ·simp at hW
  ·split at h
   ·next j _ T p v ha =>
    have h2 := congrArg (·.2.1.1) h
    have h3 := congrArg (·.2.1.2.2.1) h
    have h4 := congrArg (·.2.2) h
    simp only [Bool.and_eq_true] at h2
    obtain ⟨h5, ha0, hb0, h6⟩ := h2
    have hp' : p = .pointer (some ⟨blkL s.L j, offOf p, none⟩) := h3
    have hz : fzL s.L j = (0, 0) := Prod.ext (Nat.eq_of_beq_eq_true ha0) (Nat.eq_of_beq_eq_true hb0)
    exact AtM.store _ j (offOf p) (v := v) (T := T) hl (by rw [ha, h5, hz, h6, ← hp']) (A.ok { s with k := nextK s.k, e := putE s.e _ undef, L := setL s.L j _ } h4 hp)
   ·exact absurd (congrArg (·.2.1.1) h) (by simp)
@[reducible] def VM.np (mk : Nat → Value) (o : Obj) (f : Nat → VM C) : VM C where
 pr := ∀ B, (f B).pr
 T := (SHeap × SHeap) × (World → Result Next) × Bool × ((B : Nat) → (f B).T)
 l s := (s.pre, (fun W => (execOp (rho s.e) (curO s.d.fn.ntmps s.k s.e)).run C.P W), (cur s.d.fn.ntmps s.k s.e).isSome, fun B => (f B).l (s.nx (mk B) (s.L ++ [(B, o)])))
 N p := ((p.1.2, p.1.2), (fun W => .ok (.value (mk W.heap.size)) { W with heap := W.heap.push o }), true, fun B => (f B).N (p.2.2.2 B))
 ok s h hp := by
  have hl := SM.pre_ok (congrArg (·.1) h)
  have h1 := congrArg (·.2.1) h
  have h2 := congrArg (·.2.2.1) h
  have h3 := congrArg (·.2.2.2) h
  obtain ⟨o', ho⟩ := Option.isSome_iff_exists.1 h2
  exact AtM.new _ mk o hl (fun W => congrFun h1 W) (by simp [curO, ho]) fun B => (f B).ok (s.nx (mk B) (s.L ++ [(B, o)])) (congrFun h3 B) (hp B)
abbrev VM.n1 (o : Obj) (f : Nat → VM C) : VM C := .np (fun B => PP B) o f
abbrev VM.n2 (n : Nat) (o : Obj) (f : Nat → VM C) : VM C := .np (fun B => .slice (SO B) n n) o f
@[reducible] def KM.ex {α : Type} (f : α → KM C) : KM C where
 pr v L := ∃ x, (f x).pr v L
 T := (x : α) → (f x).T
 l b := fun x => (f x).l b
 N g := fun x => (f x).N (g x)
 ok b h v L' hp := hp.elim fun x hx => (f x).ok b (congrFun h x) v L' hx
abbrev KM.x2 {α β : Type} (f : α → β → KM C) : KM C := .ex fun a => .ex (f a)
abbrev KM.x3 {α β γ : Type} (f : α → β → γ → KM C) : KM C := .ex fun a => .x2 (f a)
abbrev KM.x4 {α β γ δ : Type} (f : α → β → γ → δ → KM C) : KM C := .ex fun a => .x3 (f a)
@[reducible] def KM.rt (v0 : Value) (L0 : SHeap) (A : VM C) : KM C where
 pr v L := v = v0 ∧ L = L0 ∧ A.pr
 T := A.T
 l b := A.l (b v0 L0)
 N := A.N
 ok b h v L' hp := by obtain ⟨rfl, rfl, hp⟩ := hp; exact A.ok _ h hp
@[reducible] def VM.cl (g : FuncId) (args : List Value) (L1 : SHeap) (K : KM C) : VM C where
 pr := CallH C.P g ⟨args⟩ L1 C.S C.w0 K.pr
 T := (SHeap × SHeap) × (World → Result Next) × Bool × SHeap × K.T
 l s := (s.pre, (fun W => (execOp (rho s.e) (curO s.d.fn.ntmps s.k s.e)).run C.P W), (cur s.d.fn.ntmps s.k s.e).isSome, s.L, K.l fun v L' => s.nx v L')
 N p := ((p.1.2, p.1.2), (fun W => .ok (.enter g ⟨args⟩) W), true, L1, K.N p.2.2.2.2)
 ok s h hp := by
  have hl := SM.pre_ok (congrArg (·.1) h)
  have h1 := congrArg (·.2.1) h
  have h2 := congrArg (·.2.2.1) h
  have h3 := congrArg (·.2.2.2.1) h
  have h4 := congrArg (·.2.2.2.2) h
  obtain ⟨o', ho⟩ := Option.isSome_iff_exists.1 h2
  exact AtM.call _ g ⟨args⟩ hl (fun W => congrFun h1 W) (by rw [show s.L = L1 from h3]; simp [curO, ho]) hp fun v L2 hk => K.ok (fun v L' => s.nx v L') h4 v L2 hk
abbrev VM.hp (L : SHeap) (f : SHeap → VM C) : VM C := f L
@[reducible] def VM.dn (A : VD C) : VM C where
 pr := A.pr
 T := (SHeap × SHeap) × (List Item × List Item) × A.T
 l s := (s.pre, (s.k, [.inRegion s.ops []]), A.l ⟨s.d, s.ops, s.n, s.kk, s.e, s.L, s.fr⟩)
 N p := ((p.1.2, p.1.2), (p.2.1.2, p.2.1.2), A.N p.2.2)
 ok s h hp := AtM.done _ (congrArg (·.2.1.1) h) (SM.pre_ok (congrArg (·.1) h)) (A.ok ⟨s.d, s.ops, s.n, s.kk, s.e, s.L, s.fr⟩ (congrArg (·.2.2) h) hp)
@[reducible] def VM.df (B : Nat) (o : Obj) (L1 : SHeap) (A : VD C) : VM C where
 pr := A.pr
 T := (SHeap × SHeap) × (List Item × List Item) × SHeap × A.T
 l s := (s.pre, (s.k, [.inRegion s.ops []]), s.L, A.l ⟨s.d, s.ops, s.n, s.kk, s.e, (B, o) :: L1, s.fr⟩)
 N p := ((p.1.2, p.1.2), (p.2.1.2, p.2.1.2), L1 ++ [(B, o)], A.N p.2.2.2)
 ok s h hp := by
  have h3 := congrArg (·.2.2.1) h
  refine AtM.done _ (congrArg (·.2.1.1) h) (SM.pre_ok (congrArg (·.1) h)) ?_
  have := A.ok ⟨s.d, s.ops, s.n, s.kk, s.e, (B, o) :: L1, s.fr⟩ (congrArg (·.2.2.2) h) hp
  rw [show s.L = L1 ++ [(B, o)] from h3]
  exact AtD.front this
theorem restrict_J {s : St C.P} {a0 : List Nat} {e' : Env} (h : restrict s.e a0 = some e') (hn : J C { s with e := e' }) : J C s := by
 obtain ⟨d, k, e, L, q, fr⟩ := s
 cases q with
 | none => exact fun t W M hm => hn t W ⟨M.size, fun i v O => M.slot i v (restrict_get h i v O)⟩ hm
 | some q => exact fun j V Z t M => hn j V Z t ⟨M.size, fun i v O => M.slot i v (restrict_get h i v O)⟩
@[reducible] def VC.nm (is : List Nat) (A : VC C) : VC C where
 pr := A.pr
 T := Bool × A.T
 l s := match restrict s.e is with
  | some e' => (true, A.l { s with e := e' })
  | none => (false, A.l s)
 N p := (true, A.N p.2)
 ok s h hp := by
  cases hr : restrict s.e is with
  | none => rw [hr] at h; exact absurd (congrArg (·.1) h) (by simp)
  | some e' => rw [hr] at h; exact restrict_J hr (A.ok { s with e := e' } (congrArg (·.2) h) hp)
@[reducible] def VD.nm (is : List Nat) (A : VD C) : VD C where
 pr := A.pr
 T := Bool × A.T
 l s := match restrict s.e is with
  | some e' => (true, A.l { s with e := e' })
  | none => (false, A.l s)
 N p := (true, A.N p.2)
 ok s h hp := by
  cases hr : restrict s.e is with
  | none => rw [hr] at h; exact absurd (congrArg (·.1) h) (by simp)
  | some e' =>
   rw [hr] at h
   have := A.ok { s with e := e' } (congrArg (·.2) h) hp
   exact fun τ t W hk hm => this τ t W ⟨hk.size, fun i v hv => hk.slot i v (restrict_get hr i v hv)⟩ hm
@[reducible] def VC.pm (is : List Nat) (A : VC C) : VC C where
 pr := A.pr
 T := Bool × A.T
 l s := ((nodupB is && s.q.isNone), A.l { s with L := selL s.L is })
 N p := (true, A.N p.2)
 ok s h hp := by
  obtain ⟨d, k, e, L, q, fr⟩ := s
  have h1 := congrArg (·.1) h
  simp only [Bool.and_eq_true] at h1
  cases q with
  | some q => exact absurd h1.2 (by simp)
  | none =>
   have := A.ok ⟨d, k, e, selL L is, none, fr⟩ (congrArg (·.2) h) hp
   exact fun t W hk hm => this t W hk (hm.sel (nodupB_spec h1.1))
end
section
variable {C : Cx}
def dAp (P : Program) (nt : Nat) (k : List Item) (e : Env) (T E : TypeId) : Option (Builtin × List Value × List TypeId) × Option TypeDesc × Option (Option Nat × Nat × Nat) :=
 (asBuiltin nt k e, P.underlying T, (infoZ P E).map fun x => (x.1.map (·.cells.size), x.2))
theorem dAp_ok {P : Program} {nt : Nat} {k : List Item} {e : Env} {T E sz bytes : Nat} {O : Option (Builtin × List Value × List TypeId)} (h : dAp P nt k e T E = (O, some (.slice E), some (some sz, sz, bytes))) :
  ∃ z, asBuiltin nt k e = O ∧ P.underlying T = some (.slice E) ∧ infoZ P E = some (some z, sz, bytes) ∧ z.cells.size = sz := by
 simp only [dAp, Prod.mk.injEq] at h
 obtain ⟨V, Z, M⟩ := h
 cases hi : infoZ P E with
 | none => rw [hi] at M; cases M
 | some x =>
  rw [hi] at M
  obtain ⟨z, a, b⟩ := x
  simp only [Option.map_some, Option.some.injEq, Prod.mk.injEq] at M
  obtain ⟨M, rfl, rfl⟩ := M
  cases z with
  | none => cases M
  | some z => exact ⟨z, V, Z, rfl, Option.some.inj M⟩
def addB (fr : Bool) (b : Nat × Obj) (L : SHeap) : SHeap := match fr with | true => b :: L | false => L ++ [b]
theorem addB_ok {P : Program} {f nt : Nat} {k : List Item} {e : Env} {L : SHeap} {S : List Nat} {w0 : World} {R : Goal P} {fr : Bool} {b : Nat × Obj} (h : AtE P f nt k e (addB fr b L) S w0 R) : AtE P f nt k e (L ++ [b]) S w0 R := by
 cases fr with
 | false => exact h
 | true => exact AtE.front h
@[reducible] def VC.aN (fr : Bool) (j b o m c : Nat) (T E sz bytes : Nat) (news : List Value) (A : Nat → Nat → List Value → VC C) : VC C where
 pr := ∀ B cap r, m ≤ cap → (news ++ r).length = cap * sz → (A B cap r).pr
 T := ((Option (Builtin × List Value × List TypeId) × Option TypeDesc × Option (Option Nat × Nat × Nat)) × (Bool × Nat × List Value) × Bool × Bool) × ((B : Nat) → (cap : Nat) → (r : List Value) → (A B cap r).T)
 l s := ((dAp C.P s.nt s.k s.e T E, (isCellsL s.L j, blkL s.L j, ((cellsL s.L j).drop o).take (m * sz)), (Nat.beq news.length (m * sz) && (Nat.ble 1 m && (Nat.ble m 9223372036854775807 && Nat.ble (m * bytes) 140737488355328))), s.q.isNone),
  fun B cap r => (A B cap r).l (s.hp (.slice (SO B) m cap) (addB fr (B, .cells ⟨news ++ r⟩ E) s.L)))
 N p := (((some (.append, [.slice none 0 0, .slice (some ⟨b, o, none⟩) m c], [T, T]), some (.slice E), some (some sz, sz, bytes)), (true, b, news), true, true), fun B cap r => (A B cap r).N (p.2 B cap r))
 ok s h hp := by
  obtain ⟨d, k, e, L, q, r0⟩ := s
  cases q with
  | some q => exact absurd (congrArg (fun x => x.1.2.2.2) h) (by simp)
  | none =>
   have h7 := congrArg Prod.snd h
   have h := congrArg Prod.fst h
   obtain ⟨h1, h⟩ := Prod.mk.inj h
   obtain ⟨h2, h⟩ := Prod.mk.inj h
   obtain ⟨h2, h3⟩ := Prod.mk.inj h2
   obtain ⟨h3, h4⟩ := Prod.mk.inj h3
   obtain ⟨h5, -⟩ := Prod.mk.inj h
   obtain ⟨z, g1, g2, g3, g4⟩ := dAp_ok h1
   simp only [Bool.and_eq_true] at h5
   obtain ⟨k1, k2, k3, k4⟩ := h5
   have hs := Src.own (L := L) (S := C.S) (w0 := C.w0) (j := j) (o := o) (n := m * sz) (c := cellsL L j) (by rw [h2])
   rw [h3, h4] at hs
   exact AtE.appendN (R := goal C r0) news (by rw [g1, g2, g3, g4]) hs (Nat.eq_of_beq_eq_true k1) (Nat.le_of_ble_eq_true k2) ⟨Nat.le_of_ble_eq_true k3, Nat.le_of_ble_eq_true k4⟩
    fun B cap r x1 x2 => addB_ok ((A B cap r).ok ⟨d, _, _, _, none, r0⟩ (congrFun (congrFun (congrFun h7 B) cap) r) (hp B cap r x1 x2))
def dRw (L : SHeap) (j : Nat) : Bool × Nat × List Value × TypeId × Nat × Nat := (isCellsL L j, blkL L j, cellsL L j, elemL L j, fzL L j)
@[reducible] def VC.aO (fr : Bool) (j b1 n cp : Nat) (cs : List Value) (j2 b o m c : Nat) (T E sz bytes : Nat) (news : List Value) (A : Nat → Nat → List Value → VC C) : VC C where
 pr := (n ≤ cp ∧ cs.length = cp * sz) ∧ (n + m ≤ 9223372036854775807 ∧ (n + m) * bytes ≤ 140737488355328) ∧ ∀ B cap r, n + m ≤ cap → (cs.take (n * sz) ++ news ++ r).length = cap * sz → (A B cap r).pr
 T := ((Option (Builtin × List Value × List TypeId) × Option TypeDesc × Option (Option Nat × Nat × Nat)) × (Bool × Nat × List Value) × (Bool × Nat × List Value × TypeId × Nat × Nat) × Bool × Bool) × ((B : Nat) → (cap : Nat) → (r : List Value) → (A B cap r).T)
 l s := ((dAp C.P s.nt s.k s.e T E, (isCellsL s.L j2, blkL s.L j2, ((cellsL s.L j2).drop o).take (m * sz)), dRw s.L j, (Nat.beq news.length (m * sz) && allOne news), s.q.isNone),
  fun B cap r => (A B cap r).l (s.hp (.slice (SO B) (n + m) cap) (addB fr (B, .cells ⟨cs.take (n * sz) ++ news ++ r⟩ E) (s.L.eraseIdx j))))
 N p := (((some (.append, [.slice (some ⟨b1, 0, none⟩) n cp, .slice (some ⟨b, o, none⟩) m c], [T, T]), some (.slice E), some (some sz, sz, bytes)), (true, b, news), (true, b1, cs, E, (0, 0)), true, true), fun B cap r => (A B cap r).N (p.2 B cap r))
 ok s h hp := by
  obtain ⟨d, k, e, L, q, r0⟩ := s
  cases q with
  | some q => exact absurd (congrArg (fun x => x.1.2.2.2.2) h) (by simp)
  | none =>
   have h7 := congrArg Prod.snd h
   have h := congrArg Prod.fst h
   obtain ⟨h1, h⟩ := Prod.mk.inj h
   obtain ⟨h2, h⟩ := Prod.mk.inj h
   obtain ⟨h2, h3⟩ := Prod.mk.inj h2
   obtain ⟨h3, h4⟩ := Prod.mk.inj h3
   obtain ⟨h6, h⟩ := Prod.mk.inj h
   obtain ⟨h5, -⟩ := Prod.mk.inj h
   simp only [dRw, Prod.mk.injEq] at h6
   obtain ⟨i1, rfl, i3, i4, i5⟩ := h6
   obtain ⟨z, g1, g2, g3, g4⟩ := dAp_ok h1
   simp only [Bool.and_eq_true] at h5
   have hs := Src.own (L := L) (S := C.S) (w0 := C.w0) (j := j2) (o := o) (n := m * sz) (c := cellsL L j2) (by rw [h2])
   rw [h3, h4] at hs
   exact AtE.appendO (R := goal C r0) j (z := z) (cs := cs) news (by rw [g1, g2, g3, g4, i1, i3, i4, i5]) hs (Nat.eq_of_beq_eq_true h5.1) (allOne_spec h5.2) hp.1 hp.2.1
    fun B cap r x1 x2 => addB_ok ((A B cap r).ok ⟨d, _, _, _, none, r0⟩ (congrFun (congrFun (congrFun h7 B) cap) r) (hp.2.2 B cap r x1 x2))
@[reducible] def VC.aS (fr : Bool) (T U E bytes : Nat) (s0 : BA) (A0 : VC C) (A : Nat → Nat → List Value → VC C) : VC C where
 pr := (s0.size ≤ 9223372036854775807 ∧ s0.size * bytes ≤ 140737488355328) ∧ (s0.size = 0 → A0.pr) ∧ (0 < s0.size → ∀ B cap r, s0.size ≤ cap → ((bytesL s0.data.toList) ++ r).length = cap * 1 → (A B cap r).pr)
 T := ((Option (Builtin × List Value × List TypeId) × Option TypeDesc × Option (Option Nat × Nat × Nat)) × Option TypeDesc × Bool) × A0.T × ((B : Nat) → (cap : Nat) → (r : List Value) → (A B cap r).T)
 l s := ((dAp C.P s.nt s.k s.e T E, C.P.underlying U, s.q.isNone), A0.l (s.nx (.slice none 0 0)), fun B cap r => (A B cap r).l (s.hp (.slice (SO B) s0.size cap) (addB fr (B, .cells ⟨(bytesL s0.data.toList) ++ r⟩ E) s.L)))
 N p := (((some (.append, [.slice none 0 0, .string s0], [T, U]), some (.slice E), some (some 1, 1, bytes)), some .string, true), A0.N p.2.1, fun B cap r => (A B cap r).N (p.2.2 B cap r))
 ok s h hp := by
  obtain ⟨d, k, e, L, q, r0⟩ := s
  cases q with
  | some q => exact absurd (congrArg (fun x => x.1.2.2) h) (by simp)
  | none =>
   obtain ⟨h, h7⟩ := Prod.mk.inj h
   obtain ⟨h7, h8⟩ := Prod.mk.inj h7
   obtain ⟨h1, h⟩ := Prod.mk.inj h
   obtain ⟨hU, -⟩ := Prod.mk.inj h
   obtain ⟨z, g1, g2, g3, g4⟩ := dAp_ok h1
   exact AtE.appendS (R := goal C r0) s0.size (bytesL s0.data.toList) (by rw [g1, g2, g3, g4]) (srcStr hU s0) hp.1 (fun h0 => A0.ok ⟨d, _, _, _, none, r0⟩ h7 (hp.2.1 h0))
    fun h0 B cap r x1 x2 => addB_ok ((A B cap r).ok ⟨d, _, _, _, none, r0⟩ (congrFun (congrFun (congrFun h8 B) cap) r) (hp.2.2 h0 B cap r x1 x2))
@[reducible] def VC.oS (fr : Bool) (j b1 len cp : Nat) (cs : List Value) (T U E bytes : Nat) (s0 : BA) (A : Nat → Nat → List Value → VC C) : VC C where
 pr := (len ≤ cp ∧ cs.length = cp * 1) ∧ (len + s0.size ≤ 9223372036854775807 ∧ (len + s0.size) * bytes ≤ 140737488355328) ∧ ∀ B cap r, len + s0.size ≤ cap → (cs.take (len * 1) ++ (bytesL s0.data.toList) ++ r).length = cap * 1 → (A B cap r).pr
 T := ((Option (Builtin × List Value × List TypeId) × Option TypeDesc × Option (Option Nat × Nat × Nat)) × (Bool × Nat × List Value × TypeId × Nat × Nat) × Option TypeDesc × Bool) × ((B : Nat) → (cap : Nat) → (r : List Value) → (A B cap r).T)
 l s := ((dAp C.P s.nt s.k s.e T E, dRw s.L j, C.P.underlying U, s.q.isNone), fun B cap r => (A B cap r).l (s.hp (.slice (SO B) (len + s0.size) cap) (addB fr (B, .cells ⟨cs.take (len * 1) ++ (bytesL s0.data.toList) ++ r⟩ E) (s.L.eraseIdx j))))
 N p := (((some (.append, [.slice (some ⟨b1, 0, none⟩) len cp, .string s0], [T, U]), some (.slice E), some (some 1, 1, bytes)), (true, b1, cs, E, (0, 0)), some .string, true), fun B cap r => (A B cap r).N (p.2 B cap r))
 ok s h hp := by
  obtain ⟨d, k, e, L, q, r0⟩ := s
  cases q with
  | some q => exact absurd (congrArg (fun x => x.1.2.2.2) h) (by simp)
  | none =>
   obtain ⟨h, h8⟩ := Prod.mk.inj h
   obtain ⟨h1, h⟩ := Prod.mk.inj h
   obtain ⟨h6, h⟩ := Prod.mk.inj h
   obtain ⟨hU, -⟩ := Prod.mk.inj h
   simp only [dRw, Prod.mk.injEq] at h6
   obtain ⟨i1, rfl, i3, i4, i5⟩ := h6
   obtain ⟨z, g1, g2, g3, g4⟩ := dAp_ok h1
   exact AtE.appendOS (R := goal C r0) j (z := z) (cs := cs) s0.size (bytesL s0.data.toList) (by rw [g1, g2, g3, g4, i1, i3, i4, i5]) (srcStr hU s0) hp.1 hp.2.1
    fun B cap r x1 x2 => addB_ok ((A B cap r).ok ⟨d, _, _, _, none, r0⟩ (congrFun (congrFun (congrFun h8 B) cap) r) (hp.2.2 B cap r x1 x2))
@[reducible] def VC.cS (j b o dl dc : Nat) (T E U : TypeId) (s0 : BA) (c : List Value) (A : VC C) : VC C :=
 .oE (fun P nt k e L => (asBuiltin nt k e, P.underlying T, (P.info? E).map (·.size), P.underlying E, (isCellsL L j, cellsL L j, fzL L j, blkL L j)))
  (some (.copy, [.slice (some ⟨b, o, none⟩) dl dc, .string s0], [T, U]), some (.slice E), some 1, some (.int .u8), (true, c, (0, 0), b)) (o + dl ≤ c.length) (.int .i64 ((min s0.size dl : Nat) : Int)) (fun L => setL L j (over c o (bytesL (s0.data.toList.take dl))))
  (fun h hF hn => by
   simp only [Prod.mk.injEq] at h
   obtain ⟨h1, h2, h3, h4, h5, h6, h7, rfl⟩ := h
   exact AtE.copyS (T := T) (E := E) (U := U) (dc := dc) j (by rw [h1, h2, h3, h4, h5, h6, h7]) hF hn) A
@[reducible] def VC.cO (j b o dl dc : Nat) (j2 b2 o2 n m : Nat) (T E : TypeId) (c cs : List Value) (A : VC C) : VC C where
 pr := cs.length = min n dl ∧ (∀ u ∈ cs, u.oneCell' = true) ∧ (o + cs.length ≤ c.length) ∧ A.pr
 T := ((Option (Builtin × List Value × List TypeId) × Option TypeDesc × Option Nat) × (Bool × List Value × (Nat × Nat) × Nat) × (Bool × Nat × List Value) × Bool) × A.T
 l s := (((asBuiltin s.nt s.k s.e, C.P.underlying T, (C.P.info? E).map (·.size)), (isCellsL s.L j, cellsL s.L j, fzL s.L j, blkL s.L j), (isCellsL s.L j2, blkL s.L j2, ((cellsL s.L j2).drop o2).take (min n dl)), s.q.isNone), A.l (s.hp (.int .i64 (cs.length : Int)) (setL s.L j (over c o cs))))
 N p := (((some (.copy, [.slice (some ⟨b, o, none⟩) dl dc, .slice (some ⟨b2, o2, none⟩) n m], [T, T]), some (.slice E), some 1), (true, c, (0, 0), b), (true, b2, cs), true), A.N p.2)
 ok s h hp := by
  obtain ⟨d, k, e, L, q, r0⟩ := s
  cases q with
  | some q => exact absurd (congrArg (fun x => x.1.2.2.2) h) (by simp)
  | none =>
   obtain ⟨h, h8⟩ := Prod.mk.inj h
   obtain ⟨h1, h⟩ := Prod.mk.inj h
   obtain ⟨h2, h⟩ := Prod.mk.inj h
   obtain ⟨h3, -⟩ := Prod.mk.inj h
   simp only [Prod.mk.injEq] at h1 h2 h3
   obtain ⟨a1, a2, a3⟩ := h1
   obtain ⟨b1, b3, b4, rfl⟩ := h2
   obtain ⟨j1, j3, j4⟩ := h3
   have hs := Src.own (L := L) (S := C.S) (w0 := C.w0) (j := j2) (o := o2) (n := min n dl) (c := cellsL L j2) (by rw [j1])
   rw [j3, j4] at hs
   exact AtE.copyO (R := goal C r0) (T := T) (E := E) (dc := dc) (m := m) j cs (by rw [a1, a2, a3, b1, b3, b4]) hs hp.1 hp.2.1 hp.2.2.1 (A.ok ⟨d, _, _, _, none, r0⟩ h8 hp.2.2.2)
@[reducible] def VC.cR (j b o n cap : Nat) (T E : TypeId) (z : Value) (sz bytes : Nat) (c : List Value) (A : VC C) : VC C :=
 .oE (fun P nt k e L => (asBuiltin nt k e, P.underlying T, infoZ P E, z.cells.size, (isCellsL L j, cellsL L j, fzL L j, blkL L j), z.cells.toList.all fun u => u.oneCell'))
  (some (.clear, [.slice (some ⟨b, o, none⟩) n cap], [T]), some (.slice E), some (some z, sz, bytes), sz, (true, c, (0, 0), b), true) (o + n * sz ≤ c.length) (.tuple #[]) (fun L => setL L j (over c o (noughtL z.cells n)))
  (fun h hF hn => by
   simp only [Prod.mk.injEq] at h
   obtain ⟨h1, h2, h3, h4, ⟨h5, h6, h7, rfl⟩, h8⟩ := h
   exact AtE.clearO (T := T) (E := E) (cap := cap) (bytes := bytes) (sz := sz) j (by rw [h1, h2, h3, h4, h5, h6, h7]) h8 hF hn) A
@[reducible] def VC.sO (b o len cap sz l' c' : Nat) (lo hi : Option Value) (x y : Int) (A : Nat → VC C) (hl : l' = y.toNat - x.toNat := by first | rfl | simp) (hc : c' = cap - x.toNat := by rfl)
  (hlo : (∃ kd, lo = some (.int kd x)) ∨ (lo = none ∧ x = 0) := by first | exact .inl ⟨_, rfl⟩ | exact .inr ⟨rfl, rfl⟩) (hhi : (∃ kd, hi = some (.int kd y)) ∨ (hi = none ∧ y = len) := by first | exact .inl ⟨_, rfl⟩ | exact .inr ⟨rfl, rfl⟩) : VC C where
 pr := (0 ≤ x ∧ x ≤ y ∧ y ≤ cap) ∧ ∀ q, q = (if x.toNat = cap then o else o + x.toNat * sz) → (A q).pr
 T := (Option (Value × Option Value × Option Value × Option Nat) × Bool) × ((q : Nat) → (A q).T)
 l s := ((dSs C.P s.nt s.k s.e, s.q.isNone), fun q => (A q).l (s.nx (.slice (some ⟨b, q, none⟩) l' c')))
 N p := ((some (.slice (some ⟨b, o, none⟩) len cap, lo, hi, some sz), true), fun q => (A q).N (p.2 q))
 ok s h hp := by
  obtain ⟨d, k, e, L, q, r0⟩ := s
  have h1 := congrArg (·.1.1) h
  have h6 := congrArg (·.1.2) h
  have h8 := congrArg (·.2) h
  cases q with
  | some q => exact absurd h6 (by simp)
  | none =>
   obtain ⟨E, g1, g2⟩ := dSs_ok h1
   refine AtE.sliceL (R := goal C r0) (by rw [g1, g2]) hlo ?_ hp.1 rfl hl hc ((A _).ok _ (congrFun h8 _) (hp.2 _ rfl))
   rcases hhi with h | ⟨h, h'⟩
   ·exact .inl h
   ·exact .inr ⟨h, h', by have := hp.1.2.2; omega⟩
@[reducible] def VC.lS (j b off : Nat) (T : TypeId) (c : List Value) (v : Value) (A : VC C) : VC C where
 pr := c[off]? = some v ∧ A.pr
 T := (Option (TypeId × Value) × Option Bool × (Bool × Nat × List Value)) × A.T
 l s := ((asLoad s.nt s.k s.e, (C.P.underlying T).map aggD, (isCellsL s.L j, blkL s.L j, cellsL s.L j)), A.l (s.nx v))
 N p := ((some (T, .pointer (some ⟨b, off, none⟩)), some false, (true, b, c)), A.N p.2)
 ok s h hp := by
  obtain ⟨h, h2⟩ := Prod.mk.inj h
  simp only [Prod.mk.injEq] at h
  obtain ⟨h1, h3, h4, h5, h6⟩ := h
  refine J.load h1 (fun W hm => ?_) (valAt_one hp.1 h3) (A.ok _ h2 hp.2)
  have := hm.heapAt h4
  rw [h5, h6] at this
  exact ⟨_, _, this⟩
@[reducible] def VC.pC (j : Nat) (t : TypeId) (b off : Nat) (c : List Value) (E sz : Nat) (A : VC C) : VC C :=
 .oT (fun P nt k e L => (asConv P nt k e, L[j]?, (P.info? t).map (·.size), Nat.ble (off + 1) c.length)) (some (some (.pointer t), some .unsafePointer, .pointer (some ⟨b, off, none⟩)), some (b, .cells ⟨c⟩ E (0, 0)), some (sz + 1), true) (.pointer (some ⟨b, off, none⟩))
  (fun h hn => by
   simp only [Prod.mk.injEq] at h
   obtain ⟨h1, h2, h3, h4⟩ := h
   exact AtE.ptrConv (c := c) (E := E) (fz := (0, 0)) j (by rw [h1, h2, h3]) (Nat.le_of_ble_eq_true h4) hn) A
@[reducible] def VC.pB (j : Nat) (u : TypeId) (b off n : Nat) (c : List Value) (E : Nat) (A : VC C) : VC C :=
 .oT (fun P nt k e L => (asConv P nt k e, L[j]?, (P.info? u).isSome, liesAt P P.depth E (n / P.cellsOf E) off u 1, Nat.beq c.length n)) (some (some .unsafePointer, some (.pointer u), .pointer (some ⟨b, off, none⟩)), some (b, .cells ⟨c⟩ E (0, 0)), true, true, true) (.pointer (some ⟨b, off, none⟩))
  (fun h hn => by
   simp only [Prod.mk.injEq] at h
   obtain ⟨h1, h2, h3, h4, h5⟩ := h
   exact AtE.ptrBack (c := c) (E := E) (fz := (0, 0)) (n := n) j (by rw [h1, h2, h3, h4]) (Nat.eq_of_beq_eq_true h5) hn) A
@[reducible] def VC.uS (j b E pt it n : Nat) (c : List Value) (l : List UInt8) (A : VC C) : VC C :=
 .oE (fun P nt k e L => (asBuiltin nt k e, L[j]?, P.underlying pt, P.cellsOf E)) (some (.unsafeString, [.pointer (some ⟨b, 0, none⟩), .int .i64 (n : Int)], [pt, it]), some (b, .cells ⟨c⟩ E), some (.pointer E), 1) (c.take n = bytesL l ∧ l.length = n ∧ 0 < n ∧ n ≤ 9223372036854775807) (.string ⟨l.toArray⟩) (fun L => L.eraseIdx j)
  (fun h hF hn => AtE.unsafeStr j h hF hn) A
theorem raise_goal {M : List PanicEntry} {L : SHeap} : ∀ (fr : List (Fr C.P)) (d : FnD C.P) (e : Env), FinP C.R L C.S C.w0 M → RaiseE C.P d.f d.fn.ntmps e M L C.S C.w0 (goal C fr)
 | [], d, _, h => RaiseE.nrm d.hf h
 | x :: r, d, _, h => RaiseE.inl d.hf (raise_goal r x.d x.e h)
@[reducible] def VC.cP (g : FuncId) (args : List Value) (L1 : SHeap) (K : KT C) : VC C where
 pr := CallP C.P g ⟨args⟩ L1 C.S C.w0 K.pr (fun ch L' => FinP C.R L' C.S C.w0 ch)
 T := (World → Result Next) × Bool × SHeap × K.T
 l s := ((fun W => (execOp (rho s.e) (curO s.nt s.k s.e)).run C.P W), ((cur s.nt s.k s.e).isSome && s.q.isNone), s.L, K.l fun v L' => s.hp v L')
 N p := ((fun W => .ok (.enter g ⟨args⟩) W), true, L1, K.N p.2.2.2)
 ok s h hp := by
  obtain ⟨d, k, e, L', q, fr⟩ := s
  simp only [Prod.mk.injEq, Bool.and_eq_true] at h
  obtain ⟨h1, ⟨h2, h3⟩, rfl, h6⟩ := h
  obtain ⟨o, ho⟩ := Option.isSome_iff_exists.1 h2
  cases q with
  | some q => simp at h3
  | none =>
   show AtE C.P d.f d.fn.ntmps k e L' C.S C.w0 (goal C fr)
   exact AtE.callP (L1 := L') (K := K.pr) (K' := fun ch L' => FinP C.R L' C.S C.w0 ch) g ⟨args⟩ (fun W => congrFun h1 W) (by simp [curO, ho]) hp (fun v L2 hk => K.ok (fun v L2 => ⟨d, nextK k, putE e (curDst d.fn.ntmps k e) v, L2, none, fr⟩) h6 v L2 hk) fun ch L2 hk => raise_goal fr d e hk
@[reducible] def VC.pn (t : TypeId) (v : Value) (L1 : SHeap) : VC C where
 pr := FinP C.R L1 C.S C.w0 [{ v := .iface t v, recovered := false }]
 T := Option Value × SHeap × Bool
 l s := (asPanic s.nt s.k s.e, s.L, s.q.isNone)
 N _ := (some (.iface t v), L1, true)
 ok s h hp := by
  obtain ⟨d, k, e, L', q, fr⟩ := s
  cases q with
  | some q => exact absurd (congrArg (fun x => x.2.2) h) (by simp)
  | none =>
   simp only [Prod.mk.injEq] at h
   obtain ⟨h1, rfl, -⟩ := h
   exact AtE.panic h1 (raise_goal fr d e hp)
end
structure Lab where
 unt : Int
 after : List Int
 appr : Int
 den : Int
deriving DecidableEq
structure Blk where
 id : Int
 kind : Int
 text : BA
 story : Int
 ref : Int
 lab : Lab
deriving DecidableEq
structure Fct where
 n : Int
 time : Int
 kind : Int
 story : Int
 lang : BA
 rev : Int
 base : Int
 title : BA
 author : BA
 topics : List BA
 blocks : List Blk
 lab : Lab
 editor : Int
 block : Int
 sentence : Int
 text : BA
 name : BA
 partner : Int
 cls : Int
 unt : Int
deriving DecidableEq
abbrev Fct.cells (f : Fct) (tp : OA) (tc : Nat) (bp : OA) (bc : Nat) (ap : OA) (ac : Nat) : List Value :=
 [.int .i64 f.n, .int .i64 f.time, .int .i64 f.kind, .int .i64 f.story, .string f.lang, .int .i64 f.rev, .int .i64 f.base, .string f.title, .string f.author, .slice tp f.topics.length tc, .slice bp f.blocks.length bc,
  .int .i64 f.lab.unt, .slice ap f.lab.after.length ac, .int .i64 f.lab.appr, .int .i64 f.lab.den, .int .i64 f.editor, .int .i64 f.block, .int .i64 f.sentence, .string f.text, .string f.name, .int .i64 f.partner, .int .i64 f.cls, .int .i64 f.unt]
end Go.Eng
