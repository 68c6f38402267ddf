/- A part of the proof: the engine by which functions are walked, verification conditions that a program of the prover wrote, contracts and plain laws; no claim of its own. -/
import Derived.Handed
import Derived.ChangeSame
import Derived.Carry
import Derived.OpenShut
import Derived.LaidLaws
import Derived.JoinedOf
import Derived.RowKit
import Derived.RowKit2
import Derived.ChangeSlices
import Derived.SliceStrings
import Derived.Test.YtfobdgoklnhebaaGreatDoorReoA
set_option linter.unusedVariables false
set_option linter.unusedSimpArgs false
namespace Go.Eng
section
open Go Go.RowKit
variable {P : Program} {f nt : Nat} {k : List Item} {e : Env} {L : SHeap} {S : List Nat} {w0 : World} {R : Goal P}
theorem AtE.permL {L' : SHeap} (hp : L'.Perm L) (hn : AtE P f nt k e L' S w0 R) : AtE P f nt k e L S w0 R := fun t W hk hm => hn t W hk (hm.perm hp)
def AppN (P : Program) (sz : Nat) (T U : TypeId) (s : Value) (m : Nat) (news : List Value) (L : SHeap) (S : List Nat) (w0 : World) (K : Value → SHeap → Prop) : Prop :=
 ∀ x ty W, Mem L S w0 W → Go.Src P sz U x m news W → ∃ v W' L', (Builtin.append_ #[T, U] ty #[s, x]).run P W = .ok v W' ∧ Mem L' S w0 W' ∧ K v L'
theorem AtE.appendT {sz : Nat} {T U : TypeId} {s x : Value} (m : Nat) (news : List Value) {K : Value → SHeap → Prop}
  (h : asBuiltin nt k e = some (.append, [s, x], [T, U])) (hs : ∀ W, Mem L S w0 W → Go.Src P sz U x m news W) (H : AppN P sz T U s m news L S w0 K)
  (hn : ∀ v L', K v L' → AtE P f nt (nextK k) (putE e (curDst nt k e) v) L' S w0 R) : AtE P f nt k e L S w0 R := by
 obtain ⟨o, cl, hc, ho, hcb, ha, ht⟩ := asBuiltin_spec h
 refine AtE.opB hc ho hcb ha ht (by simp) fun W hm => ?_
 obtain ⟨v, W', L', h1, h2, h3⟩ := H x o.type W hm (hs W hm)
 exact ⟨v, W', run_lift h1, fun t hk => hn v L' h3 t W' hk h2⟩
theorem AtM.appendT {ops : Array Oper} {n : Nat} {kk : List Item} {L0 : SHeap} (L1 : SHeap) {sz : Nat} {T U : TypeId} {s x : Value} (m : Nat) (news : List Value) {K : Value → SHeap → Prop} (hl : L = L0 ++ L1)
  (h : asBuiltin nt k e = some (.append, [s, x], [T, U])) (hs : ∀ W, Mem L S w0 W → Go.Src P sz U x m news W) (H : AppN P sz T U s m news L S w0 K)
  (hn : ∀ v L', K v L' → AtM P f nt ops n kk L0 (nextK k) (putE e (curDst nt k e) v) L' S w0 R) : AtM P f nt ops n kk L0 k e L S w0 R := by
 obtain ⟨o, cl, hc, ho, hcb, ha, ht⟩ := asBuiltin_spec h
 refine AtM.opW L1 hl hc fun W hm => ?_
 rw [run_builtin ho hcb ha ht (by simp) W]
 obtain ⟨v, W', L', h1, h2, h3⟩ := H x o.type W hm (hs W hm)
 exact ⟨v, L', W', run_lift h1, h2, hn v L' h3⟩
theorem srcRow {U E' : TypeId} {sz n c0 B : Nat} {t : TypeId} {fz : Nat × Nat} {c : List Value} (hc : (B, Obj.cells ⟨c⟩ t fz) ∈ L) (hU : P.underlying U = some (.slice E')) (hl : c.length = n * sz) (h1 : ∀ u ∈ c, u.oneCell' = true) :
  ∀ W, Mem L S w0 W → Go.Src P sz U (.slice (some ⟨B, 0, none⟩) n c0) n c W :=
 fun W hm => Go.Src.ofSlice W hU ⟨B, 0, none⟩ n c0 c hl (fun j u hu => by rw [addr_add, Nat.zero_add, cell_of_heap (hm.here _ hc)]; exact hu) h1
theorem perm_tail {y : Nat × Obj} {A F F0 : SHeap} (hp : F.Perm (y :: F0)) : (y :: (A ++ F0)).Perm (A ++ F) := List.perm_middle.symm.trans (hp.symm.append_left A)
theorem AppN.mono {sz : Nat} {T U : TypeId} {s : Value} {m : Nat} {news : List Value} {K K' : Value → SHeap → Prop} (h : AppN P sz T U s m news L S w0 K) (hk : ∀ v L', K v L' → K' v L') : AppN P sz T U s m news L S w0 K' := by
 intro x ty W hm hs
 obtain ⟨v, W', L', h1, h2, h3⟩ := h x ty W hm hs
 exact ⟨v, W', L', h1, h2, hk v L' h3⟩
theorem AppN.nil {T U E : TypeId} {z : Value} {sz bytes m : Nat} {news : List Value} (hT : P.underlying T = some (.slice E)) (hi : infoZ P E = some (some z, sz, bytes)) (hz : z.cells.size = sz)
  (h0 : 0 < m) (hb : m ≤ 9223372036854775807 ∧ m * bytes ≤ 140737488355328) :
  AppN P sz T U (.slice none 0 0) m news L S w0 (fun v L' => ∃ B cap r, v = .slice (some ⟨B, 0, none⟩) m cap ∧ m ≤ cap ∧ (news ++ r).length = cap * sz ∧ L' = L ++ [(B, .cells ⟨news ++ r⟩ E)]) := by
 intro x ty W hm hsr
 obtain ⟨i, hi, hzi, hsz, hby⟩ := info_open hi
 have hr := run_append_grow_src W T U ty E i z hT hi hzi none 0 0 [] (by simp [Builtin.firstCells]) x m news (by rw [hsz]; exact hsr) (by omega) (by omega) (growslice_fits (by omega) (by rw [hby, Nat.zero_add]; exact hb.2))
 have he : (([] ++ news).toArray ++ Builtin.zeroCells z.cells (grownCap W (0 + m) 0 E - (0 + m))) = ⟨news ++ (Builtin.zeroCells z.cells (grownCap W (0 + m) 0 E - (0 + m))).toList⟩ := by
  apply Array.toList_inj.1; simp
 rw [he, Nat.zero_add] at hr
 refine ⟨_, _, _, hr, hm.drew.alloc _, W.heap.size, grownCap W m 0 E, (Builtin.zeroCells z.cells (grownCap W m 0 E - m)).toList, rfl, grownCap_ge W m 0 E, ?_, rfl⟩
 have := grownCap_ge W m 0 E
 rw [List.length_append, zeroCells_len, hsr.newsLen, hz, ← Nat.add_mul]
 congr 1
 omega
theorem AppN.row {T U E : TypeId} {z : Value} {sz bytes m n cap Q : Nat} {cs news : List Value} {L0 : SHeap} (hT : P.underlying T = some (.slice E)) (hi : infoZ P E = some (some z, sz, bytes)) (hz : z.cells.size = sz)
  (hp : L.Perm ((Q, .cells ⟨cs⟩ E) :: L0)) (hlen : n ≤ cap ∧ cs.length = cap * sz) (h0 : 0 < m) (hb : n + m ≤ 9223372036854775807 ∧ (n + m) * bytes ≤ 140737488355328) :
  AppN P sz T U (.slice (some ⟨Q, 0, none⟩) n cap) m news L S w0 (fun v L' => ∃ B cap' r, v = .slice (some ⟨B, 0, none⟩) (n + m) cap' ∧ n + m ≤ cap' ∧ (cs.take (n * sz) ++ news ++ r).length = cap' * sz ∧
   ((B = Q ∧ cap' = cap ∧ L' = (Q, .cells ⟨cs.take (n * sz) ++ news ++ r⟩ E) :: L0) ∨ L' = (B, .cells ⟨cs.take (n * sz) ++ news ++ r⟩ E) :: (Q, .cells ⟨cs⟩ E) :: L0)) := by
 intro x ty W hm0 hsr
 have hm : Mem ((Q, .cells ⟨cs⟩ E) :: L0) S w0 W := hm0.perm hp.symm
 obtain ⟨i, hi, hzi, hsz, hby⟩ := info_open hi
 have hnl := hsr.newsLen
 have hh : W.heap[Q]? = some (.cells ⟨cs⟩ E (0, 0)) := hm.here _ List.mem_cons_self
 have hnle : n * sz ≤ cs.length := by rw [hlen.2]; exact Nat.mul_le_mul_right _ hlen.1
 by_cases hroom : n + m ≤ cap
 ·have hfit : n * sz + news.length ≤ cs.length := by
   rw [hnl, hlen.2, ← Nat.add_mul]; exact Nat.mul_le_mul_right _ hroom
  have hr := run_append_room_src W T U ty E i hT hi Q 0 n cap x m news (by rw [hsz]; exact hsr) hroom
   (fun q hq => by rw [hsz, Nat.zero_add, cell_of_heap hh, List.getElem?_eq_getElem (by omega)]; rfl)
   (fun q hq => by simp [World.frozen?, hh])
  rw [hsz, Nat.zero_add, setCells_setRow hh news hfit] at hr
  refine ⟨_, _, _, hr, hm.setRow (j := 0) rfl _, Q, cap, cs.drop (n * sz + news.length), rfl, hroom, ?_, .inl ⟨rfl, rfl, rfl⟩⟩
  simp only [List.length_append, List.length_take, List.length_drop]
  rw [← hlen.2]; omega
 ·have holds : (Builtin.firstCells i.size n (.slice (some ⟨Q, 0, none⟩) n cap)).run P W.drew = .ok (cs.take (n * sz)).toArray W.drew := by
   rw [hsz]
   refine run_firstCells_some W.drew sz n ⟨Q, 0, none⟩ n cap (cs.take (n * sz)) (by rw [List.length_take]; exact Nat.min_eq_left hnle) fun q u hu => ?_
   have hhd : W.drew.heap[Q]? = some (.cells ⟨cs⟩ E (0, 0)) := hh
   rw [addr_add, cell_of_heap hhd, Nat.zero_add]
   rw [List.getElem?_take] at hu
   split at hu
   ·exact hu
   ·cases hu
  have hlt : (cs.take (n * sz)).length = n * sz := by rw [List.length_take]; exact Nat.min_eq_left hnle
  have hr := run_append_grow_src W T U ty E i z hT hi hzi (some ⟨Q, 0, none⟩) n cap (cs.take (n * sz)) holds x m news (by rw [hsz]; exact hsr) (by omega) (by omega) (growslice_fits (by omega) (by rw [hby]; exact hb.2))
  have he : ((cs.take (n * sz) ++ news).toArray ++ Builtin.zeroCells z.cells (grownCap W (n + m) cap E - (n + m))) = ⟨cs.take (n * sz) ++ news ++ (Builtin.zeroCells z.cells (grownCap W (n + m) cap E - (n + m))).toList⟩ := by
   apply Array.toList_inj.1; simp
  rw [he] at hr
  refine ⟨_, _, _, hr, (hm.drew.alloc _).perm (L' := (W.heap.size, _) :: (Q, .cells ⟨cs⟩ E) :: L0) ?_, W.heap.size, grownCap W (n + m) cap E, (Builtin.zeroCells z.cells (grownCap W (n + m) cap E - (n + m))).toList, rfl, grownCap_ge W (n + m) cap E, ?_, .inr rfl⟩
  ·exact List.perm_append_comm (l₁ := [_])
  ·rw [List.length_append, List.length_append, zeroCells_len, hnl, hz, hlt, ← Nat.add_mul, ← Nat.add_mul]
   congr 1
   have := grownCap_ge W (n + m) cap E
   omega
theorem AtE.storeA (j : Nat) {off n : Nat} {T : TypeId} {vs : List Value} {c : List Value} (h : (asStore nt k e, isCellsL L j, (P.info? T).map (·.size), cellsL L j, fzL L j, vs.length, allOne vs) = (some (T, .pointer (some ⟨blkL L j, off, none⟩), .agg ⟨vs⟩), true, some n, c, (0, 0), n, true))
  (hb : off + n ≤ c.length) (hn : AtE P f nt (nextK k) (putE e (curDst nt k e) undef) (setL L j (over c off vs)) S w0 R) : AtE P f nt k e L S w0 R := by
 simp only [Prod.mk.injEq] at h
 obtain ⟨h1, h2, h3, h4, h5, h6, h7⟩ := h
 obtain ⟨o, x, y, hc, ho, hx, hy⟩ := asStore_spec h1
 refine AtE.opK hc (fun W hm => ⟨W.setRow (blkL L j) ⟨over c off vs⟩, ?_, hm.setRow h2 _⟩) hn
 have hh := hm.heapAt h2
 rw [h4, h5] at hh
 have hp : putC P T c off (.agg ⟨vs⟩) = some (over c off vs) := by
  unfold putC
  cases hq : P.info? T with
  | none => rw [hq] at h3; cases h3
  | some i =>
   rw [hq] at h3; simp at h3
   have this : ((Nat.beq (Value.agg ⟨vs⟩).cells.toList.length i.size && Nat.ble (off + i.size) c.length) && allOne (Value.agg ⟨vs⟩).cells.toList) = true := by
    rw [h3]
    have e1 : (Value.agg ⟨vs⟩).cells.toList = vs := rfl
    rw [e1, h7, h6, Nat.ble_eq_true_of_le hb]
    simp
   show (bif ((Nat.beq (Value.agg ⟨vs⟩).cells.toList.length i.size && Nat.ble (off + i.size) c.length) && allOne (Value.agg ⟨vs⟩).cells.toList) then some _ else none) = _
   rw [this]
   rfl
 simp only [execOp, ho, hx, hy]
 rw [Sem.run_bind, store_run hh hp]; rfl
theorem findNow_at (kd : IntKind) (n : Int) : ∀ (es : List MapEntry) (i : Nat), intKeys kd es = true →
  (Instr.findNow (.int kd) (.int kd n) es i = some none ∧ entryI kd n es = none) ∨
  ∃ p, ∃ h : p < es.length, Instr.findNow (.int kd) (.int kd n) es i = some (some (i + p, es[p].val)) ∧ es[p].key = .int kd n ∧
   ∀ v, intKeys kd (es.modify p fun e => { e with key := .int kd n, val := v }) = true ∧ ∀ q, entryI kd q (es.modify p fun e => { e with key := .int kd n, val := v }) = if q = n then some v else entryI kd q es
 | [], i, _ => .inl ⟨rfl, rfl⟩
 | e :: es, i, h => by
  unfold intKeys at h
  split at h
  ·next kd' m hk =>
   simp only [Bool.and_eq_true, decide_eq_true_eq] at h
   obtain ⟨rfl, h⟩ := h
   by_cases hnm : n = m
   ·subst hnm
    refine .inr ⟨0, by simp, ?_, hk, fun v => ⟨?_, fun q => ?_⟩⟩
    ·unfold Instr.findNow
     simp [hk, Instr.sameNow]
    ·simp only [List.modify_zero_cons, intKeys, decide_true, Bool.true_and]; exact h
    ·simp only [List.modify_zero_cons, entryI, hk]
     by_cases hq : q = n
     ·rw [if_pos hq, if_pos hq]
     ·rw [if_neg hq, if_neg hq, if_neg hq]
   ·have hb : (n == m) = false := by simpa using hnm
    have hf : ∀ j, Instr.findNow (.int kd) (.int kd n) (e :: es) j = Instr.findNow (.int kd) (.int kd n) es (j + 1) := by
     intro j
     conv => lhs; unfold Instr.findNow
     simp [hk, Instr.sameNow, hb]
    have he : ∀ r : List MapEntry, ∀ q, entryI kd q (e :: r) = if q = m then some e.val else entryI kd q r := by
     intro r q
     conv => lhs; unfold entryI
     simp only [hk]
    rcases findNow_at kd n es (i + 1) h with ⟨h1, h2⟩ | ⟨p, hp, h1, h2, h3⟩
    ·exact .inl ⟨by rw [hf, h1], by rw [he, if_neg hnm, h2]⟩
    ·refine .inr ⟨p + 1, by simpa using hp, ?_, by simpa using h2, fun v => ⟨?_, fun q => ?_⟩⟩
     ·rw [hf, h1]; simp; omega
     ·rw [List.modify_succ_cons]
      unfold intKeys
      simp only [hk, decide_true, Bool.true_and]
      exact (h3 v).1
     ·rw [List.modify_succ_cons, he, he, (h3 v).2]
      by_cases hq : q = m
      ·rw [if_pos hq, if_pos hq, if_neg (fun hqn : q = n => hnm (hqn.symm.trans hq))]
      ·rw [if_neg hq, if_neg hq]
  ·cases h
theorem entryI_push (kd : IntKind) (n : Int) (v : Value) (b : Nat) (q : Int) : ∀ (es : List MapEntry), intKeys kd es = true → entryI kd n es = none →
  intKeys kd (es ++ [{ key := .int kd n, val := v, born := b }]) = true ∧ entryI kd q (es ++ [{ key := .int kd n, val := v, born := b }]) = if q = n then some v else entryI kd q es
 | [], _, _ => by simp [intKeys, entryI]
 | e :: es, h, hne => by
  unfold intKeys at h
  split at h
  ·next kd' m hk =>
   simp only [Bool.and_eq_true, decide_eq_true_eq] at h
   obtain ⟨rfl, h⟩ := h
   have he : ∀ r : List MapEntry, ∀ q, entryI kd q (e :: r) = if q = m then some e.val else entryI kd q r := by
    intro r q
    conv => lhs; unfold entryI
    simp only [hk]
   rw [he] at hne
   by_cases hnm : n = m
   ·rw [if_pos hnm] at hne; cases hne
   ·rw [if_neg hnm] at hne
    obtain ⟨i1, i2⟩ := entryI_push kd n v b q es h hne
    refine ⟨?_, ?_⟩
    ·rw [List.cons_append]
     unfold intKeys
     simp only [hk, decide_true, Bool.true_and]; exact i1
    ·rw [List.cons_append, he, he, i2]
     by_cases hq : q = m
     ·rw [if_pos hq, if_pos hq, if_neg (fun hqn : q = n => hnm (hqn.symm.trans hq))]
     ·rw [if_neg hq, if_neg hq]
  ·cases h
theorem AtE.mapPut (j : Nat) {b c : Nat} {es : Array MapEntry} {kt et : TypeId} {kd : IntKind} {n : Int} {v : Value}
  (h : (asInsert P nt k e, mapL L j, P.underlying kt) = (some (some (.map kt et), .map (some b), .int kd n, v), some (b, es, c), some (.int kd))) (hi : intKeys kd es.toList = true)
  (hn : ∀ es' c', intKeys kd es'.toList = true → (∀ q, entryI kd q es'.toList = if q = n then some v else entryI kd q es.toList) →
   AtE P f nt (nextK k) (putE e (curDst nt k e) undef) (L.set j (b, .map es' c')) S w0 R) : AtE P f nt k e L S w0 R := by
 simp only [Prod.mk.injEq] at h
 obtain ⟨h1, h2, h3⟩ := h
 obtain ⟨o, t, hc, ht, ho⟩ := asInsert_spec h1
 have hj := mapL_spec h2
 have hb : ∀ W, Mem L S w0 W → W.heap[b]? = some (.map es c) := fun W hm => hm.here _ (List.mem_of_getElem? hj)
 have hg : ∀ W, Mem L S w0 W → (getObj b).run P W = .ok (.map es c) W := fun W hm => by simp [getObj, Sem.run, hb W hm]
 have hs : ∀ W, Mem L S w0 W → ∀ o', (setObj b o').run P W = .ok () (W.putObj b o') := fun W hm o' => by simp [setObj, Sem.run, hb W hm, World.putObj]
 rcases findNow_at kd n es.toList 0 hi with ⟨f1, f2⟩ | ⟨p, hp, f1, f2, f3⟩
 ·refine AtE.opSkip hc fun W hm => ⟨W.putObj b (.map (es.push { key := .int kd n, val := v, born := c }) (c + 1)), ?_, fun tm hk => hn (es.push { key := .int kd n, val := v, born := c }) (c + 1) ?_ (fun q => ?_) tm _ (by simpa only [curDst, hc] using hk) (hm.putObj hj _)⟩
  ·rw [ho]
   simp [Instr.mapUpdate, Sem.run_bind, run_underlying ht, hg W hm, checkKey_int h3, Instr.findKey, run_underlying h3, f1, hs W hm]
  ·rw [Array.toList_push]; exact (entryI_push kd n v c 0 es.toList hi f2).1
  ·rw [Array.toList_push]; exact (entryI_push kd n v c q es.toList hi f2).2
 ·have hlist : (es.modify p fun e => { e with key := .int kd n, val := v }).toList = es.toList.modify p fun e => { e with key := .int kd n, val := v } := by
   simp
  refine AtE.opSkip hc fun W hm => ⟨W.putObj b (.map (es.modify p fun e => { e with key := .int kd n, val := v }) c), ?_, fun tm hk => hn (es.modify p fun e => { e with key := .int kd n, val := v }) c ?_ (fun q => ?_) tm _ (by simpa only [curDst, hc] using hk) (hm.putObj hj _)⟩
  ·rw [ho]
   have hp' : p < es.size := by simpa using hp
   have hkey : es[p].key = .int kd n := by simpa using f2
   have hsb : Instr.sameBits 10000 (.int kd n) (.int kd n) = true := by simp [Instr.sameBits]
   have hks : (Instr.keyThatStays (.int kd n) (.int kd n)).run P W = .ok (.int kd n) W := by unfold Instr.keyThatStays; rw [hsb]; rfl
   have hopt : ((es[p]?).map (·.key)).getD (.int kd n) = .int kd n := by rw [Array.getElem?_eq_getElem hp']; simp [hkey]
   simp only [Nat.zero_add] at f1
   simp [Instr.mapUpdate, Sem.run_bind, run_underlying ht, hg W hm, checkKey_int h3, Instr.findKey, run_underlying h3, f1, hs W hm, hopt, hks]
  ·rw [hlist]; exact (f3 v).1
  ·rw [hlist]; exact (f3 v).2 q
theorem AtE.mapGet (j : Nat) {b c : Nat} {es : Array MapEntry} {kt et : TypeId} {kd : IntKind} {n : Int} {z : Value} (u : Value)
  (h : (asLookup P nt k e, mapL L j, P.underlying kt, (infoZ P et).map (·.1)) = (some (some (.map kt et), .map (some b), .int kd n, false), some (b, es, c), some (.int kd), some (some z))) (hi : intKeys kd es.toList = true)
  (hu : (entryI kd n es.toList).getD z = u) (hn : AtE P f nt (nextK k) (putE e (curDst nt k e) u) L S w0 R) : AtE P f nt k e L S w0 R := by
 simp only [Prod.mk.injEq] at h
 obtain ⟨h1, h2, h3, h4⟩ := h
 obtain ⟨o, t, hc, ht, ho⟩ := asLookup_spec h1
 have hj := mapL_spec h2
 refine AtE.op hc fun W hm => ?_
 have hb : W.heap[b]? = some (.map es c) := hm.here _ (List.mem_of_getElem? hj)
 refine ⟨u, W, ?_, fun tm hk => hn tm W (by simpa only [curDst, hc] using hk) hm⟩
 rw [ho, Sem.run_bind, lookup_run ht h3 h4 hb hi, ← hu]
 cases entryI kd n es.toList <;> rfl
end
section
open Go Go.RowKit
abbrev IV (n : Int) : Value := .int .i64 n
abbrev SO (B : Nat) : Option Addr := some ⟨B, 0, none⟩
abbrev PP (B : Nat) : Value := .pointer (some ⟨B, 0, none⟩)
abbrev OA : Type := Option Addr
abbrev BA : Type := ByteArray
def pthG : Nat → Nat → List Nat → List Nat
 | 0, _, a => a
 | g + 1, n, a => bif Nat.ble n 1 then a else pthG g (n / 2) (n % 2 :: a)
def kst : Code → List Nat → List Item → List Item
 | .seq a b, i :: r, k => match i with | 0 => kst a r (.code b :: k) | _ => kst b r k
 | .cond _ a b, i :: r, k => match i with | 0 => kst a r k | _ => kst b r k
 | .block id b, _ :: r, k => kst b r (.inBlock id :: k)
 | .loop b, _ :: r, k => kst b r (.inLoop b :: k)
 | .scope b, _ :: r, k => kst b r (.inScope b :: k)
 | _, _, k => k
abbrev KS (fn : Func) (n : Nat) : List Item := kst (body fn) (pthG 99 n []) []
abbrev SB (fn : Func) (n : Nat) : Code := sub (body fn) (pthG 99 n [])
abbrev KC (fn : Func) (n : Nat) : List Item := .code (SB fn n) :: KS fn n
abbrev KR (fn : Func) (n : Nat) (l : List Nat) : List Item := .inRegion (regOps [.code (SB fn n)]) l :: KS fn n
variable {P : Program} {f nt : Nat} {k : List Item} {e : Env} {L : SHeap} {S : List Nat} {w0 : World} {R : Goal P}
theorem AtE.nm (k' : List Item) (e' : Env) (L' : SHeap) (hn : AtE P f nt k' e' L' S w0 R) (h : (k, restrict e (e'.map (·.1)), L) = (k', some e', L') := by kernel_rfl) : AtE P f nt k e L S w0 R := AtE.norm hn h
def ldT (nt : Nat) (k : List Item) (e : Env) : TypeId := match asLoad nt k e with | some (T, _) => T | none => 0
def ldV (P : Program) (nt : Nat) (k : List Item) (e : Env) (L : SHeap) (j off : Nat) : Value := (valAt P (ldT nt k e) (cellsL L j) off).getD undef
def ldB (P : Program) (nt : Nat) (k : List Item) (e : Env) (L : SHeap) (j off : Nat) : Bool := isCellsL L j && (valAt P (ldT nt k e) (cellsL L j) off).isSome
theorem ld_h {j off : Nat} (ha : asLoad nt k e = some (ldT nt k e, .pointer (some ⟨blkL L j, off, none⟩))) (hb : ldB P nt k e L j off = true) :
  (asLoad nt k e, isCellsL L j, valAt P (ldT nt k e) (cellsL L j) off) = (some (ldT nt k e, .pointer (some ⟨blkL L j, off, none⟩)), true, some (ldV P nt k e L j off)) := by
 unfold ldB at hb
 rw [Bool.and_eq_true] at hb
 obtain ⟨v, hv⟩ := Option.isSome_iff_exists.1 hb.2
 rw [ha, hb.1, ldV, hv]; rfl
theorem AtE.ld (j off : Nat) (hn : AtE P f nt (nextK k) (putE e (curDst nt k e) (ldV P nt k e L j off)) L S w0 R) (ha : asLoad nt k e = some (ldT nt k e, .pointer (some ⟨blkL L j, off, none⟩)) := by kernel_rfl) (hb : ldB P nt k e L j off = true := by kernel_rfl) : AtE P f nt k e L S w0 R := AtE.load j off (ld_h ha hb) hn
theorem AtF.ld {K : Env → Prop} (j off : Nat) (hn : AtF P nt (nextK k) (putE e (curDst nt k e) (ldV P nt k e L j off)) L S w0 K) (ha : asLoad nt k e = some (ldT nt k e, .pointer (some ⟨blkL L j, off, none⟩)) := by kernel_rfl) (hb : ldB P nt k e L j off = true := by kernel_rfl) : AtF P nt k e L S w0 K := AtF.load j off (ld_h ha hb) hn
theorem AtQ.ld {ops : Array Oper} {nq : Nat} {kk : List Item} (j off : Nat) (hn : AtQ P f nt ops nq kk (nextK k) (putE e (curDst nt k e) (ldV P nt k e L j off)) L S w0 R) (ha : asLoad nt k e = some (ldT nt k e, .pointer (some ⟨blkL L j, off, none⟩)) := by kernel_rfl) (hb : ldB P nt k e L j off = true := by kernel_rfl) : AtQ P f nt ops nq kk k e L S w0 R := AtQ.load j off (ld_h ha hb) hn
def stT (nt : Nat) (k : List Item) (e : Env) : TypeId := match asStore nt k e with | some (T, _) => T | none => 0
def stV (nt : Nat) (k : List Item) (e : Env) : Value := match asStore nt k e with | some (_, _, v) => v | none => undef
theorem AtE.st (j off : Nat) (hn : AtE P f nt (nextK k) (putE e (curDst nt k e) undef) (setL L j (putD P (stT nt k e) (cellsL L j) off (stV nt k e))) S w0 R)
  (h : (asStore nt k e, isCellsL L j, fzL L j, putOk P (stT nt k e) (cellsL L j) off (stV nt k e)) = (some (stT nt k e, .pointer (some ⟨blkL L j, off, none⟩), stV nt k e), true, (0, 0), true) := by kernel_rfl) : AtE P f nt k e L S w0 R := AtE.store j off h hn
theorem AtE.cl {g : FuncId} {args : Array Value} {L1 : SHeap} {K : Value → SHeap → Prop} (h : CallH P g args L1 S w0 K) (hn : ∀ v L', K v L' → AtE P f nt (nextK k) (putE e (curDst nt k e) v) L' S w0 R)
  (hr : ∀ W, (execOp (rho e) (curO nt k e)).run P W = .ok (.enter g args) W := by intro W; kernel_rfl) (hc : (cur nt k e, L) = (some (curO nt k e), L1) := by kernel_rfl) : AtE P f nt k e L S w0 R := AtE.call g args hr hc h hn
theorem AtE.sP (i : Nat) {p : Prop} [Decidable p] {A B : Prop} (H : (p → A) ∧ (¬ p → B)) (h1 : A → AtE P f nt k ((i, .bool true) :: e) L S w0 R) (h0 : B → AtE P f nt k ((i, .bool false) :: e) L S w0 R)
  (h : get? e i = some (.bool (decide p)) := by kernel_rfl) : AtE P f nt k e L S w0 R := AtE.splitP i h (fun hp => h1 (H.1 hp)) (fun hp => h0 (H.2 hp))
theorem AtE.sN (i : Nat) {p : Prop} [Decidable p] {A B : Prop} (H : (¬ p → A) ∧ (p → B)) (h1 : A → AtE P f nt k ((i, .bool true) :: e) L S w0 R) (h0 : B → AtE P f nt k ((i, .bool false) :: e) L S w0 R)
  (h : get? e i = some (.bool (!decide p)) := by kernel_rfl) : AtE P f nt k e L S w0 R := AtE.splitN i h (fun hp => h1 (H.1 hp)) (fun hp => h0 (H.2 hp))
theorem AtE.sB (i : Nat) {b : Bool} {A B : Prop} (H : (b = true → A) ∧ (b = false → B)) (h1 : A → AtE P f nt k ((i, .bool true) :: e) L S w0 R) (h0 : B → AtE P f nt k ((i, .bool false) :: e) L S w0 R)
  (h : get? e i = some (.bool b) := by kernel_rfl) : AtE P f nt k e L S w0 R := AtE.split i h (fun hp => h1 (H.1 hp)) (fun hp => h0 (H.2 hp))
theorem AtE.rt {R : Ending → World → Prop} {fn : Func} {v : Value} {L1 : SHeap} (hf : P.funcs[f]? = some fn) (h : Fin R L1 S w0 v) (hv : (isRet k, retV e fn.results.toList, L) = (true, some v, L1) := by kernel_rfl) : AtE P f nt k e L S w0 (nrm R) := AtE.ret hf hv h
theorem AtE.nw (mk : Nat → Value) (o : Obj) (hn : ∀ B, AtE P f nt (nextK k) (putE e (curDst nt k e) (mk B)) (L ++ [(B, o)]) S w0 R)
  (h : ∀ W, (execOp (rho e) (curO nt k e)).run P W = .ok (.value (mk W.heap.size)) { W with heap := W.heap.push o } := by intro W; kernel_rfl) (hc : cur nt k e = some (curO nt k e) := by kernel_rfl) : AtE P f nt k e L S w0 R := AtE.new mk o h hc hn
theorem AtE.np (o : Obj) (hn : ∀ B, AtE P f nt (nextK k) (putE e (curDst nt k e) (.pointer (some ⟨B, 0, none⟩))) (L ++ [(B, o)]) S w0 R)
  (h : ∀ W, (execOp (rho e) (curO nt k e)).run P W = .ok (.value (.pointer (some ⟨W.heap.size, 0, none⟩))) { W with heap := W.heap.push o } := by intro W; kernel_rfl) (hc : cur nt k e = some (curO nt k e) := by kernel_rfl) : AtE P f nt k e L S w0 R := AtE.new (fun B => .pointer (some ⟨B, 0, none⟩)) o h hc hn
theorem AtE.nH (o : Obj) {A : Nat → Prop} (H : ∀ B, A B) (hn : ∀ B, A B → AtE P f nt (nextK k) (putE e (curDst nt k e) (.pointer (some ⟨B, 0, none⟩))) (L ++ [(B, o)]) S w0 R)
  (h : ∀ W, (execOp (rho e) (curO nt k e)).run P W = .ok (.value (.pointer (some ⟨W.heap.size, 0, none⟩))) { W with heap := W.heap.push o } := by intro W; kernel_rfl) (hc : cur nt k e = some (curO nt k e) := by kernel_rfl) : AtE P f nt k e L S w0 R := AtE.np o (fun B => hn B (H B)) h hc
theorem AtE.cs (nt : Nat) {fn : Func} {args : List Value} {W : World} {R : Ending → World → Prop} (hf : P.funcs[f]? = some fn) (hm : Mem L S w0 W)
  (h : AtE P f nt [.code (body fn)] (argsE 0 args) L S w0 (nrm R)) (hb : (fn.body.isSome, fn.ntmps, Nat.ble args.length nt) = (true, nt, true) := by kernel_rfl) : Calls P f ⟨args⟩ W R := AtE.calls hf hb hm h
theorem AtE.lI (i : Nat) {n : Int} {A : Int → Prop} (H : ∀ x, x = n → A x) (hn : ∀ x, A x → AtE P f nt k ((i, .int .i64 x) :: e) L S w0 R) (h : get? e i = some (.int .i64 n) := by kernel_rfl) : AtE P f nt k e L S w0 R :=
 AtE.letI i h fun x hx => hn x (H x hx)
theorem AtE.il (g : FuncId) (args : List Value) (nt' : Nat) {fn : Func} (hf : P.funcs[g]? = some fn) (hn : AtE P g nt' [.code (body fn)] (argsE 0 args) L S w0 (nrm (InlR P f nt (nextK k) e (curDst nt k e) S w0 R)))
  (hr : ∀ W, (execOp (rho e) (curO nt k e)).run P W = .ok (.enter g ⟨args⟩) W := by intro W; kernel_rfl) (hc : cur nt k e = some (curO nt k e) := by kernel_rfl) (hb : (fn.body.isSome, fn.ntmps, Nat.ble args.length nt') = (true, nt', true) := by kernel_rfl) : AtE P f nt k e L S w0 R :=
 AtE.inl g ⟨args⟩ hr hc fun W hm => AtE.calls hf hb hm hn
theorem AtE.rk {f' nt' : Nat} {k' : List Item} {e' : Env} {d : Option Tmp} {fn : Func} (hf : P.funcs[f]? = some fn) (h : AtE P f' nt' k' (putE e' d ((retV e fn.results.toList).getD undef)) L S w0 R)
  (hv : (isRet k, (retV e fn.results.toList).isSome) = (true, true) := by kernel_rfl) : AtE P f nt k e L S w0 (nrm (InlR P f' nt' k' e' d S w0 R)) := by
 simp only [Prod.mk.injEq] at hv
 obtain ⟨v, hr⟩ := Option.isSome_iff_exists.1 hv.2
 rw [hr] at h
 exact AtE.retK hf (by rw [hv.1, hr]; rfl) h
theorem AtE.ct (is : List Nat) {k' : List Item} {e' : Env} {L' : SHeap} (hn : AtE P f nt k' e' L' S w0 R) (h : (k, restrict e (e'.map (·.1)), selL L is, nodupB is) = (k', some e', L', true) := by kernel_rfl) : AtE P f nt k e L S w0 R := AtE.cut is hn h
theorem AtD.nm {ops : Array Oper} {n : Nat} {kk : List Item} (e' : Env) (L' : SHeap) (hn : AtD P f nt ops n kk e' L' S w0 R) (h : (restrict e (e'.map (·.1)), L) = (some e', L') := by kernel_rfl) : AtD P f nt ops n kk e L S w0 R := AtD.norm hn h
theorem AtE.tT (is : List Nat) (m : Nat) {k' : List Item} {e' : Env} {L' : SHeap} (hn : AtE P f nt k' e' L' S w0 R) (h : (k, restrict e (e'.map (·.1)), selL (L.take m) is ++ L.drop m, nodupB is) = (k', some e', L', true) := by kernel_rfl) : AtE P f nt k e L S w0 R := AtE.cutT is m hn h
theorem AtF.dn {K : Env → Prop} (hn : K e) (h : doneK k = true := by kernel_rfl) : AtF P nt k e L S w0 K := AtF.done h hn
section
variable {ops : Array Oper} {n : Nat} {kk : List Item}
theorem AtQ.dn (hn : AtE P f nt (tailK ops n kk) e L S w0 R) (h : k = [.inRegion ops []] := by kernel_rfl) : AtQ P f nt ops n kk k e L S w0 R := AtQ.done h hn
theorem AtE.dr (n : Nat) (h : AtQ P f nt (regOps k) n (restK k) (qK (regOps k) n) e L S w0 R) (hk : (isDraw k, P.follows .mixedOrders, drawB (regOps k) n) = (true, true, true) := by kernel_rfl) : AtE P f nt k e L S w0 R := AtE.draw n hk h
theorem AtE.dD (h : AtD P f nt (regOps k) 0 (restK k) e L S w0 R) (hk : (isDraw k, P.follows .mixedOrders) = (true, true) := by kernel_rfl) : AtE P f nt k e L S w0 R := AtE.drawD hk h
theorem AtD.tl (hn : AtE P f nt (tailK ops n kk) e L S w0 R) (h : Region.seqB .any ops (ops.size - n) n (firstN n ops.size) = true := by kernel_rfl) : AtD P f nt ops n kk e L S w0 R := AtD.tail h hn
theorem AtD.ph {n1 : Nat} (n : Nat) (F M : List Nat) (L0 : SHeap) {L1 : SHeap} (h : AtF P nt [.inRegion ops F] e L0 S w0 fun eF => AtM P f nt ops n kk L0 [.inRegion ops M] eF L S w0 R) (hk : planB ops n1 n e F M = true := by kernel_rfl) (hL : L = L0 ++ L1 := by rfl) : AtD P f nt ops n1 kk e L S w0 R := AtD.phase n F M L0 hk hL h
end
theorem AtF.cl {K : Env → Prop} {g : FuncId} {args : Array Value} {v : Value} {L1 : SHeap} (h : QCallB P g args L1 S w0 v) (hn : AtF P nt (nextK k) (putE e (curDst nt k e) v) L1 S w0 K)
  (hr : ∀ W, (execOp (rho e) (curO nt k e)).run P W = .ok (.enter g args) W := by intro W; kernel_rfl) (hc : (cur nt k e, L) = (some (curO nt k e), L1) := by kernel_rfl) : AtF P nt k e L S w0 K := AtF.call g args hr hc h hn
theorem AtF.sk {K : Env → Prop} (hn : AtF P nt (nextK k) (putE e (skipD nt k e) undef) L S w0 K) (h : skipO nt k e = some (skipD nt k e) := by kernel_rfl) : AtF P nt k e L S w0 K := AtF.skip h hn
section
variable {ops : Array Oper} {n : Nat} {kk : List Item} {L0 : SHeap}
theorem AtQ.sk (hn : AtQ P f nt ops n kk (nextK k) (putE e (skipD nt k e) undef) L S w0 R) (h : skipO nt k e = some (skipD nt k e) := by kernel_rfl) : AtQ P f nt ops n kk k e L S w0 R := AtQ.skip h hn
theorem AtQ.cl {g : FuncId} {args : Array Value} {v : Value} {L1 : SHeap} (h : QCall P g args L1 S w0 v) (hn : AtQ P f nt ops n kk (nextK k) (putE e (curDst nt k e) v) L S w0 R)
  (hr : ∀ W, (execOp (rho e) (curO nt k e)).run P W = .ok (.enter g args) W := by intro W; kernel_rfl) (hc : (cur nt k e, L) = (some (curO nt k e), L1) := by kernel_rfl) : AtQ P f nt ops n kk k e L S w0 R := AtQ.call g args hr hc h hn
theorem AtM.cl {L1 : SHeap} {g : FuncId} {args : Array Value} {L2 : SHeap} {K : Value → SHeap → Prop} (h : CallH P g args L2 S w0 K) (hn : ∀ v L', K v L' → AtM P f nt ops n kk L0 (nextK k) (putE e (curDst nt k e) v) L' S w0 R) (hl : L = L0 ++ L1 := by rfl)
  (hr : ∀ W, (execOp (rho e) (curO nt k e)).run P W = .ok (.enter g args) W := by intro W; kernel_rfl) (hc : (cur nt k e, L) = (some (curO nt k e), L2) := by kernel_rfl) : AtM P f nt ops n kk L0 k e L S w0 R := AtM.call L1 g args hl hr hc h hn
theorem AtM.dn {L1 : SHeap} (hn : AtD P f nt ops n kk e L S w0 R) (h : k = [.inRegion ops []] := by kernel_rfl) (hl : L = L0 ++ L1 := by rfl) : AtM P f nt ops n kk L0 k e L S w0 R := AtM.done L1 h hl hn
end
abbrev Br (p A B : Prop) : Prop := (p → A) ∧ (¬ p → B)
abbrev Bn (p A B : Prop) : Prop := (¬ p → A) ∧ (p → B)
abbrev Bb (b : Bool) (A B : Prop) : Prop := (b = true → A) ∧ (b = false → B)
end
open Go Go.RowKit
theorem wi64 {x : Int} (h : -9223372036854775808 ≤ x ∧ x ≤ 9223372036854775807) : IntKind.i64.wrap x = x := by rw [IntKind.wrap_i64]; omega
theorem wu64 {x : Int} (h : 0 ≤ x ∧ x < 18446744073709551616) : IntKind.u64.wrap x = x := by rw [IntKind.wrap_u64]; omega
theorem wu32 {x : Int} (h : 0 ≤ x ∧ x < 4294967296) : IntKind.u32.wrap x = x := by rw [IntKind.wrap_u32]; omega
theorem ofInt_nat (n x : Nat) : (BitVec.ofInt n (x : Int)).toNat = x % 2 ^ n := by
 rw [BitVec.toNat_ofInt, ← Int.natCast_emod, Int.toNat_natCast]
theorem ior64 {x y : Nat} (hx : x < 2 ^ 64) (hy : y < 2 ^ 64) : ior .u64 (x : Int) (y : Int) = ((x ||| y : Nat) : Int) := by
 have h : x ||| y < 2 ^ 64 := Nat.or_lt_two_pow hx hy
 have e1 : x % 2 ^ 64 = x := Nat.mod_eq_of_lt (by omega)
 have e2 : y % 2 ^ 64 = y := Nat.mod_eq_of_lt (by omega)
 have e : (BitVec.ofInt 64 (x : Int) ||| BitVec.ofInt 64 (y : Int)).toNat = x ||| y := by
  rw [BitVec.toNat_or, ofInt_nat, ofInt_nat, e1, e2]
 show IntKind.u64.wrap ((BitVec.ofInt 64 (x : Int) ||| BitVec.ofInt 64 (y : Int)).toNat : Int) = _
 rw [e, wu64 (by omega)]
theorem ixor32 {x y : Nat} (hx : x < 2 ^ 32) (hy : y < 2 ^ 32) : ixor .u32 (x : Int) (y : Int) = ((x ^^^ y : Nat) : Int) := by
 have h : x ^^^ y < 2 ^ 32 := Nat.xor_lt_two_pow hx hy
 have e1 : x % 2 ^ 32 = x := Nat.mod_eq_of_lt (by omega)
 have e2 : y % 2 ^ 32 = y := Nat.mod_eq_of_lt (by omega)
 have e : (BitVec.ofInt 32 (x : Int) ^^^ BitVec.ofInt 32 (y : Int)).toNat = x ^^^ y := by
  rw [BitVec.toNat_xor, ofInt_nat, ofInt_nat, e1, e2]
 show IntKind.u32.wrap ((BitVec.ofInt 32 (x : Int) ^^^ BitVec.ofInt 32 (y : Int)).toNat : Int) = _
 rw [e, wu32 (by omega)]
theorem or_add {z w m : Nat} (hz : z < 2 ^ m) : z ||| w * 2 ^ m = z + w * 2 ^ m := by
 have := Nat.two_pow_add_eq_or_of_lt hz w
 rw [Nat.or_comm, Nat.mul_comm, ← this]; omega
theorem tmod_nat (x m : Nat) : ((x : Int).tmod (m : Int)) = ((x % m : Nat) : Int) := (Int.ofNat_tmod x m).symm
theorem tdiv_nat (x m : Nat) : ((x : Int).tdiv (m : Int)) = ((x / m : Nat) : Int) := (Int.ofNat_tdiv x m).symm
theorem fdiv_nat (x m : Nat) : ((x : Int).fdiv (m : Int)) = ((x / m : Nat) : Int) := by
 rw [Int.fdiv_eq_ediv_of_nonneg _ (by omega)]; simp
theorem bat_get {s : ByteArray} {i : Nat} (h : i < s.data.toList.length) : bat s (i : Int) = ((s.data.toList[i]).toNat : Int) := by
 simp only [bat, Int.toNat_natCast, List.getElem?_eq_getElem h, Option.getD_some]
theorem blkW_kept {S : List Nat} {w0 W : World} {b : Nat} {c : List Value} (h : Kept S w0 W) (hb : b ∉ S) (hc : blkW w0 b = some c) : blkW W b = some c := by
 have hlt : b < w0.heap.size := by
  rcases Nat.lt_or_ge b w0.heap.size with h | h
  ·exact h
  ·rw [blkW, Array.getElem?_eq_none h] at hc; cases hc
 rw [blkW, h.block b hlt hb]; exact hc
def PureG (P : Program) (g : FuncId) (args : Array Value) (b : Nat) (c : List Value) (v : Value) : Prop :=
 ∀ W, blkW W b = some c → Calls P g args W fun e W' => e = .returned v ∧ Below W.heap.size W W'
theorem CallH.pureG {P : Program} {L : SHeap} {S : List Nat} {w0 : World} {g : FuncId} {args : Array Value} {v : Value} {K : Value → SHeap → Prop} {b : Nat} {c : List Value}
  (h : PureG P g args b c v) (hb : b ∉ S) (hc : blkW w0 b = some c) (hK : K v L) : CallH P g args L S w0 K :=
 fun W hm => (h W (blkW_kept hm.kept hb hc)).mono fun _ _ hh => ⟨v, L, hh.1, hm.after hh.2, hK⟩
theorem yes {p A B : Prop} (h : p) (a : A) : (p → A) ∧ (¬ p → B) := ⟨fun _ => a, fun n => absurd h n⟩
theorem no {p A B : Prop} (h : ¬ p) (a : A) : (p → B) ∧ (¬ p → A) := ⟨fun n => absurd n h, fun _ => a⟩
theorem tt {b : Bool} {A B : Prop} (h : b = true) (a : A) : (b = true → A) ∧ (b = false → B) := ⟨fun _ => a, fun n => Bool.noConfusion (h.symm.trans n)⟩
open Go.ChangeShapes Go.WideShapes
theorem trodAll_below {H : Type} {enc : TypeId × Value → H} {P : Program} {W W' : World} (hl : laidOutB P = true) (hb : Below W.heap.size W W') :
  ∀ (ts : List TypeId) (vs : List Value) (ds : List (DataW H)) (p : List MemPlace), ts.all (fun t => P.readableRec t && decide (t < P.types.size)) = true → (∀ x ∈ p, x.block < W.heap.size) →
  DataW.TrodAll enc P W 0 (fun _ => true) true ts vs ds p → DataW.TrodAll enc P W' 0 (fun b => decide (b < W.heap.size)) true ts vs ds p
 | [], vs, ds, p, _, _, h => by
  obtain ⟨rfl, rfl, rfl⟩ := trodAll_nil h
  exact trodAll_mk0
 | t :: ts, vs, ds, p, ht, hlt, h => by
  obtain ⟨v, vs', d, ds', p1, q, rfl, rfl, rfl, h1, h2⟩ := trodAll_cons h
  simp only [List.all_cons, Bool.and_eq_true, decide_eq_true_eq] at ht
  exact trodAll_cons_mk (Below.trod hl ht.1.1 ht.1.2 h1 hb (fun x hx => hlt x (List.mem_append_left _ hx))) (trodAll_below hl hb ts vs' ds' q ht.2 (fun x hx => hlt x (List.mem_append_right _ hx)) h2)
theorem law_lift {H : Type} {enc : TypeId × Value → H} {C : Checked} {os : Os} {f : FuncId} {fn : Func} {s : ChangeSpec} {apart : Bool} {X : World → Prop} {tb : TypeId}
  (own : ownKnob C.prog.godebug = none) (started : os.Started) (noInit : C.prog.inits.idxOf? f = none) (hfn : C.prog.funcs[f]? = some fn)
  (hX : ∀ (w w' : World), w.heap = w'.heap → X w → X w')
  (witness : ∃ (w : World) (tape : Tape) (i : Input), w.os = os ∧ (w.forCall tape i).Shaped C.prog ∧ i.vars = [] ∧ Input.okWide C.prog (w.forCall tape i) .any w.heap.size f i ∧
   ((s.pre enc C.prog fn [] apart (w.forCall tape i).memory i.args ∧ X (w.forCall tape i).memory) ∧ sizedMet enc C.prog fn (OpenSpec.ofChange s) apart (w.forCall tape i).memory i.args) ∧ ({} : Assume).holds C.prog (lone (Frame.enter C.prog f i.args .normal) [] (w.forCall tape i)))
  (hv : s.vars = []) (hs : ∀ ds : List (DataW H), ds.length = fn.params.toList.length → s.fn H ds = { results := [.lit (.bool true)], args := ds })
  (hres : fn.resultTypes = #[tb]) (hb : C.prog.underlying tb = some .bool) (hlo : laidOutB C.prog = true) (hread : fn.params.toList.all (fun t => C.prog.readableRec t && decide (t < C.prog.types.size)) = true)
  (walk : ∀ (W : World) (base : Nat) (args : List Value) (ds : List (DataW H)) (p : List MemPlace), (∀ (j : Nat) t v, fn.params[j]? = some t → args[j]? = some v → Value.okWide C.prog W .any base t v) →
   DataW.TrodAll enc C.prog W 0 (fun _ => true) true fn.params.toList args ds p → X W → Calls C.prog f ⟨args⟩ W fun e W' => e = .returned (.bool true) ∧ Below W.heap.size W W') :
  ReturnsInHanded {} C os f .any (fun w args => (s.pre enc C.prog fn [] apart w args ∧ X w) ∧ sizedMet enc C.prog fn (OpenSpec.ofChange s) apart w args)
   (s.post enc C.prog fn apart true false false) := by
 refine returnsInHanded_of_change_and (C := C) (X := fun w _ => X w) (fun _ _ _ hh h => hX _ _ hh h) own started noInit hfn witness ?_
 intro W base args ds gs before hval hW hcnd _ hL _
 have hW' := hW
 obtain ⟨p, q, hA, hV, rfl, hfz, hnd⟩ := hW
 rw [hv] at hV
 obtain ⟨rfl, rfl⟩ := trodVars_none hV
 have hlen : ds.length = fn.params.toList.length := by
  have : ∀ (ts : List TypeId) (vs : List Value) (ds : List (DataW H)) (p : List MemPlace), DataW.TrodAll enc C.prog W 0 (fun _ => true) true ts vs ds p → ds.length = ts.length := by
   intro ts
   induction ts with
   | nil => intro vs ds p h; obtain ⟨_, rfl, _⟩ := trodAll_nil h; rfl
   | cons t ts ih => intro vs ds p h; obtain ⟨v, vs', d, ds', p1, q, rfl, rfl, rfl, h1, h2⟩ := trodAll_cons h; simp [ih _ _ _ h2]
  exact this _ _ _ _ hA
 have hlt : ∀ x ∈ p, x.block < W.heap.size := fun x hx => hW'.lt x (List.mem_append_left _ hx)
 have harg : (⟨args.toList⟩ : Array Value) = args := rfl
 refine ((harg ▸ walk W base args.toList ds p (fun j t v h1 h2 => hval j t v h1 (by simpa using h2)) hA hL)).mono fun e W' hh => ?_
 obtain ⟨he, hbel⟩ := hh
 subst he
 have hsf : s.fn H (ds ++ []) = { results := [.lit (.bool true)], args := ds } := by rw [List.append_nil]; exact hs ds hlen
 refine ⟨_, rfl, ds, [], p ++ [], [], p, [], hW', ?_, ?_, ?_, hbel.frame _, fun h => by cases h⟩
 ·rw [hsf, hres]
  exact trodAll_mk1 (shut_bool hb true)
 ·rw [hsf]
  exact trodAll_below hlo hbel _ _ _ _ hread hlt hA
 ·rw [hsf, hv]; rfl
theorem trod_ints {H : Type} {enc : TypeId × Value → H} {P : Program} {w : World} {base : Nat} {sp : Nat → Bool} {held : Bool} {fuel : Nat} {t e : TypeId} {kd : IntKind} {cs : List Value} {ns : List Int} {ps : List MemPlace}
  (ht : P.underlying t = some (.array ns.length e)) (he : P.underlying e = some (.int kd)) (hc : P.cellsOf e = 1) (hct : P.cellsOf t = ns.length)
  (h : DataW.trod enc P w base sp held fuel t cs = some (.agg (ns.map fun n => .lit (.int kd n)), ps)) : cs = ns.map fun n => .int kd n := by
 obtain ⟨xs, m, rfl, hx, hl, hxl, hi⟩ := DataW.trod_array ht h
 simp only [Prod.mk.injEq, DataW.agg.injEq] at hx
 rw [hct] at hl
 apply List.ext_getElem?
 intro i
 by_cases hlt : i < ns.length
 ·have h1 := hi i hlt
  rw [hc, Nat.mul_one] at h1
  have hix : i < xs.length := by rw [hxl]; exact hlt
  rw [List.getElem?_eq_getElem hix] at h1
  obtain ⟨n, hcs, hxi, _⟩ := DataW.trod_int he h1
  have hget : (xs.map (·.1))[i]? = some (.lit (.int kd n)) := by rw [List.getElem?_map, List.getElem?_eq_getElem hix, Option.map_some, hxi]
  rw [← hx.1, List.getElem?_map, List.getElem?_eq_getElem hlt, Option.map_some] at hget
  simp only [Option.some.injEq, DataW.lit.injEq, Lit.int.injEq, true_and] at hget
  have h3 : cs[i]? = some (.int kd n) := by
   have : ((cs.drop i).take 1)[0]? = some (.int kd n) := by rw [hcs]; rfl
   rw [List.getElem?_take_of_lt (by decide), List.getElem?_drop] at this
   simpa using this
  rw [h3, List.getElem?_map, List.getElem?_eq_getElem hlt, Option.map_some, hget]
 ·rw [List.getElem?_eq_none (by omega), List.getElem?_eq_none (by simp; omega)]
section
open Go.ChangeMaps
variable {H : Type} {enc : TypeId × Value → H} {P : Program} {w : World} {base : Nat} {sp : Nat → Bool} {held : Bool}
theorem cellsAt {W : World} {a : Addr} {n : Nat} {g : Nat → Value} (h : ∀ i, i < n → W.cell? (a.add i) = some (g i)) (hn : 0 < n) :
  ∃ c : List Value, a = ⟨a.block, a.off, none⟩ ∧ blkW W a.block = some c ∧ ∀ i, i < n → c[a.off + i]? = some (g i) := by
 have h0 := h 0 hn
 have ha : a.add 0 = a := if_pos rfl
 rw [ha] at h0
 unfold World.cell? at h0
 split at h0
 ·next c t fz hh =>
  have hsp : a.spot = none := by
   cases hs : a.spot with
   | none => rfl
   | some x => rw [hs] at h0; simp at h0
  refine ⟨c.toList, by cases a; simp at hsp; rw [hsp], by rw [blkW, hh], fun i hi => ?_⟩
  have hi' := h i hi
  unfold World.cell? at hi'
  have hb : (a.add i).block = a.block := by unfold Addr.add; split <;> rfl
  have ho : (a.add i).off = a.off + i := by unfold Addr.add; split <;> simp_all
  have hs : (a.add i).spot = none := by unfold Addr.add; split <;> simp_all
  rw [hb, hh, hs] at hi'
  simp only [Option.isSome_none, Bool.false_eq_true, if_false, ho] at hi'
  rw [Array.getElem?_toList]; exact hi'
 ·cases h0
end
section
open Go.ChangeMaps
abbrev Lk := Nat → List Value → Prop
def lkW (w : World) : Lk := fun b c => blkW w b = some c
def SlAt {α : Type} (lk : Lk) (sz : Nat) (Φ : List Value → α → Prop) (p : Option Addr) (l : List α) : Prop :=
 0 < l.length → ∃ (b o : Nat) (c : List Value), p = some ⟨b, o, none⟩ ∧ lk b c ∧ ∀ i (h : i < l.length), o + i * sz + sz ≤ c.length ∧ Φ ((c.drop (o + i * sz)).take sz) l[i]
theorem SlAt.get {α : Type} {lk : Lk} {sz : Nat} {Φ : List Value → α → Prop} {p : Option Addr} {l : List α} (h : SlAt lk sz Φ p l) {i : Nat} (hi : i < l.length) :
  ∃ (b o : Nat) (c : List Value), p = some ⟨b, o, none⟩ ∧ lk b c ∧ o + i * sz + sz ≤ c.length ∧ Φ ((c.drop (o + i * sz)).take sz) l[i] := by
 obtain ⟨b, o, c, h1, h2, h3⟩ := h (by omega)
 exact ⟨b, o, c, h1, h2, (h3 i hi).1, (h3 i hi).2⟩
theorem SlAt.nil {α : Type} {lk : Lk} {sz : Nat} {Φ : List Value → α → Prop} {p : Option Addr} : SlAt lk sz Φ p [] := fun h => absurd h (by simp)
theorem cellsB {w : World} {a : Addr} {n : Nat} {cs : List Value} (hn : 0 < n) (h : w.cells? 0 a n = some cs) :
  ∃ c : List Value, a = ⟨a.block, a.off, none⟩ ∧ blkW w a.block = some c ∧ a.off + n ≤ c.length ∧ cs = (c.drop a.off).take n := by
 obtain ⟨_, hl, hg⟩ := World.cells?_some h
 have hall : ∀ i, i < n → w.cell? (a.add i) = some ((fun i => (cs[i]?).getD (.bool false)) i) := by
  intro i hi
  rw [hg i hi]
  simp only
  rw [List.getElem?_eq_getElem (by omega), Option.getD_some]
 obtain ⟨c, h1, h2, h3⟩ := cellsAt hall hn
 refine ⟨c, h1, h2, ?_, ?_⟩
 ·have := h3 (n - 1) (by omega)
  have := (List.getElem?_eq_some_iff.1 this).1
  omega
 ·apply List.ext_getElem?
  intro i
  by_cases hi : i < n
  ·rw [List.getElem?_take_of_lt hi, List.getElem?_drop, h3 i hi]
   rw [List.getElem?_eq_getElem (by omega), Option.getD_some]
  ·rw [List.getElem?_eq_none (by omega), List.getElem?_eq_none (by simp; omega)]
theorem add_off (a : Addr) (j : Nat) : (a.add j).off = a.off + j := by
 unfold Addr.add; split <;> simp_all
def Opn {H : Type} (enc : TypeId × Value → H) (P : Program) (w : World) (t : TypeId) {α : Type} (Φ : List Value → α → Prop) : Prop :=
 ∀ fuel cs x, DataW.trod enc P w 0 (fun _ => true) true fuel t cs = some x → ∃ a, Φ cs a
variable {H : Type} {enc : TypeId × Value → H} {P : Program} {w : World} {t e : TypeId}
def intP (kd : IntKind) (cs : List Value) (n : Int) : Prop := cs = [.int kd n] ∧ (Lit.int kd n).wf = true
def strP (cs : List Value) (s : ByteArray) : Prop := cs = [.string s] ∧ s.size ≤ maxLen
def sliceP {α : Type} (lk : Lk) (sz : Nat) (Φ : List Value → α → Prop) (cs : List Value) (l : List α) : Prop :=
 ∃ (p : Option Addr) (n c : Nat), cs = [.slice p n c] ∧ l.length = n ∧ n ≤ c ∧ c ≤ maxLen ∧ (p = none → n = 0 ∧ c = 0) ∧ SlAt lk sz Φ p l
theorem opn_int {kd : IntKind} (ht : P.underlying t = some (.int kd)) : Opn enc P w t (intP kd) := by
 intro fuel cs x h
 obtain ⟨n, rfl, _, hw⟩ := DataW.trod_int ht h
 exact ⟨n, rfl, hw⟩
theorem opn_string (ht : P.underlying t = some .string) : Opn enc P w t strP := by
 intro fuel cs x h
 obtain ⟨s, rfl, _, hs⟩ := DataW.trod_string ht h
 exact ⟨s, rfl, hs⟩
theorem choose_list {α : Type} {Q : Nat → α → Prop} : ∀ n : Nat, (∀ i, i < n → ∃ a, Q i a) → ∃ l : List α, l.length = n ∧ ∀ i (h : i < l.length), Q i l[i]
 | 0, _ => ⟨[], rfl, fun i h => absurd h (by simp)⟩
 | n + 1, h => by
  obtain ⟨l, hl, hq⟩ := choose_list n (fun i hi => h i (by omega))
  obtain ⟨a, ha⟩ := h n (by omega)
  refine ⟨l ++ [a], by simp [hl], fun i hi => ?_⟩
  by_cases hc : i < l.length
  ·rw [List.getElem_append_left hc]; exact hq i hc
  ·have : i = n := by simp at hi; omega
   subst this
   rw [List.getElem_append_right (by omega)]
   simpa [hl] using ha
theorem opn_slice {α : Type} {Φ : List Value → α → Prop} {sz : Nat} (ht : P.underlying t = some (.slice e)) (hc : P.cellsOf e = sz) (hp : 0 < sz) (he : Opn enc P w e Φ) : Opn enc P w t (sliceP (lkW w) sz Φ) := by
 intro fuel cs x h
 rcases DataW.trod_slice ht h with ⟨rfl, _⟩ | ⟨a, len, cap, elems, rest, n, _, rfl, _, _, hl, hm, hlen, hel, _, _⟩
 ·exact ⟨[], none, 0, 0, rfl, rfl, Nat.le_refl _, Nat.zero_le _, fun _ => ⟨rfl, rfl⟩, SlAt.nil⟩
 ·rw [hc] at hel
  have each : ∀ i, i < len → ∃ y, ∃ c : List Value, (a.add (i * sz)) = ⟨a.block, a.off + i * sz, none⟩ ∧ blkW w a.block = some c ∧ a.off + i * sz + sz ≤ c.length ∧ Φ ((c.drop (a.off + i * sz)).take sz) y := by
   intro i hi
   have h1 := hel i hi
   rw [List.getElem?_eq_getElem (by omega), Option.bind_eq_some_iff] at h1
   obtain ⟨cs', h2, h3⟩ := h1
   obtain ⟨c, e1, e2, e3, rfl⟩ := cellsB hp h2
   have hb : (a.add (i * sz)).block = a.block := by unfold Addr.add; split <;> rfl
   have ho : (a.add (i * sz)).off = a.off + i * sz := add_off a _
   rw [hb, ho] at e1
   rw [hb] at e2
   rw [ho] at e3 h3
   obtain ⟨y, hy⟩ := he _ _ _ h3
   exact ⟨y, c, e1, e2, e3, hy⟩
  obtain ⟨l, hll, hq⟩ := choose_list len each
  refine ⟨l, some a, len, cap, rfl, hll, hl, hm, (fun h => by cases h), fun hpos => ?_⟩
  obtain ⟨c, e1, e2, _, _⟩ := hq 0 hpos
  have hsp : a = ⟨a.block, a.off, none⟩ := by
   have h0 : a.add 0 = a := by simp [Addr.add]
   rw [Nat.zero_mul, h0] at e1
   exact e1
  refine ⟨a.block, a.off, c, by rw [← hsp], e2, fun i hi => ?_⟩
  obtain ⟨c', _, f2, f3, f4⟩ := hq i hi
  have : c' = c := by rw [e2] at f2; exact (Option.some.inj f2).symm
  subst this
  exact ⟨f3, f4⟩
theorem opn_fields {fs : Array Field} {fuel : Nat} {cs : List Value} {x : DataW H × List MemPlace} (ht : P.underlying t = some (.struct fs)) (h : DataW.trod enc P w 0 (fun _ => true) true fuel t cs = some x) :
  cs.length = P.cellsOf t ∧ ∀ (i : Nat) (f : Field), fs[i]? = some f → ∀ {α : Type} {Φ : List Value → α → Prop}, Opn enc P w f.type Φ → ∃ a, Φ ((cs.drop f.offset).take (P.cellsOf f.type)) a := by
 obtain ⟨xs, n, _, _, hl, hxl, hf⟩ := DataW.trod_struct ht h
 refine ⟨hl, fun i f hi α Φ ho => ?_⟩
 have h1 := hf i f hi
 have hlt : i < fs.size := (Array.getElem?_eq_some_iff.1 hi).1
 rw [List.getElem?_eq_getElem (by omega)] at h1
 exact ho _ _ _ h1
theorem opn_len {fs : Array Field} {fuel : Nat} {cs : List Value} {x : DataW H × List MemPlace} (ht : P.underlying t = some (.struct fs)) (h : DataW.trod enc P w 0 (fun _ => true) true fuel t cs = some x) {n : Nat} (hn : P.cellsOf t = n) : cs.length = n := by
 rw [← hn]; exact (opn_fields ht h).1
theorem opn_field {fs : Array Field} {fuel : Nat} {cs : List Value} {x : DataW H × List MemPlace} (ht : P.underlying t = some (.struct fs)) (h : DataW.trod enc P w 0 (fun _ => true) true fuel t cs = some x) (i tf off n : Nat)
  (hi : (fs[i]?).map (fun f => (f.type, f.offset)) = some (tf, off)) (hn : P.cellsOf tf = n) {α : Type} {Φ : List Value → α → Prop} (ho : Opn enc P w tf Φ) : ∃ a, Φ ((cs.drop off).take n) a := by
 cases hf : fs[i]? with
 | none => rw [hf] at hi; cases hi
 | some f =>
  rw [hf] at hi
  simp only [Option.map_some, Option.some.injEq, Prod.mk.injEq] at hi
  obtain ⟨rfl, rfl⟩ := hi
  subst hn
  exact (opn_fields ht h).2 i f hf ho
theorem open_slice {α : Type} {Φ : List Value → α → Prop} {r : Reach} {b0 : Nat} {v : Value} {d : DataW H} {ps : List MemPlace} {sz : Nat} (ht : P.underlying t = some (.slice e)) (hc : P.cellsOf e = sz) (hp : 0 < sz) (he : Opn enc P w e Φ)
  (hval : Value.okWide P w r b0 t v) (hd : DataW.Trod enc P w 0 (fun _ => true) true t v d ps) :
  ∃ (l : List α) (p : Option Addr) (c : Nat), v = .slice p l.length c ∧ l.length ≤ c ∧ c ≤ maxLen ∧ (p = none → l.length = 0 ∧ c = 0) ∧ SlAt (lkW w) sz Φ p l := by
 obtain ⟨p, n, c, rfl⟩ := okWide_slice ht hval
 obtain ⟨fuel, hf⟩ := hd
 obtain ⟨l, p', n', c', h1, h2, h3, h4, h5, h6⟩ := opn_slice ht hc hp he _ _ _ hf
 simp only [Value.cells, List.cons.injEq, Value.slice.injEq, and_true] at h1
 obtain ⟨rfl, rfl, rfl⟩ := h1
 exact ⟨l, p, c, by rw [h2], by omega, h4, by rw [h2]; exact h5, h6⟩
end
structure Lab where
 unt : Int
 after : List Int
 appr : Int
 den : Int
deriving DecidableEq
structure Blk where
 id : Int
 kind : Int
 text : BA
 story : Int
 ref : Int
 lab : Lab
deriving DecidableEq
structure Fct where
 n : Int
 time : Int
 kind : Int
 story : Int
 lang : BA
 rev : Int
 base : Int
 title : BA
 author : BA
 topics : List BA
 blocks : List Blk
 lab : Lab
 editor : Int
 block : Int
 sentence : Int
 text : BA
 name : BA
 partner : Int
 cls : Int
 unt : Int
deriving DecidableEq
abbrev Fct.cells (f : Fct) (tp : OA) (tc : Nat) (bp : OA) (bc : Nat) (ap : OA) (ac : Nat) : List Value :=
 [.int .i64 f.n, .int .i64 f.time, .int .i64 f.kind, .int .i64 f.story, .string f.lang, .int .i64 f.rev, .int .i64 f.base, .string f.title, .string f.author, .slice tp f.topics.length tc, .slice bp f.blocks.length bc,
  .int .i64 f.lab.unt, .slice ap f.lab.after.length ac, .int .i64 f.lab.appr, .int .i64 f.lab.den, .int .i64 f.editor, .int .i64 f.block, .int .i64 f.sentence, .string f.text, .string f.name, .int .i64 f.partner, .int .i64 f.cls, .int .i64 f.unt]
end Go.Eng
