/- A part of the proof: the engine by which functions are walked, verification conditions that a program of the prover wrote, contracts and plain laws; no claim of its own. -/
import Derived.Test.YtombejccmojjbaaGreatDoorRedA
namespace Go.Eng
open Go Go.RowKit
variable {P : Program} {nt : Nat} {k : List Item} {e : Env} {L : SHeap} {S : List Nat} {w0 : World} {R : Env → Prop}
theorem AtF.split (i : Nat) {b : Bool} (h : get? e i = some (.bool b)) (h1 : b = true → AtF P nt k ((i, .bool true) :: e) L S w0 R)
    (h0 : b = false → AtF P nt k ((i, .bool false) :: e) L S w0 R) : AtF P nt k e L S w0 R := by
  cases b
  · exact AtF.push h (h0 rfl)
  · exact AtF.push h (h1 rfl)
theorem AtF.splitP (i : Nat) {p : Prop} [Decidable p] (h : get? e i = some (.bool (decide p))) (h1 : p → AtF P nt k ((i, .bool true) :: e) L S w0 R)
    (h0 : ¬ p → AtF P nt k ((i, .bool false) :: e) L S w0 R) : AtF P nt k e L S w0 R :=
  AtF.split i h (fun hb => h1 (of_decide_eq_true hb)) (fun hb => h0 (of_decide_eq_false hb))
theorem AtF.splitN (i : Nat) {p : Prop} [Decidable p] (h : get? e i = some (.bool (!decide p))) (h1 : ¬ p → AtF P nt k ((i, .bool true) :: e) L S w0 R)
    (h0 : p → AtF P nt k ((i, .bool false) :: e) L S w0 R) : AtF P nt k e L S w0 R :=
  AtF.split i h (fun hb => h1 (of_decide_eq_false (by simpa using hb))) (fun hb => h0 (of_decide_eq_true (by simpa using hb)))
theorem AtF.splitS (i : Nat) {x y : ByteArray} (h : get? e i = some (.bool (x.toList == y.toList))) (h1 : x = y → AtF P nt k ((i, .bool true) :: e) L S w0 R)
    (h0 : ¬ x = y → AtF P nt k ((i, .bool false) :: e) L S w0 R) : AtF P nt k e L S w0 R :=
  AtF.split i h (fun hb => h1 ((strEq_iff x y).1 hb)) (fun hb => h0 (fun he => by rw [(strEq_iff x y).2 he] at hb; cases hb))
theorem AtF.splitT (i : Nat) {x y : ByteArray} (h : get? e i = some (.bool (!(x.toList == y.toList)))) (h1 : ¬ x = y → AtF P nt k ((i, .bool true) :: e) L S w0 R)
    (h0 : x = y → AtF P nt k ((i, .bool false) :: e) L S w0 R) : AtF P nt k e L S w0 R :=
  AtF.split i h (fun hb => h1 (fun he => by rw [(strEq_iff x y).2 he] at hb; cases hb)) (fun hb => h0 ((strEq_iff x y).1 (by simpa using hb)))
theorem AtF.letI (i : Nat) {kd : IntKind} {n : Int} (h : get? e i = some (.int kd n)) (hn : ∀ x, x = n → AtF P nt k ((i, .int kd x) :: e) L S w0 R) : AtF P nt k e L S w0 R :=
  AtF.push h (hn n rfl)
theorem AtF.letS (i : Nat) {n : ByteArray} (h : get? e i = some (.string n)) (hn : ∀ x, x = n → AtF P nt k ((i, .string x) :: e) L S w0 R) : AtF P nt k e L S w0 R :=
  AtF.push h (hn n rfl)
theorem AtF.indexS {s : ByteArray} {kd : IntKind} {i : Int} (h : asIndex P nt k e = some (some .string, .string s, .int kd i)) (hb : 0 ≤ i ∧ i < s.size)
    (hn : AtF P nt (nextK k) (putE e (curDst nt k e) (.int .u8 (bat s i))) L S w0 R) : AtF P nt k e L S w0 R := by
  unfold asIndex at h
  split at h
  · next o hc =>
    split at h
    · next T x ix ho =>
      simp only [Option.some.injEq, Prod.mk.injEq] at h
      obtain ⟨hT, hx, hi⟩ := h
      refine AtF.opV hc (fun W _ => ?_) hn
      simp only [execOp, ho, hx, hi]
      refine run_lift ?_
      rw [run_index_string _ _ _ _ _ hT, dif_pos hb]
      have hlen : i.toNat < s.data.toList.length := by have : s.size = s.data.size := rfl; simp; omega
      have : (s[i.toNat]'(by omega)) = ((s.data.toList)[i.toNat]?).getD 0 := by
        rw [List.getElem?_eq_getElem hlen]; simp [ByteArray.getElem_eq_getElem_data]
      rw [this]; rfl
    · cases h
  · cases h
theorem AtF.sliceS {s : ByteArray} {lo hi : Option Value} (h : asSlice P nt k e = some (some .string, .string s, lo, hi, none)) {a b : Int}
    (hlo : (∃ kd, lo = some (.int kd a)) ∨ (lo = none ∧ a = 0)) (hhi : (∃ kd, hi = some (.int kd b)) ∨ (hi = none ∧ b = s.size)) (hb : 0 ≤ a ∧ a ≤ b ∧ b ≤ s.size)
    (hn : AtF P nt (nextK k) (putE e (curDst nt k e) (.string (s.extract a.toNat b.toNat))) L S w0 R) : AtF P nt k e L S w0 R := by
  unfold asSlice at h
  split at h
  · next o hc =>
    split at h
    · next T x l2 h2 m2 ho =>
      simp only [Option.some.injEq, Prod.mk.injEq] at h
      obtain ⟨hT, hx, hl, hh, hm⟩ := h
      refine AtF.opV hc (fun W _ => ?_) hn
      simp only [execOp, ho, hx, hl, hh, hm]
      refine run_lift ?_
      rw [run_sliceAt_string _ _ _ _ _ _ hT]
      rcases hlo with ⟨kd, rfl⟩ | ⟨rfl, rfl⟩ <;> rcases hhi with ⟨kd', rfl⟩ | ⟨rfl, rfl⟩
      · exact run_slice_string _ _ _ _ _ _ _ hT hb.1 hb.2.1 hb.2.2
      · rw [run_slice_string_from_if _ _ _ _ _ hT, if_pos ⟨hb.1, hb.2.1⟩]; simp
      · rw [run_slice_string_to_if _ _ _ _ _ hT, if_pos ⟨hb.2.1, hb.2.2⟩]; rfl
      · rw [run_slice_string_all _ _ _ hT]; simp
    · cases h
  · cases h
theorem AtF.concat {x y : ByteArray} (h : asBin nt k e = some (.add, .string x, .string y)) (hb : x.size + y.size ≤ 9223372036854775807)
    (hn : AtF P nt (nextK k) (putE e (curDst nt k e) (.string (x ++ y))) L S w0 R) : AtF P nt k e L S w0 R := by
  obtain ⟨o, T, a, b, U, hc, ho, ha, hb'⟩ := asBin_spec h
  refine AtF.opV hc (fun W _ => ?_) hn
  simp only [execOp, ho, ha, hb']
  refine run_lift ?_
  rw [Sem.run_bind, eqGuard_none _ _ _ _ _ _ (by simp)]
  simp only [Result.andThen, binOp, Op.stringOp]
  rw [if_neg (by show ¬ (((x.size + y.size : Nat) : Int) > 9223372036854775807); omega)]
  rfl
theorem AtF.shl {kd kc : IntKind} {x y : Int} (h : asBin nt k e = some (.shl, .int kd x, .int kc y)) (hb : 0 ≤ y)
    (hn : AtF P nt (nextK k) (putE e (curDst nt k e) (.int kd (kd.wrap (x * 2 ^ (min y.toNat kd.bits))))) L S w0 R) : AtF P nt k e L S w0 R := by
  obtain ⟨o, T, a, b, U, hc, ho, ha, hb'⟩ := asBin_spec h
  refine AtF.opV hc (fun W _ => ?_) hn
  simp only [execOp, ho, ha, hb']
  refine run_lift ?_
  rw [Sem.run_bind, eqGuard_none _ _ _ _ _ _ (by simp)]
  simp only [Result.andThen, binOp, Op.shift]
  rw [if_neg (by omega)]
  rfl
theorem AtF.load (j off : Nat) {T : TypeId} {v : Value} (h : (asLoad nt k e, isCellsL L j, valAt P T (cellsL L j) off) = (some (T, .pointer (some ⟨blkL L j, off, none⟩)), true, some v))
    (hn : AtF P nt (nextK k) (putE e (curDst nt k e) v) L S w0 R) : AtF P nt k e L S w0 R := by
  simp only [Prod.mk.injEq] at h
  obtain ⟨h1, h2, h3⟩ := h
  obtain ⟨o, x, hc, ho, hx⟩ := asLoad_spec h1
  refine AtF.opV hc (fun W hm => ?_) hn
  simp only [execOp, ho, hx]
  exact run_lift (load_run (hm.heapAt h2) h3)
theorem AtF.loadS (j : Nat) {off : Nat} {T : TypeId} {v : Value} {c : List Value} (h : (asLoad nt k e, isCellsL L j, cellsL L j) = (some (T, .pointer (some ⟨blkL L j, off, none⟩)), true, c)) (h3 : valAt P T c off = some v)
    (hn : AtF P nt (nextK k) (putE e (curDst nt k e) v) L S w0 R) : AtF P nt k e L S w0 R := by
  simp only [Prod.mk.injEq] at h
  obtain ⟨h1, h2, h4⟩ := h
  obtain ⟨o, x, hc, ho, hx⟩ := asLoad_spec h1
  refine AtF.opV hc (fun W hm => ?_) hn
  simp only [execOp, ho, hx]
  exact run_lift (load_run (hm.heapAt h2) (h4 ▸ h3))
theorem AtF.loadW {b off : Nat} {T : TypeId} {v : Value} {c : List Value} (h : asLoad nt k e = some (T, .pointer (some ⟨b, off, none⟩))) (hb : b ∉ S) (hc : blkW w0 b = some c) (hv : valAt P T c off = some v)
    (hn : AtF P nt (nextK k) (putE e (curDst nt k e) v) L S w0 R) : AtF P nt k e L S w0 R := by
  obtain ⟨o, x, hcu, ho, hx⟩ := asLoad_spec h
  refine AtF.opV hcu (fun W hm => ?_) hn
  simp only [execOp, ho, hx]
  refine run_lift ?_
  unfold blkW at hc
  split at hc
  · next c' t fz hh =>
    simp at hc; subst hc
    have hlt : b < w0.heap.size := by
      rcases Nat.lt_or_ge b w0.heap.size with h | h
      · exact h
      · rw [Array.getElem?_eq_none h] at hh; cases hh
    refine load_run (t := t) (fz := fz) ?_ hv
    rw [hm.kept.block b hlt hb, hh]
  · cases hc
theorem AtF.indexAddrL {E : TypeId} {b o len cap sz o' : Nat} {kd : IntKind} {i : Int} (h : (asIndexAddr P nt k e, (P.info? E).map (·.size)) = (some (some (.slice E), .slice (some ⟨b, o, none⟩) len cap, .int kd i), some sz))
    (hb : 0 ≤ i ∧ i < len) (ho : o' = o + i.toNat * sz) (hn : AtF P nt (nextK k) (putE e (curDst nt k e) (.pointer (some ⟨b, o', none⟩))) L S w0 R) : AtF P nt k e L S w0 R := by
  simp only [Prod.mk.injEq] at h
  obtain ⟨h1, h2⟩ := h
  obtain ⟨op, T, x, y, hc, hop, hd, hx, hy⟩ := asIndexAddr_spec h1
  cases hq : P.info? E with
  | none => rw [hq] at h2; cases h2
  | some ii =>
    rw [hq] at h2; simp at h2
    refine AtF.opV hc (fun W hm => ?_) hn
    simp only [execOp, hop, hx, hy]
    refine run_lift ?_
    simp only [Instr.indexAt, asIntOf, Sem.run_bind, Sem.run_pure, Result.andThen_ok, run_underlying hd, hb, and_self, if_true, sizeOf, typeInfo, run_program, hq, addr_add, h2, ← ho]
end Go.Eng
namespace Go.Eng
open Go Go.RowKit
variable {P : Program} {f nt : Nat} {k : List Item} {e : Env} {L : SHeap} {S : List Nat} {w0 : World} {G : Goal P}
def asCallV (nt : Nat) (k : List Item) (e : Env) : Option (Value × List Value) :=
  match cur nt k e with
  | some o => match o.op with
    | .call c => match c.callee with
      | .value x => some (rho e x, c.args.toList.map (rho e))
      | _ => none
    | _ => none
  | none => none
theorem asCallV_spec {v : Value} {as : List Value} (h : asCallV nt k e = some (v, as)) :
    ∃ o c x, cur nt k e = some o ∧ o.op = .call c ∧ c.callee = .value x ∧ rho e x = v ∧ c.args.map (rho e) = ⟨as⟩ := by
  unfold asCallV at h
  split at h
  · next o hc =>
    split at h
    · next c ho =>
      split at h
      · next x hx =>
        simp only [Option.some.injEq, Prod.mk.injEq] at h
        obtain ⟨h1, h2⟩ := h
        refine ⟨o, c, x, hc, ho, hx, h1, ?_⟩
        apply Array.toList_inj.1; simpa using h2
      · cases h
    · cases h
  · cases h
def FnReady (P : Program) (g : FuncId) : Prop := ∃ fn, P.funcs[g]? = some fn ∧ fn.body.isNone = false ∧ (fn.name == "runtime.NumGoroutine") = false
theorem callV_run {o : Oper} {c : Call} {x : Operand} {g : FuncId} {first caps as : List Value} (ho : o.op = .call c) (hx : c.callee = .value x) (hv : rho e x = .func (.func g) ⟨first⟩ ⟨caps⟩) (ha : c.args.map (rho e) = ⟨as⟩)
    (hg : FnReady P g) (W : World) : (execOp (rho e) o).run P W = .ok (.enter g ⟨first ++ as ++ caps⟩) W := by
  obtain ⟨fn, h1, h2, h3⟩ := hg
  have hargs : (⟨first⟩ ++ ⟨as⟩ ++ ⟨caps⟩ : Array Value) = ⟨first ++ as ++ caps⟩ := by simp
  simp only [execOp, ho, resolve, hx, hv, ha, Deferred.ofValue, Sem.run_bind, Sem.run_pure, Result.andThen_ok, invoke, callFunc, run_program, h1, h2, h3, hargs, Bool.false_eq_true, if_false]
theorem AtE.callV (g : FuncId) (first caps as : List Value) {L1 : SHeap} {K : Value → SHeap → Prop} {K' : List PanicEntry → SHeap → Prop} (h : (asCallV nt k e, L) = (some (.func (.func g) ⟨first⟩ ⟨caps⟩, as), L1)) (hg : FnReady P g)
    (H : CallP P g ⟨first ++ as ++ caps⟩ L1 S w0 K K') (hn : ∀ v L', K v L' → AtE P f nt (nextK k) (putE e (curDst nt k e) v) L' S w0 G) (hp : ∀ ch L', K' ch L' → RaiseE P f nt e ch L' S w0 G) : AtE P f nt k e L S w0 G := by
  simp only [Prod.mk.injEq] at h
  obtain ⟨h, rfl⟩ := h
  obtain ⟨o, c, x, hc, ho, hx, hv, ha⟩ := asCallV_spec h
  have hcO : curO nt k e = o := by simp [curO, hc]
  exact AtE.callP g _ (fun W => by rw [hcO]; exact callV_run ho hx hv ha hg W) (by rw [hcO, hc]) H hn hp
def EffP (P : Program) (g : FuncId) (args : Array Value) (L0 : SHeap) (Pre : World → Prop) (K : Value → SHeap → Prop) (K' : List PanicEntry → SHeap → Prop) : Prop :=
  ∀ W, Mem L0 (L0.map (·.1)) W W → Pre W → Calls P g args W fun e W' =>
    (∃ v L', e = .returned v ∧ Mem L' (L0.map (·.1)) W W' ∧ K v L') ∨ ∃ ch L', e = .panicked ch ∧ Mem L' (L0.map (·.1)) W W' ∧ K' ch L'
theorem Mem.framed {L0 L1 L' : SHeap} {W W' : World} (hm' : Mem (L0 ++ L1) S w0 W) (hL : Mem L' (L0.map (·.1)) W W') : Mem (L' ++ L1) S w0 W' := by
  have hnd := hm'.nodup
  rw [List.map_append, List.nodup_append] at hnd
  obtain ⟨n0, n1, nd⟩ := hnd
  refine ⟨?_, ?_, ?_, ?_⟩
  · rw [List.map_append, List.nodup_append]
    refine ⟨hL.nodup, n1, ?_⟩
    intro a ha b hb hab
    subst hab
    obtain ⟨p, hp, rfl⟩ := List.mem_map.1 ha
    obtain ⟨q, hq, hqe⟩ := List.mem_map.1 hb
    rcases hL.own p hp with h1 | h1
    · have := hm'.lt (List.mem_append_right L0 hq)
      omega
    · exact nd _ h1 _ hb rfl
  · intro p hp
    rcases List.mem_append.1 hp with hp | hp
    · exact hL.here p hp
    · rw [hL.kept.block p.1 (hm'.lt (List.mem_append_right _ hp)) (fun h0 => nd _ h0 _ (List.mem_map_of_mem hp) rfl)]
      exact hm'.here p (List.mem_append_right _ hp)
  · intro p hp
    rcases List.mem_append.1 hp with hp | hp
    · rcases hL.own p hp with h1 | h1
      · exact .inl (Nat.le_trans hm'.kept.size h1)
      · obtain ⟨q, hq, hqe⟩ := List.mem_map.1 h1
        have := hm'.own q (List.mem_append_left _ hq)
        rw [hqe] at this; exact this
    · exact hm'.own p (List.mem_append_right _ hp)
  · refine ⟨hL.kept.os.trans hm'.kept.os, hL.kept.tape.trans hm'.kept.tape, hL.kept.output.trans hm'.kept.output, Nat.le_trans hm'.kept.size hL.kept.size, fun i hi hs => ?_⟩
    rw [hL.kept.block i (Nat.lt_of_lt_of_le hi hm'.kept.size) (fun h0 => ?_)]
    · exact hm'.kept.block i hi hs
    · obtain ⟨q, hq, hqe⟩ := List.mem_map.1 h0
      rcases hm'.own q (List.mem_append_left _ hq) with h1 | h1
      · rw [hqe] at h1; omega
      · rw [hqe] at h1; exact hs h1
theorem CallP.eff {g : FuncId} {args : Array Value} {L0 L1 : SHeap} {Pre : World → Prop} {K k1 : Value → SHeap → Prop} {K' k1' : List PanicEntry → SHeap → Prop} (h : EffP P g args L0 Pre K K') (hpre : ∀ W, Mem L S w0 W → Pre W) (hp : (L0 ++ L1).Perm L)
    (hK : ∀ v L', K v L' → ∃ L2, (L' ++ L1).Perm L2 ∧ k1 v L2) (hK' : ∀ ch L', K' ch L' → ∃ L2, (L' ++ L1).Perm L2 ∧ k1' ch L2) : CallP P g args L S w0 k1 k1' := by
  intro W hm
  have hm' : Mem (L0 ++ L1) S w0 W := hm.perm hp
  have hnd := hm'.nodup
  rw [List.map_append, List.nodup_append] at hnd
  refine (h W ⟨hnd.1, fun p hp => hm'.here p (List.mem_append_left _ hp), fun p hp => .inr (List.mem_map_of_mem hp), Kept.refl _ W⟩ (hpre W hm)).mono ?_
  rintro e W' (⟨v, L', rfl, hL, hk⟩ | ⟨ch, L', rfl, hL, hk⟩)
  · obtain ⟨L2, hp2, hk2⟩ := hK v L' hk
    exact .inl ⟨v, L2, rfl, Mem.perm (L := L' ++ L1) (hm'.framed hL) hp2.symm, hk2⟩
  · obtain ⟨L2, hp2, hk2⟩ := hK' ch L' hk
    exact .inr ⟨ch, L2, rfl, Mem.perm (L := L' ++ L1) (hm'.framed hL) hp2.symm, hk2⟩
theorem CallP.mono {g : FuncId} {args : Array Value} {K k1 : Value → SHeap → Prop} {K' k1' : List PanicEntry → SHeap → Prop} (h : CallP P g args L S w0 K K') (hk : ∀ v L', K v L' → k1 v L') (hk' : ∀ ch L', K' ch L' → k1' ch L') : CallP P g args L S w0 k1 k1' :=
  fun W hm => (h W hm).mono fun _ _ hh => by
    rcases hh with ⟨v, L', h1, h2, h3⟩ | ⟨ch, L', h1, h2, h3⟩
    · exact .inl ⟨v, L', h1, h2, hk v L' h3⟩
    · exact .inr ⟨ch, L', h1, h2, hk' ch L' h3⟩
end Go.Eng
namespace Go.Eng
open Go Go.RowKit
variable {P : Program} {f nt : Nat} {k : List Item} {e : Env} {L L0 : SHeap} {S : List Nat} {w0 : World} {ops : Array Oper} {n : Nat} {kk : List Item} {R : Goal P}
theorem AtM.store (L1 : SHeap) (j off : Nat) {T : TypeId} {v : Value} (hl : L = L0 ++ L1) (h : (asStore nt k e, isCellsL L j, fzL L j, putOk P T (cellsL L j) off v) = (some (T, .pointer (some ⟨blkL L j, off, none⟩), v), true, (0, 0), true))
    (hn : AtM P f nt ops n kk L0 (nextK k) (putE e (curDst nt k e) undef) (setL L j (putD P T (cellsL L j) off v)) S w0 R) : AtM P f nt ops n kk L0 k e L S w0 R := by
  simp only [Prod.mk.injEq] at h
  obtain ⟨h1, h2, h3, h4⟩ := h
  obtain ⟨o, x, y, hc, ho, hx, hy⟩ := asStore_spec h1
  cases hp : putC P T (cellsL L j) off v with
  | none => simp [putOk, hp] at h4
  | some c' =>
    have hd : putD P T (cellsL L j) off v = c' := by simp [putD, hp]
    rw [hd] at hn
    refine AtM.opK L1 hl hc (fun W hm => ⟨W.setRow (blkL L j) ⟨c'⟩, ?_, hm.setRow h2 c'⟩) hn
    simp only [execOp, ho, hx, hy]
    have hh := hm.heapAt h2
    rw [h3] at hh
    rw [Sem.run_bind, store_run hh hp]; rfl
theorem AtM.pure (L1 : SHeap) (hl : L = L0 ++ L1) (hc : cur nt k e = some (curO nt k e)) (hr : ∀ W, (execOp (rho e) (curO nt k e)).run P W = .ok (.value (vQ P nt k e)) W)
    (hn : AtM P f nt ops n kk L0 (nextK k) (putE e (curDst nt k e) (vQ P nt k e)) L S w0 R) : AtM P f nt ops n kk L0 k e L S w0 R :=
  AtM.opW L1 hl hc fun W hm => ⟨_, L, W, hr W, hm, hn⟩
theorem AtM.appendS (L1 : SHeap) {T U E : TypeId} {z : Value} {sz bytes : Nat} {x : Value} (m : Nat) (news : List Value) (hl : L = L0 ++ L1)
    (h : (asBuiltin nt k e, P.underlying T, infoZ P E, z.cells.size) = (some (.append, [.slice none 0 0, x], [T, U]), some (.slice E), some (some z, sz, bytes), sz))
    (hs : ∀ W, Mem L S w0 W → Go.Src P sz U x m news W) (hb : m ≤ 9223372036854775807 ∧ m * bytes ≤ 140737488355328)
    (h0 : m = 0 → AtM P f nt ops n kk L0 (nextK k) (putE e (curDst nt k e) (.slice none 0 0)) L S w0 R)
    (hn : 0 < m → ∀ B cap r, m ≤ cap → (news ++ r).length = cap * sz → AtM P f nt ops n kk L0 (nextK k) (putE e (curDst nt k e) (.slice (some ⟨B, 0, none⟩) m cap)) (L ++ [(B, .cells ⟨news ++ r⟩ E)]) S w0 R) : AtM P f nt ops n kk L0 k e L S w0 R := by
  simp only [Prod.mk.injEq] at h
  obtain ⟨h1, h2, h3, h4⟩ := h
  obtain ⟨o, cl, hc, ho, hcb, ha, ht⟩ := asBuiltin_spec h1
  obtain ⟨i, hi, hz, hsz, hby⟩ := info_open h3
  refine AtM.opW L1 hl hc fun W hm => ?_
  rw [run_builtin ho hcb ha ht (by simp) W]
  have hsr := hs W hm
  rcases Nat.eq_zero_or_pos m with hz0 | hp
  · subst hz0
    have hnl := hsr.newsLen
    rw [Nat.zero_mul] at hnl
    obtain rfl : news = [] := List.length_eq_zero_iff.1 hnl
    have hr := run_append_nothing W T U o.type E i h2 hi none 0 0 (Nat.le_refl _) x (by rw [hsz]; exact hsr)
    exact ⟨_, L, W, run_lift hr, hm, h0 rfl⟩
  · have hr := run_append_grow_src W T U o.type E i z h2 hi hz none 0 0 [] (by simp [Builtin.firstCells]) x m news (by rw [hsz]; exact hsr) (by omega) (by omega) (growslice_fits (by omega) (by rw [hby, Nat.zero_add]; exact hb.2))
    have he : (([] ++ news).toArray ++ Builtin.zeroCells z.cells (grownCap W (0 + m) 0 E - (0 + m))) = ⟨news ++ (Builtin.zeroCells z.cells (grownCap W (0 + m) 0 E - (0 + m))).toList⟩ := by
      apply Array.toList_inj.1; simp
    rw [he] at hr
    refine ⟨_, _, _, run_lift hr, hm.drew.alloc _, ?_⟩
    have := hn hp W.heap.size (grownCap W (0 + m) 0 E) (Builtin.zeroCells z.cells (grownCap W (0 + m) 0 E - (0 + m))).toList ?_ ?_
    · simpa using this
    · have := grownCap_ge W (0 + m) 0 E
      omega
    · rw [List.length_append, zeroCells_len, hsr.newsLen, h4, ← Nat.add_mul]
      congr 1
      have := grownCap_ge W (0 + m) 0 E
      omega
theorem AtE.loadT {b off : Nat} {T : TypeId} {v : Value} {c : List Value} (h : asLoad nt k e = some (T, .pointer (some ⟨b, off, none⟩))) (hc : ∃ t fz, (b, Obj.cells ⟨c⟩ t fz) ∈ L) (hv : valAt P T c off = some v)
    (hn : AtE P f nt (nextK k) (putE e (curDst nt k e) v) L S w0 R) : AtE P f nt k e L S w0 R := by
  obtain ⟨o, x, hcu, ho, hx⟩ := asLoad_spec h
  refine AtE.opV hcu (fun W hm => ?_) hn
  simp only [execOp, ho, hx]
  obtain ⟨t, fz, hh⟩ := hc
  exact run_lift (load_run (t := t) (fz := fz) (hm.here _ hh) hv)
theorem AtE.indexAddrP {E : TypeId} {p : Option Addr} {b o len cap sz o' : Nat} {kd : IntKind} {i : Int} (hp : p = some ⟨b, o, none⟩) (h : (asIndexAddr P nt k e, (P.info? E).map (·.size)) = (some (some (.slice E), .slice p len cap, .int kd i), some sz))
    (hb : 0 ≤ i ∧ i < len) (ho : o' = o + i.toNat * sz) (hn : AtE P f nt (nextK k) (putE e (curDst nt k e) (.pointer (some ⟨b, o', none⟩))) L S w0 R) : AtE P f nt k e L S w0 R := by
  subst hp; exact AtE.indexAddrL h hb ho hn
theorem AtQ.indexAddrP {E : TypeId} {p : Option Addr} {b o len cap sz o' : Nat} {kd : IntKind} {i : Int} (hp : p = some ⟨b, o, none⟩) (h : (asIndexAddr P nt k e, (P.info? E).map (·.size)) = (some (some (.slice E), .slice p len cap, .int kd i), some sz))
    (hb : 0 ≤ i ∧ i < len) (ho : o' = o + i.toNat * sz) (hn : AtQ P f nt ops n kk (nextK k) (putE e (curDst nt k e) (.pointer (some ⟨b, o', none⟩))) L S w0 R) : AtQ P f nt ops n kk k e L S w0 R := by
  subst hp; exact AtQ.indexAddrL h hb ho hn
theorem AtF.indexAddrP {R : Env → Prop} {E : TypeId} {p : Option Addr} {b o len cap sz o' : Nat} {kd : IntKind} {i : Int} (hp : p = some ⟨b, o, none⟩) (h : (asIndexAddr P nt k e, (P.info? E).map (·.size)) = (some (some (.slice E), .slice p len cap, .int kd i), some sz))
    (hb : 0 ≤ i ∧ i < len) (ho : o' = o + i.toNat * sz) (hn : AtF P nt (nextK k) (putE e (curDst nt k e) (.pointer (some ⟨b, o', none⟩))) L S w0 R) : AtF P nt k e L S w0 R := by
  subst hp; exact AtF.indexAddrL h hb ho hn
end Go.Eng
namespace Go.Eng
open Go
structure Lab where
  unt : Int
  after : List Int
  appr : Int
  den : Int
deriving DecidableEq
structure Blk where
  id : Int
  kind : Int
  text : ByteArray
  story : Int
  ref : Int
  lab : Lab
deriving DecidableEq
structure Fct where
  n : Int
  time : Int
  kind : Int
  story : Int
  lang : ByteArray
  rev : Int
  base : Int
  title : ByteArray
  author : ByteArray
  topics : List ByteArray
  blocks : List Blk
  lab : Lab
  editor : Int
  block : Int
  sentence : Int
  text : ByteArray
  name : ByteArray
  partner : Int
  cls : Int
  unt : Int
deriving DecidableEq
abbrev Fct.cells (f : Fct) (tp : Option Addr) (tc : Nat) (bp : Option Addr) (bc : Nat) (ap : Option Addr) (ac : Nat) : List Value :=
  [.int .i64 f.n, .int .i64 f.time, .int .i64 f.kind, .int .i64 f.story, .string f.lang, .int .i64 f.rev, .int .i64 f.base, .string f.title, .string f.author, .slice tp f.topics.length tc, .slice bp f.blocks.length bc,
    .int .i64 f.lab.unt, .slice ap f.lab.after.length ac, .int .i64 f.lab.appr, .int .i64 f.lab.den, .int .i64 f.editor, .int .i64 f.block, .int .i64 f.sentence, .string f.text, .string f.name, .int .i64 f.partner, .int .i64 f.cls, .int .i64 f.unt]
end Go.Eng
