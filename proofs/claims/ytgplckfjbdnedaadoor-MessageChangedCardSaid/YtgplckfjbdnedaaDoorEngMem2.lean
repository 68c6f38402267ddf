/- A part of the engine by which the functions are walked; it speaks of no program. -/
import Derived.Test.YtgplckfjbdnedaaDoorEngMem
import Derived.Laws.MakeOwn
import Derived.Laws.AppendOwn
namespace Go.Eng
open Go Go.RowKit

variable {P : Program} {f nt : Nat} {k : List Item} {e : Env} {L : SHeap} {S : List Nat} {w0 : World} {R : Goal P}

/-! ### Bytes -/
def bytesL (l : List UInt8) : List Value := l.map fun b => Value.int .u8 (b.toNat : Int)

def asConv (P : Program) (nt : Nat) (k : List Item) (e : Env) : Option (Option TypeDesc × Option TypeDesc × Value) :=
  match cur nt k e with
  | some o => match o.op with
    | .convert s d x => some (P.underlying s, P.underlying d, rho e x)
    | _ => none
  | none => none

theorem asConv_spec {a b : Option TypeDesc} {v : Value} (h : asConv P nt k e = some (a, b, v)) : ∃ o s d x, cur nt k e = some o ∧ o.op = .convert s d x ∧ P.underlying s = a ∧ P.underlying d = b ∧ rho e x = v := by
  unfold asConv at h
  split at h
  · next o hc =>
    split at h
    · next s d x ho => simp only [Option.some.injEq, Prod.mk.injEq] at h; obtain ⟨h1, h2, h3⟩ := h; exact ⟨o, s, d, x, hc, ho, h1, h2, h3⟩
    · cases h
  · cases h

/-- '[]byte(s)': a new row with the bytes, and room behind them. -/
theorem AtE.toBytes {E : TypeId} {s : ByteArray} (h : (asConv P nt k e, P.underlying E) = (some (some .string, some (.slice E), .string s), some (.int .u8)))
    (hn : ∀ B r : Nat, AtE P f nt (nextK k) (putE e (curDst nt k e) (.slice (some ⟨B, 0, none⟩) s.size (s.size + r)))
      (L ++ [(B, .cells ⟨bytesL s.data.toList ++ List.replicate r (.int .u8 0)⟩ E (s.size + r, s.size + r + 1))]) S w0 R) : AtE P f nt k e L S w0 R := by
  simp only [Prod.mk.injEq] at h
  obtain ⟨h1, h2⟩ := h
  obtain ⟨o, ts, td, x, hc, ho, hs, hd, hx⟩ := asConv_spec h1
  have hrun : ∀ W, ∃ r : Nat, ∃ W2 : World, (execOp (rho e) o).run P W = .ok (.value (.slice (some ⟨W.heap.size, 0, none⟩) s.size (s.size + r))) W2 ∧ W2.os = W.os ∧ W2.tape = W.tape ∧ W2.output = W.output ∧
      W2.heap = W.heap.push (.cells ⟨bytesL s.data.toList ++ List.replicate r (.int .u8 0)⟩ E (s.size + r, s.size + r + 1)) := by
    intro W
    simp only [execOp, ho, hx]
    refine ⟨W.tape W.drawn (.appendCap s.size 0 E) % (2 ^ 63 - s.size), { W with drawn := W.drawn + 1, heap := W.heap.push (.cells ⟨bytesL s.data.toList ++ List.replicate (W.tape W.drawn (.appendCap s.size 0 E) % (2 ^ 63 - s.size)) (.int .u8 0)⟩ E (s.size + W.tape W.drawn (.appendCap s.size 0 E) % (2 ^ 63 - s.size), s.size + W.tape W.drawn (.appendCap s.size 0 E) % (2 ^ 63 - s.size) + 1)) }, run_lift ?_, rfl, rfl, rfl, rfl⟩
    generalize hg : W.tape W.drawn (.appendCap s.size 0 E) % (2 ^ 63 - s.size) = r
    simp only [convert, Sem.run_bind, run_underlying hs, run_underlying hd, Result.andThen_ok, run_underlying h2, Conv.stringToBytes, run_choose, Question.forced, Bool.false_eq_true, if_false]
    have hcut : (Question.appendCap s.size 0 E).cut (W.tape W.drawn (.appendCap s.size 0 E)) = s.size + r := by rw [← hg]; rfl
    simp only [hcut, newRow, Sem.run_bind, run_newObj, Result.andThen_ok, Sem.run_pure, markStringish, run_shape]
    have hsz : (s.data.map (fun b => Value.int .u8 (b.toNat : Int)) ++ Array.replicate (s.size + r - s.size) (Value.int .u8 0)) = (⟨bytesL s.data.toList ++ List.replicate r (.int .u8 0)⟩ : Array Value) := by
      apply Array.toList_inj.1
      simp [bytesL]
    rw [hsz]
    have hlen : (bytesL s.data.toList ++ List.replicate r (Value.int .u8 0)).length = s.size + r := by simp [bytesL]
    have hshape : ({ heap := W.heap.push (.cells ⟨bytesL s.data.toList ++ List.replicate r (.int .u8 0)⟩ E), tape := W.tape, drawn := W.drawn + 1, os := W.os, output := W.output } : World).shape? W.heap.size = some (E, s.size + r) := by
      simp [World.shape?, hlen]
    simp only [hshape, run_freeze, Result.andThen_ok]
    congr 1
    simp only [World.freeze, Nat.one_ne_zero, if_false]
    congr 1
    apply Array.ext_getElem?
    intro i
    simp only [Array.getElem?_modify, Array.getElem?_push]
    by_cases hi : W.heap.size = i
    · subst hi; simp
    · have : ¬ i = W.heap.size := fun h => hi h.symm
      simp [hi, this]
  refine AtE.op hc fun W hm => ?_
  obtain ⟨r, W2, h1, h2, h3, h4, h5⟩ := hrun W
  refine ⟨_, W2, h1, fun t hk => hn W.heap.size r t W2 (by simpa only [curDst, hc] using hk) ?_⟩
  have := hm.alloc (.cells ⟨bytesL s.data.toList ++ List.replicate r (.int .u8 0)⟩ E (s.size + r, s.size + r + 1))
  refine ⟨this.nodup, fun p hp => ?_, this.own, ⟨h2.trans hm.kept.os, h3.trans hm.kept.tape, h4.trans hm.kept.output, ?_, fun i hi hs => ?_⟩⟩
  · rw [h5]; exact this.here p hp
  · rw [h5]; exact this.kept.size
  · rw [h5]; exact this.kept.block i hi hs

theorem foldl_push (l : List UInt8) : ∀ (r : ByteArray), (l.map fun b => (b.toNat : Int)).foldl (fun r n => r.push (UInt8.ofNat n.toNat)) r = ⟨(r.data.toList ++ l).toArray⟩ := by
  induction l with
  | nil => intro r; simp
  | cons b l ih =>
    intro r
    simp only [List.map_cons, List.foldl_cons]
    rw [ih]
    congr 1
    have : UInt8.ofNat (Int.toNat (b.toNat : Int)) = b := by simp
    rw [this]
    simp

/-- 'string(b)' of a row of the call's own. -/
theorem AtE.toString (j : Nat) {E : TypeId} {o len cap : Nat} {c : List Value} {l : List UInt8}
    (h : (asConv P nt k e, P.underlying E, isCellsL L j, cellsL L j) = (some (some (.slice E), some .string, .slice (some ⟨blkL L j, o, none⟩) len cap), some (.int .u8), true, c))
    (hl : (c.drop o).take len = bytesL l ∧ l.length = len)
    (hn : AtE P f nt (nextK k) (putE e (curDst nt k e) (.string ⟨l.toArray⟩)) L S w0 R) : AtE P f nt k e L S w0 R := by
  simp only [Prod.mk.injEq] at h
  obtain ⟨h1, h2, h3, h4⟩ := h
  obtain ⟨op, ts, td, x, hc, ho, hs, hd, hx⟩ := asConv_spec h1
  refine AtE.opV hc (fun W hm => ?_) hn
  have hh := hm.heapAt h3
  rw [h4] at hh
  simp only [execOp, ho, hx]
  refine run_lift ?_
  simp only [convert, Sem.run_bind, run_underlying hs, run_underlying hd, Result.andThen_ok, run_underlying h2]
  have hld : (loadCells ⟨blkL L j, o, none⟩ len).run P W = .ok ((l.map fun b => (b.toNat : Int)).map (Value.int .u8)).toArray W := by
    have := run_loadCells_list (P := P) (w := W) ⟨blkL L j, o, none⟩ (bytesL l) (fun i u hi => ?_)
    · have e1 : (bytesL l).length = len := by simp [bytesL, hl.2]
      rw [e1] at this
      rw [this]; simp [bytesL, Function.comp_def]
    · rw [addr_add, cell_of_heap hh]
      rw [← hl.1, List.getElem?_take] at hi
      split at hi
      · rw [List.getElem?_drop] at hi; exact hi
      · cases hi
  rw [run_bytesToString W _ _ _ _ hld, foldl_push]
  rfl

/-! ### make -/
def asMake (P : Program) (nt : Nat) (k : List Item) (e : Env) : Option (Option TypeDesc × Value × Value) :=
  match cur nt k e with
  | some o => match o.op with
    | .makeSlice T l c => some (P.underlying T, rho e l, rho e c)
    | _ => none
  | none => none

def infoZ (P : Program) (E : TypeId) : Option (Option Value × Nat × Nat) := (P.info? E).map fun i => (i.zero, i.size, i.bytes)

theorem madeCells_one (z : Value) (n : Nat) : madeCells #[z] n = ⟨List.replicate n z⟩ := by
  apply Array.toList_inj.1
  simp [madeCells]
  apply List.ext_getElem?
  intro i
  simp only [List.getElem?_map, List.getElem?_replicate]
  by_cases h : i < n
  · simp [h, Nat.mod_one]
  · simp [h]

theorem AtE.make {E : TypeId} {kl kc : IntKind} {n m : Int} {z : Value} {bytes : Nat}
    (h : (asMake P nt k e, infoZ P E, z.cells) = (some (some (.slice E), .int kl n, .int kc m), some (some z, 1, bytes), #[z]))
    (hb : 0 ≤ n ∧ n ≤ m ∧ (bytes : Int) * m ≤ 281474976710656 ∧ m ≤ 9223372036854775807)
    (hn : ∀ B, AtE P f nt (nextK k) (putE e (curDst nt k e) (.slice (some ⟨B, 0, none⟩) n.toNat m.toNat)) (L ++ [(B, .cells ⟨List.replicate m.toNat z⟩ E)]) S w0 R) : AtE P f nt k e L S w0 R := by
  simp only [Prod.mk.injEq] at h
  obtain ⟨h1, h2, h3⟩ := h
  unfold asMake at h1
  split at h1
  · next o hc =>
    split at h1
    · next T l c ho =>
      simp only [Option.some.injEq, Prod.mk.injEq] at h1
      obtain ⟨hT, hl, hcc⟩ := h1
      unfold infoZ at h2
      cases hq : P.info? E with
      | none => rw [hq] at h2; cases h2
      | some i =>
        rw [hq] at h2
        simp only [Option.map_some, Option.some.injEq, Prod.mk.injEq] at h2
        obtain ⟨hz, hsz, hby⟩ := h2
        refine AtE.op hc fun W hm => ⟨.slice (some ⟨W.heap.size, 0, none⟩) n.toNat m.toNat, _, ?_, fun t hk => hn W.heap.size t _ (by simpa only [curDst, hc] using hk) (hm.alloc (.cells ⟨List.replicate m.toNat z⟩ E))⟩
        simp only [execOp, ho, hl, hcc]
        refine run_lift ?_
        rw [run_make W T E i z hT hq hz kl kc n m hb.1 hb.2.1 (by rw [hby]; exact hb.2.2.1) hb.2.2.2]
        rw [h3, hsz, Nat.mul_one, madeCells_one]; rfl
    · cases h1
  · cases h1

/-! ### append -/
def asBuiltin (nt : Nat) (k : List Item) (e : Env) : Option (Builtin × List Value × List TypeId) :=
  match cur nt k e with
  | some o => match o.op with
    | .call c => match c.callee with
      | .builtin b => some (b, c.args.toList.map (rho e), c.argTypes.toList)
      | _ => none
    | _ => none
  | none => none

theorem asBuiltin_spec {b : Builtin} {as : List Value} {ts : List TypeId} (h : asBuiltin nt k e = some (b, as, ts)) :
    ∃ o c, cur nt k e = some o ∧ o.op = .call c ∧ c.callee = .builtin b ∧ c.args.map (rho e) = ⟨as⟩ ∧ c.argTypes = ⟨ts⟩ := by
  unfold asBuiltin at h
  split at h
  · next o hc =>
    split at h
    · next c ho =>
      split at h
      · next b' hb =>
        simp only [Option.some.injEq, Prod.mk.injEq] at h
        obtain ⟨rfl, h1, h2⟩ := h
        refine ⟨o, c, hc, ho, hb, ?_, ?_⟩
        · apply Array.toList_inj.1; simpa using h1
        · apply Array.toList_inj.1; simpa using h2
      · cases h
    · cases h
  · cases h

theorem run_builtin {o : Oper} {c : Call} {b : Builtin} {as : List Value} {ts : List TypeId} (ho : o.op = .call c) (hb : c.callee = .builtin b) (ha : c.args.map (rho e) = ⟨as⟩) (ht : c.argTypes = ⟨ts⟩)
    (h : b ≠ .print ∧ b ≠ .println) (W : World) : (execOp (rho e) o).run P W = (Go.builtin b ⟨ts⟩ o.type #[] ⟨as⟩).run P W := by
  simp only [execOp, ho, resolve, hb, ha, ht, Sem.run_bind, Sem.run_pure, Result.andThen_ok, invoke]
  cases b <;> simp_all [Go.builtin]

theorem Mem.drop {W : World} (hm : Mem L S w0 W) (j : Nat) : Mem (L.eraseIdx j) S w0 W :=
  ⟨(List.Sublist.map _ (List.eraseIdx_sublist L j)).nodup hm.nodup, fun p hp => hm.here p (List.mem_of_mem_eraseIdx hp), fun p hp => hm.own p (List.mem_of_mem_eraseIdx hp), hm.kept⟩

theorem Mem.perm {L' : SHeap} {W : World} (hm : Mem L S w0 W) (hp : L'.Perm L) : Mem L' S w0 W :=
  ⟨(hp.map _).nodup_iff.2 hm.nodup, fun p h => hm.here p (hp.mem_iff.1 h), fun p h => hm.own p (hp.mem_iff.1 h), hm.kept⟩

theorem Mem.drew {W : World} (hm : Mem L S w0 W) : Mem L S w0 W.drew :=
  ⟨hm.nodup, hm.here, hm.own, ⟨hm.kept.os, hm.kept.tape, hm.kept.output, hm.kept.size, hm.kept.block⟩⟩

/-- Where the cells of a slice may be read. -/
def Src (L : SHeap) (S : List Nat) (w0 : World) (a : Addr) (news : List Value) : Prop := ∀ W, Mem L S w0 W → ∀ j u, news[j]? = some u → W.cell? (a.add j) = some u

theorem Src.own {j o n : Nat} {c : List Value} (h : (isCellsL L j, cellsL L j) = (true, c)) : Src L S w0 ⟨blkL L j, o, none⟩ ((c.drop o).take n) := by
  simp only [Prod.mk.injEq] at h
  obtain ⟨h1, h2⟩ := h
  intro W hm i u hi
  have hh := hm.heapAt h1
  rw [h2] at hh
  rw [addr_add, cell_of_heap hh]
  rw [List.getElem?_take] at hi
  split at hi
  · rw [List.getElem?_drop] at hi; exact hi
  · cases hi

theorem Src.arg {b o n : Nat} {c : List Value} (hb : b ∉ S) (h : blkW w0 b = some c) : Src L S w0 ⟨b, o, none⟩ ((c.drop o).take n) := by
  unfold blkW at h
  split at h
  · next c' t fz hh =>
    simp at h; subst h
    have hlt : b < w0.heap.size := by
      rcases Nat.lt_or_ge b w0.heap.size with h | h
      · exact h
      · rw [Array.getElem?_eq_none h] at hh; cases hh
    intro W hm i u hi
    have hW := hm.kept.block b hlt hb
    rw [hh] at hW
    rw [addr_add, cell_of_heap (c := c'.toList) (t := t) (fz := fz) (by simpa using hW)]
    rw [List.getElem?_take] at hi
    split at hi
    · rw [List.getElem?_drop] at hi; exact hi
    · cases hi
  · cases h

theorem Src.nil (a : Addr) : Src L S w0 a [] := fun _ _ j u h => by simp at h

theorem zeroCells_len (z : Array Value) (n : Nat) : (Builtin.zeroCells z n).toList.length = n * z.size := by simp [Builtin.zeroCells]

theorem app_nil (T E : TypeId) (z : Value) (sz bytes : Nat) (hT : P.underlying T = some (.slice E)) (hinfo : infoZ P E = some (some z, sz, bytes)) (hzs : z.cells.size = sz)
    (a : Addr) (m c : Nat) (news : List Value) (hl : news.length = m * sz) (hs : Src L S w0 a news) (h0 : 0 < m) (h63 : m ≤ 9223372036854775807) (hb : m * bytes ≤ 140737488355328) (ty : TypeId) (W : World) (hm : Mem L S w0 W) :
    ∃ B cap r W', (Builtin.append_ #[T, T] ty #[.slice none 0 0, .slice (some a) m c]).run P W = .ok (.slice (some ⟨B, 0, none⟩) m cap) W' ∧ m ≤ cap ∧ (news ++ r).length = cap * sz ∧
      Mem (L ++ [(B, .cells ⟨news ++ r⟩ E)]) S w0 W' := by
  unfold infoZ at hinfo
  cases hq : P.info? E with
  | none => rw [hq] at hinfo; cases hinfo
  | some i =>
    rw [hq] at hinfo
    simp only [Option.map_some, Option.some.injEq, Prod.mk.injEq] at hinfo
    obtain ⟨hz, hsz, hby⟩ := hinfo
    have hr := run_append_nil (P := P) W T ty E i z hT hq hz a m c news (by rw [hsz]; exact hl) (hs W hm) h0 (by omega) (by rw [hby]; omega)
    refine ⟨W.heap.size, grownCap W m 0 E, (Builtin.zeroCells z.cells (grownCap W m 0 E - m)).toList, _, hr, grownCap_ge W m 0 E, ?_, ?_⟩
    · rw [List.length_append, zeroCells_len, hl, hzs, ← Nat.add_mul]
      congr 1
      have := grownCap_ge W m 0 E
      omega
    · have := hm.drew.alloc (.cells ⟨news ++ (Builtin.zeroCells z.cells (grownCap W m 0 E - m)).toList⟩ E)
      have he : (news.toArray ++ Builtin.zeroCells z.cells (grownCap W m 0 E - m)) = ⟨news ++ (Builtin.zeroCells z.cells (grownCap W m 0 E - m)).toList⟩ := by
        apply Array.toList_inj.1; simp
      rw [he]; exact this

theorem app_own (j : Nat) (T E : TypeId) (z : Value) (sz bytes : Nat) (hT : P.underlying T = some (.slice E)) (hinfo : infoZ P E = some (some z, sz, bytes)) (hzs : z.cells.size = sz)
    (n cap : Nat) (cs : List Value) (hj : isCellsL L j = true) (hcs : cellsL L j = cs) (hel : elemL L j = E) (hfz : fzL L j = (0, 0)) (hn : n ≤ cap) (hlen : cs.length = cap * sz)
    (a : Addr) (m c : Nat) (news : List Value) (hl : news.length = m * sz) (hs : Src L S w0 a news) (h1 : ∀ u ∈ news, u.oneCell' = true) (h63 : n + m ≤ 9223372036854775807) (hb : (n + m) * bytes ≤ 140737488355328)
    (ty : TypeId) (W : World) (hm : Mem L S w0 W) :
    ∃ B cap' r W', (Builtin.append_ #[T, T] ty #[.slice (some ⟨blkL L j, 0, none⟩) n cap, .slice (some a) m c]).run P W = .ok (.slice (some ⟨B, 0, none⟩) (n + m) cap') W' ∧ n + m ≤ cap' ∧
      (cs.take (n * sz) ++ news ++ r).length = cap' * sz ∧ Mem (L.eraseIdx j ++ [(B, .cells ⟨cs.take (n * sz) ++ news ++ r⟩ E)]) S w0 W' := by
  have hh := hm.heapAt hj
  rw [hcs, hel, hfz] at hh
  have hjl : L[j]? = some (blkL L j, .cells ⟨cs⟩ E (0, 0)) := by rw [isCellsL_spec hj, hcs, hel, hfz]
  have hjlt : j < L.length := (List.getElem?_eq_some_iff.1 hjl).1
  have hnle : n * sz ≤ cs.length := by rw [hlen]; exact Nat.mul_le_mul_right _ hn
  unfold infoZ at hinfo
  cases hq : P.info? E with
  | none => rw [hq] at hinfo; cases hinfo
  | some i =>
    rw [hq] at hinfo
    simp only [Option.map_some, Option.some.injEq, Prod.mk.injEq] at hinfo
    obtain ⟨hz, hsz, hby⟩ := hinfo
    by_cases hroom : n + m ≤ cap
    · have hr := run_append_room (P := P) W T ty E i hT hq (blkL L j) n cap ⟨cs⟩ hh a m c news (by rw [hsz]; exact hl) (hs W hm) h1 hroom (by
        rw [hsz, hl]; simp only [List.size_toArray, hlen]; rw [← Nat.add_mul]; exact Nat.mul_le_mul_right _ hroom)
      rw [hsz] at hr
      refine ⟨blkL L j, cap, cs.drop (n * sz + news.length), _, hr, hroom, ?_, ?_⟩
      · simp only [List.length_append, List.length_take, List.length_drop, hl, hlen]
        have : (n + m) * sz ≤ cap * sz := Nat.mul_le_mul_right _ hroom
        rw [Nat.add_mul] at this
        have hmin : min (n * sz) (cap * sz) = n * sz := Nat.min_eq_left (by omega)
        omega
      · have h2 := hm.setRow hj (cs.take (n * sz) ++ news ++ cs.drop (n * sz + news.length))
        have he : (cs.toArray.toList.take (n * sz) ++ news ++ cs.toArray.toList.drop (n * sz + news.length)).toArray = ⟨cs.take (n * sz) ++ news ++ cs.drop (n * sz + news.length)⟩ := rfl
        rw [he]
        refine h2.perm ?_
        unfold setL
        rw [hel, hfz]
        -- the j-th is taken out and laid at the end
        have key : ∀ (l : SHeap) (i : Nat) (x : Nat × Obj), i < l.length → (l.eraseIdx i ++ [x]).Perm (l.set i x) := by
          intro l
          induction l with
          | nil => intro i x h; simp at h
          | cons y l ih =>
            intro i x h
            cases i with
            | zero =>
              simp only [List.eraseIdx_cons_zero, List.set_cons_zero]
              exact (List.perm_append_comm (l₁ := l) (l₂ := [x]))
            | succ i =>
              simp only [List.eraseIdx_cons_succ, List.set_cons_succ, List.cons_append]
              exact (ih i x (by simpa using h)).cons y
        exact key L j _ hjlt
    · have holds : ∀ q u, (cs.take (n * sz))[q]? = some u → W.cell? ((⟨blkL L j, 0, none⟩ : Addr).add q) = some u := by
        intro q u hu
        rw [addr_add, cell_of_heap hh, Nat.zero_add]
        rw [List.getElem?_take] at hu
        split at hu
        · exact hu
        · cases hu
      have hlt : (cs.take (n * sz)).length = n * i.size := by rw [List.length_take, hsz]; exact Nat.min_eq_left hnle
      have hr := run_append_grow (P := P) W T ty E i z hT hq hz ⟨blkL L j, 0, none⟩ n cap (cs.take (n * sz)) hlt holds a m c news (by rw [hsz]; exact hl) (hs W hm) (by omega) (by omega) (growslice_fits (by omega) (by rw [hby]; exact hb))
      refine ⟨W.heap.size, grownCap W (n + m) cap E, (Builtin.zeroCells z.cells (grownCap W (n + m) cap E - (n + m))).toList, _, hr, grownCap_ge W (n + m) cap E, ?_, ?_⟩
      · rw [List.length_append, List.length_append, zeroCells_len, hl, hzs, hlt, hsz, ← Nat.add_mul, ← Nat.add_mul]
        congr 1
        have := grownCap_ge W (n + m) cap E
        omega
      · have := (hm.drop j).drew.alloc (.cells ⟨cs.take (n * sz) ++ news ++ (Builtin.zeroCells z.cells (grownCap W (n + m) cap E - (n + m))).toList⟩ E)
        have he : ((cs.take (n * sz)).toArray ++ news.toArray ++ Builtin.zeroCells z.cells (grownCap W (n + m) cap E - (n + m))) = ⟨cs.take (n * sz) ++ news ++ (Builtin.zeroCells z.cells (grownCap W (n + m) cap E - (n + m))).toList⟩ := by
          apply Array.toList_inj.1; simp
        rw [he]; exact this

theorem AtE.opB {o : Oper} {c : Call} {b : Builtin} {as : List Value} {ts : List TypeId} (hc : cur nt k e = some o) (ho : o.op = .call c) (hb : c.callee = .builtin b) (ha : c.args.map (rho e) = ⟨as⟩) (ht : c.argTypes = ⟨ts⟩) (hp : b ≠ .print ∧ b ≠ .println)
    (h : ∀ W, Mem L S w0 W → ∃ v W', (Go.builtin b ⟨ts⟩ o.type #[] ⟨as⟩).run P W = .ok (.value v) W' ∧ ∀ t, Knows nt (putE e (curDst nt k e) v) t → At P f (nextK k) t W' R) : AtE P f nt k e L S w0 R := by
  refine AtE.op hc fun W hm => ?_
  obtain ⟨v, W', h1, h2⟩ := h W hm
  refine ⟨v, W', ?_, fun t hk => h2 t (by simpa only [curDst, hc] using hk)⟩
  rw [run_builtin ho hb ha ht hp W]; exact h1

/-- append to a nil slice. -/
theorem AtE.appendN {T E : TypeId} {z : Value} {sz bytes : Nat} {a : Addr} {m c : Nat} (news : List Value)
    (h : (asBuiltin nt k e, P.underlying T, infoZ P E, z.cells.size) = (some (.append, [.slice none 0 0, .slice (some a) m c], [T, T]), some (.slice E), some (some z, sz, bytes), sz))
    (hs : Src L S w0 a news) (hl : news.length = m * sz) (h0 : 0 < m) (hb : m ≤ 9223372036854775807 ∧ m * bytes ≤ 140737488355328)
    (hn : ∀ B cap r, m ≤ cap → (news ++ r).length = cap * sz → AtE P f nt (nextK k) (putE e (curDst nt k e) (.slice (some ⟨B, 0, none⟩) m cap)) (L ++ [(B, .cells ⟨news ++ r⟩ E)]) S w0 R) : AtE P f nt k e L S w0 R := by
  simp only [Prod.mk.injEq] at h
  obtain ⟨h1, h2, h3, h4⟩ := h
  obtain ⟨o, cl, hc, ho, hcb, ha, ht⟩ := asBuiltin_spec h1
  refine AtE.opB hc ho hcb ha ht (by simp) fun W hm => ?_
  obtain ⟨B, cap, r, W', hr, hcap, hlen, hm'⟩ := app_nil T E z sz bytes h2 h3 h4 a m c news hl hs h0 hb.1 hb.2 o.type W hm
  exact ⟨_, W', run_lift hr, fun t hk => hn B cap r hcap hlen t W' hk hm'⟩

/-- append to a row of the call's own. -/
theorem AtE.appendO (j : Nat) {T E : TypeId} {z : Value} {sz bytes n cap : Nat} {a : Addr} {m c : Nat} {cs : List Value} (news : List Value)
    (h : (asBuiltin nt k e, P.underlying T, infoZ P E, z.cells.size, isCellsL L j, cellsL L j, elemL L j, fzL L j) =
      (some (.append, [.slice (some ⟨blkL L j, 0, none⟩) n cap, .slice (some a) m c], [T, T]), some (.slice E), some (some z, sz, bytes), sz, true, cs, E, (0, 0)))
    (hs : Src L S w0 a news) (hl : news.length = m * sz) (h1 : ∀ u ∈ news, u.oneCell' = true) (hlen : n ≤ cap ∧ cs.length = cap * sz) (hb : n + m ≤ 9223372036854775807 ∧ (n + m) * bytes ≤ 140737488355328)
    (hn : ∀ B cap' r, n + m ≤ cap' → (cs.take (n * sz) ++ news ++ r).length = cap' * sz → AtE P f nt (nextK k) (putE e (curDst nt k e) (.slice (some ⟨B, 0, none⟩) (n + m) cap')) (L.eraseIdx j ++ [(B, .cells ⟨cs.take (n * sz) ++ news ++ r⟩ E)]) S w0 R) :
    AtE P f nt k e L S w0 R := by
  simp only [Prod.mk.injEq] at h
  obtain ⟨h1', h2, h3, h4, h5, h6, h7, h8⟩ := h
  obtain ⟨o, cl, hc, ho, hcb, ha, ht⟩ := asBuiltin_spec h1'
  refine AtE.opB hc ho hcb ha ht (by simp) fun W hm => ?_
  obtain ⟨B, cap', r, W', hr, hcap, hlen', hm'⟩ := app_own j T E z sz bytes h2 h3 h4 n cap cs h5 h6 h7 h8 hlen.1 hlen.2 a m c news hl hs h1 hb.1 hb.2 o.type W hm
  exact ⟨_, W', run_lift hr, fun t hk => hn B cap' r hcap hlen' t W' hk hm'⟩

/-! ### copy -/

/-- The cells behind a copy of cs to place o. -/
def over (c : List Value) (o : Nat) (cs : List Value) : List Value := c.take o ++ cs ++ c.drop (o + cs.length)
theorem over_length {c : List Value} {o : Nat} {cs : List Value} (h : o + cs.length ≤ c.length) : (over c o cs).length = c.length := by simp [over]; omega

theorem bytesL_one (l : List UInt8) : ∀ u ∈ bytesL l, u.oneCell' = true := by
  intro u hu
  obtain ⟨b, _, rfl⟩ := List.mem_map.1 hu
  rfl

theorem AtE.copyS (j : Nat) {T E U : TypeId} {o dl dc : Nat} {s : ByteArray} {c : List Value}
    (h : (asBuiltin nt k e, P.underlying T, (P.info? E).map (·.size), P.underlying E, isCellsL L j, cellsL L j, fzL L j) =
      (some (.copy, [.slice (some ⟨blkL L j, o, none⟩) dl dc, .string s], [T, U]), some (.slice E), some 1, some (.int .u8), true, c, (0, 0)))
    (hfit : o + dl ≤ c.length)
    (hn : AtE P f nt (nextK k) (putE e (curDst nt k e) (.int .i64 ((min s.size dl : Nat) : Int))) (setL L j (over c o (bytesL (s.data.toList.take dl)))) S w0 R) : AtE P f nt k e L S w0 R := by
  simp only [Prod.mk.injEq] at h
  obtain ⟨h1, h2, h3, h4, h5, h6, h7⟩ := h
  obtain ⟨op, cl, hc, ho, hcb, ha, ht⟩ := asBuiltin_spec h1
  refine AtE.opB hc ho hcb ha ht (by simp) fun W hm => ?_
  have hh := hm.heapAt h5
  rw [h6, h7] at hh
  refine ⟨_, W.setRow (blkL L j) ⟨over c o (bytesL (s.data.toList.take dl))⟩, run_lift (v := .int .i64 ((min s.size dl : Nat) : Int)) ?_, fun t hk => hn t _ hk (hm.setRow h5 _)⟩
  have hsl : s.data.toList.length = s.size := by simp
  have hlen : (bytesL (s.data.toList.take dl)).length ≤ dl := by simp only [bytesL, List.length_map, List.length_take]; omega
  have hst := run_storeCells_at P (blkL L j) o (elemL L j) (bytesL (s.data.toList.take dl)) 0 ⟨c⟩ W hh (by simp only [Nat.add_zero, List.size_toArray]; omega) (bytesL_one _)
  cases hq : P.info? E with
  | none => rw [hq] at h3; cases h3
  | some i =>
    rw [hq] at h3; simp at h3
    have hcells : List.take (min s.size dl) (List.map (fun b => Value.int .u8 (b.toNat : Int)) s.data.toList) = bytesL (s.data.toList.take dl) := by
      simp only [bytesL, List.map_take]
      rcases Nat.le_total s.size dl with hle | hle
      · rw [Nat.min_eq_left hle, List.take_of_length_le (by simp), List.take_of_length_le (by simp; omega)]
      · rw [Nat.min_eq_right hle]
    have hmin : ∀ x y : Nat, Nat.min x y = min x y := fun _ _ => rfl
    show (Builtin.copy_ #[T, U] op.type #[.slice (some ⟨blkL L j, o, none⟩) dl dc, .string s]).run P W = _
    simp [Builtin.copy_, run_underlying h2, Builtin.lenOf, sizeOf, typeInfo, hq, Builtin.firstCells, hmin]
    rw [hcells, hst]
    simp [over, goInt, Result.andThen]

theorem AtE.copyO (j : Nat) {T E : TypeId} {o dl dc n m : Nat} {a : Addr} {c : List Value} (cs : List Value)
    (h : (asBuiltin nt k e, P.underlying T, (P.info? E).map (·.size), isCellsL L j, cellsL L j, fzL L j) =
      (some (.copy, [.slice (some ⟨blkL L j, o, none⟩) dl dc, .slice (some a) n m], [T, T]), some (.slice E), some 1, true, c, (0, 0)))
    (hs : Src L S w0 a cs) (hl : cs.length = min n dl) (h1 : ∀ u ∈ cs, u.oneCell' = true) (hfit : o + cs.length ≤ c.length)
    (hn : AtE P f nt (nextK k) (putE e (curDst nt k e) (.int .i64 (cs.length : Int))) (setL L j (over c o cs)) S w0 R) : AtE P f nt k e L S w0 R := by
  simp only [Prod.mk.injEq] at h
  obtain ⟨h1', h2, h3, h5, h6, h7⟩ := h
  obtain ⟨op, cl, hc, ho, hcb, ha, ht⟩ := asBuiltin_spec h1'
  refine AtE.opB hc ho hcb ha ht (by simp) fun W hm => ?_
  have hh := hm.heapAt h5
  rw [h6, h7] at hh
  refine ⟨_, W.setRow (blkL L j) ⟨over c o cs⟩, run_lift (v := .int .i64 (cs.length : Int)) ?_, fun t hk => hn t _ hk (hm.setRow h5 _)⟩
  have := run_copy_row (P := P) W T T op.type E (blkL L j) o dl dc a n m ⟨c⟩ (elemL L j) cs h2 h3 hh (by rw [hl]) (hs W hm) (by simpa using hfit) h1
  rw [this]
  simp [goInt, over]
end Go.Eng
