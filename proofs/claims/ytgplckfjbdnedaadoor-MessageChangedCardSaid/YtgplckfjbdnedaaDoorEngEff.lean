/- A part of the engine by which the functions are walked; it speaks of no program. -/
import Derived.Test.YtgplckfjbdnedaaDoorEngAny
namespace Go.Eng
open Go Go.RowKit

variable {P : Program} {f nt : Nat} {k : List Item} {e : Env} {L : SHeap} {S : List Nat} {w0 : World} {R : Goal P}

/-! ### Calls that turn known blocks; heaps with a tail that is not told -/

theorem AtE.front {x : Nat × Obj} (hn : AtE P f nt k e (x :: L) S w0 R) : AtE P f nt k e (L ++ [x]) S w0 R :=
  fun t W hk hm => hn t W hk (hm.perm (by simpa using (List.perm_append_comm (l₁ := [x]) (l₂ := L))))

/-- What a callee does with the blocks L0 that it is given; all else stays. -/
def EffC (P : Program) (g : FuncId) (args : Array Value) (L0 : SHeap) (K : Value → SHeap → Prop) : Prop :=
  ∀ W, Mem L0 (L0.map (·.1)) W W → Calls P g args W fun e W' => ∃ v L', e = .returned v ∧ Mem L' (L0.map (·.1)) W W' ∧ K v L'

theorem CallH.eff {g : FuncId} {args : Array Value} {L0 L1 : SHeap} {K K' : Value → SHeap → Prop} (h : EffC P g args L0 K) (hp : (L0 ++ L1).Perm L) (hK : ∀ v L', K v L' → ∃ L2, (L' ++ L1).Perm L2 ∧ K' v L2) : CallH P g args L S w0 K' := by
  intro W hm
  have hm' : Mem (L0 ++ L1) S w0 W := hm.perm hp
  have hnd := hm'.nodup
  rw [List.map_append, List.nodup_append] at hnd
  obtain ⟨n0, n1, nd⟩ := hnd
  refine (h W ⟨n0, fun p hp => hm'.here p (List.mem_append_left _ hp), fun p hp => .inr (List.mem_map_of_mem hp), Kept.refl _ W⟩).mono ?_
  rintro e W' ⟨v, L', rfl, hL, hk⟩
  obtain ⟨L2, hp2, hk2⟩ := hK v L' hk
  refine ⟨v, L2, rfl, Mem.perm (L := L' ++ L1) ⟨?_, ?_, ?_, ?_⟩ hp2.symm, hk2⟩
  · rw [List.map_append, List.nodup_append]
    refine ⟨hL.nodup, n1, ?_⟩
    intro a ha b hb hab
    subst hab
    obtain ⟨p, hp, rfl⟩ := List.mem_map.1 ha
    obtain ⟨q, hq, hqe⟩ := List.mem_map.1 hb
    rcases hL.own p hp with h1 | h1
    · have := hm'.lt (List.mem_append_right L0 hq)
      omega
    · exact nd _ h1 _ hb rfl
  · intro p hp
    rcases List.mem_append.1 hp with hp | hp
    · exact hL.here p hp
    · rw [hL.kept.block p.1 (hm'.lt (List.mem_append_right _ hp)) (fun h0 => nd _ h0 _ (List.mem_map_of_mem hp) rfl)]
      exact hm'.here p (List.mem_append_right _ hp)
  · intro p hp
    rcases List.mem_append.1 hp with hp | hp
    · rcases hL.own p hp with h1 | h1
      · exact .inl (Nat.le_trans hm'.kept.size h1)
      · obtain ⟨q, hq, hqe⟩ := List.mem_map.1 h1
        have := hm'.own q (List.mem_append_left _ hq)
        rw [hqe] at this; exact this
    · exact hm'.own p (List.mem_append_right _ hp)
  · refine ⟨hL.kept.os.trans hm'.kept.os, hL.kept.tape.trans hm'.kept.tape, hL.kept.output.trans hm'.kept.output, Nat.le_trans hm'.kept.size hL.kept.size, fun i hi hs => ?_⟩
    rw [hL.kept.block i (Nat.lt_of_lt_of_le hi hm'.kept.size) (fun h0 => ?_)]
    · exact hm'.kept.block i hi hs
    · obtain ⟨q, hq, hqe⟩ := List.mem_map.1 h0
      rcases hm'.own q (List.mem_append_left _ hq) with h1 | h1
      · rw [hqe] at h1; omega
      · rw [hqe] at h1; exact hs h1

/-- One result that lies in a block. -/
theorem AtE.retC {R : Ending → World → Prop} {fn : Func} {a : Tmp} {T : TypeId} {v : Value} {L1 : SHeap} (j off : Nat) (hf : P.funcs[f]? = some fn)
    (hv : (isRet k, fn.results.toList.length, get? e a, isCellsL L j, valAt P T (cellsL L j) off, L) = (true, 1, some (.pointer (some ⟨blkL L j, off, none⟩)), true, some v, L1)) (hr : fn.results = #[.cell a T])
    (h : Fin R L1 S w0 v) : AtE P f nt k e L S w0 (nrm R) := by
  simp only [Prod.mk.injEq] at hv
  obtain ⟨h1, _, h2, h3, h4, rfl⟩ := hv
  intro t W hk hm
  have hres : (results fn t).run P W = .ok v W := by
    have hld := load_run (P := P) (hm.heapAt h3) h4
    have ht := hk.getD h2
    have ht' : t[a]?.getD undef = .pointer (some ⟨blkL L j, off, none⟩) := by rw [← Array.getD_eq_getD_getElem?]; exact ht
    simp only [Instr.loadAt, Sem.run_bind, Instr.sureAddr, Sem.run_pure, Result.andThen] at hld
    simp [results, hr, ht', asAddr, hld]
  unfold isRet at h1
  split at h1
  · exact At.ret hf hres (h W hm)
  · exact At.fin hf hres (h W hm)
  · cases h1

theorem Mem.selT {A T : SHeap} {W : World} (hm : Mem (A ++ T) S w0 W) {is : List Nat} (h : is.Nodup) : Mem (selL A is ++ T) S w0 W := by
  have hnd := hm.nodup
  rw [List.map_append, List.nodup_append] at hnd
  obtain ⟨n0, n1, nd⟩ := hnd
  have hA : Mem A S w0 W := ⟨n0, fun p hp => hm.here p (List.mem_append_left _ hp), fun p hp => hm.own p (List.mem_append_left _ hp), hm.kept⟩
  have hs := hA.sel h
  have sub : ∀ p ∈ selL A is, p ∈ A := fun p hp => by
    obtain ⟨i, _, hx⟩ := selL_mem hp; exact List.mem_of_getElem? hx
  refine ⟨?_, fun p hp => ?_, fun p hp => ?_, hm.kept⟩
  · rw [List.map_append, List.nodup_append]
    refine ⟨hs.nodup, n1, fun a ha b hb hab => ?_⟩
    obtain ⟨p, hp, rfl⟩ := List.mem_map.1 ha
    exact nd _ (List.mem_map_of_mem (sub p hp)) _ hb hab
  · rcases List.mem_append.1 hp with hp | hp
    · exact hs.here p hp
    · exact hm.here p (List.mem_append_right _ hp)
  · rcases List.mem_append.1 hp with hp | hp
    · exact hs.own p hp
    · exact hm.own p (List.mem_append_right _ hp)

theorem AtE.cutT (is : List Nat) (m : Nat) {k' : List Item} {e' : Env} {L' : SHeap} (hn : AtE P f nt k' e' L' S w0 R) (h : (k, restrict e (e'.map (·.1)), selL (L.take m) is ++ L.drop m, nodupB is) = (k', some e', L', true)) : AtE P f nt k e L S w0 R := by
  simp only [Prod.mk.injEq] at h
  obtain ⟨rfl, h, rfl, hnd⟩ := h
  intro t W hk hm
  have hm' : Mem (L.take m ++ L.drop m) S w0 W := by rw [List.take_append_drop]; exact hm
  exact hn t W ⟨hk.size, fun i v hv => hk.slot i v (restrict_get h i v hv)⟩ (hm'.selT (nodupB_spec hnd))

/-! ### clear -/
/-- n elements of nought. -/
def noughtL (zs : Array Value) (n : Nat) : List Value := (Builtin.zeroCells zs n).toList
theorem noughtL_len (zs : Array Value) (n : Nat) : (noughtL zs n).length = n * zs.size := by simp [noughtL, Builtin.zeroCells]
theorem noughtL_one {zs : Array Value} (h : ∀ u ∈ zs.toList, u.oneCell' = true) (n : Nat) : ∀ u ∈ noughtL zs n, u.oneCell' = true := by
  intro u hu
  simp only [noughtL, Builtin.zeroCells, Array.toList_map, Array.toList_range, List.mem_map, List.mem_range] at hu
  obtain ⟨i, hi, rfl⟩ := hu
  have hpos : 0 < zs.size := by
    rcases Nat.eq_zero_or_pos zs.size with h0 | h0
    · rw [h0, Nat.mul_zero] at hi; omega
    · exact h0
  have hlt : i % zs.size < zs.size := Nat.mod_lt _ hpos
  rw [getElem!_pos zs _ hlt]
  exact h _ (by simp)

theorem AtE.clearO (j : Nat) {T E : TypeId} {o n cap : Nat} {z : Value} {sz bytes : Nat} {c : List Value}
    (h : (asBuiltin nt k e, P.underlying T, infoZ P E, z.cells.size, isCellsL L j, cellsL L j, fzL L j) =
      (some (.clear, [.slice (some ⟨blkL L j, o, none⟩) n cap], [T]), some (.slice E), some (some z, sz, bytes), sz, true, c, (0, 0)))
    (h1 : (z.cells.toList.all fun u => u.oneCell') = true) (hfit : o + n * sz ≤ c.length)
    (hn : AtE P f nt (nextK k) (putE e (curDst nt k e) (.tuple #[])) (setL L j (over c o (noughtL z.cells n))) S w0 R) : AtE P f nt k e L S w0 R := by
  simp only [Prod.mk.injEq] at h
  obtain ⟨hb, h2, h3, h4, h5, h6, h7⟩ := h
  obtain ⟨op, cl, hc, ho, hcb, ha, ht⟩ := asBuiltin_spec hb
  refine AtE.opB hc ho hcb ha ht (by simp) fun W hm => ?_
  have hh := hm.heapAt h5
  rw [h6, h7] at hh
  refine ⟨_, W.setRow (blkL L j) ⟨over c o (noughtL z.cells n)⟩, run_lift (v := .tuple #[]) ?_, fun t hk => hn t _ hk (hm.setRow h5 _)⟩
  have hlen : (noughtL z.cells n).length = n * sz := by rw [noughtL_len, h4]
  have hst := run_storeCells_at P (blkL L j) o (elemL L j) (noughtL z.cells n) 0 ⟨c⟩ W hh (by simp only [Nat.add_zero, List.size_toArray]; omega) (noughtL_one (fun u hu => List.all_eq_true.1 h1 u hu) n)
  show (Builtin.clear_ #[T] op.type #[.slice (some ⟨blkL L j, o, none⟩) n cap]).run P W = _
  have hz : (zeroValue E).run P W = .ok z W := by
    unfold infoZ at h3
    cases hq : P.info? E with
    | none => rw [hq] at h3; cases h3
    | some i =>
      rw [hq] at h3; simp at h3
      simp [zeroValue, typeInfo, hq, h3.1]
  cases n with
  | zero =>
    have hov : over c o (noughtL z.cells 0) = c := by
      have : noughtL z.cells 0 = [] := by apply List.length_eq_zero_iff.1; rw [noughtL_len]; simp
      rw [this, over]; simp
    rw [hov]
    have hset : W.setRow (blkL L j) ⟨c⟩ = W := by
      have hheap : (W.heap.modify (blkL L j) fun x => match x with | Obj.cells _ elem frozen => Obj.cells ⟨c⟩ elem frozen | o => o) = W.heap := by
        apply Array.ext_getElem?
        intro i
        rw [Array.getElem?_modify]
        split
        · next heq => subst heq; rw [hh]; rfl
        · rfl
      have h9 : (W.setRow (blkL L j) ⟨c⟩).heap = W.heap := hheap
      show ({ W with heap := (W.setRow (blkL L j) ⟨c⟩).heap } : World) = W
      rw [h9]
    rw [hset]
    simp [Builtin.clear_, run_underlying h2]
  | succ n =>
    simp [Builtin.clear_, run_underlying h2, hz, Result.andThen]
    have hst' := hst
    simp only [Nat.add_zero, noughtL] at hst'
    rw [hst']
    simp [over, noughtL]
end Go.Eng
