/- Contracts and plain laws for the proof; no claim of its own. -/
import Derived.Test.YtgplckfjbdnedaaDoorMsgC2
import Derived.Test.YtgplckfjbdnedaaDoorMsgAs
import Derived.Test.YtgplckfjbdnedaaDoorEngM4
namespace Go.Eng
open Go Go.RowKit Go.Proofs Wire
set_option linter.unusedVariables false

/-! ### Worlds -/
theorem Mem.pre {A B : SHeap} {S : List Nat} {w0 W : World} (hm : Mem (A ++ B) S w0 W) : Mem A S w0 W :=
  ⟨by have := hm.nodup; rw [List.map_append] at this; exact (List.nodup_append.1 this).1, fun p hp => hm.here p (List.mem_append_left _ hp), fun p hp => hm.own p (List.mem_append_left _ hp), hm.kept⟩
theorem Mem.alloc0 {L : SHeap} {S : List Nat} {w0 W : World} (hm : Mem L S w0 W) (o : Obj) : Mem L S w0 (W.alloc o) := Mem.pre (B := [(W.heap.size, o)]) (hm.alloc o)
theorem Mem.frame {L0 L1 L' : SHeap} {S : List Nat} {w0 W W' : World} (hm' : Mem (L0 ++ L1) S w0 W) (hL : Mem L' (L0.map (·.1)) W W') : Mem (L' ++ L1) S w0 W' := by
  have hnd := hm'.nodup
  rw [List.map_append, List.nodup_append] at hnd
  obtain ⟨n0, n1, nd⟩ := hnd
  refine ⟨?_, ?_, ?_, ?_⟩
  · rw [List.map_append, List.nodup_append]
    refine ⟨hL.nodup, n1, ?_⟩
    intro a ha b hb hab
    subst hab
    obtain ⟨p, hp, rfl⟩ := List.mem_map.1 ha
    obtain ⟨q, hq, hqe⟩ := List.mem_map.1 hb
    rcases hL.own p hp with h1 | h1
    · have := hm'.lt (List.mem_append_right L0 hq)
      omega
    · exact nd _ h1 _ hb rfl
  · intro p hp
    rcases List.mem_append.1 hp with hp | hp
    · exact hL.here p hp
    · rw [hL.kept.block p.1 (hm'.lt (List.mem_append_right _ hp)) (fun h0 => nd _ h0 _ (List.mem_map_of_mem hp) rfl)]
      exact hm'.here p (List.mem_append_right _ hp)
  · intro p hp
    rcases List.mem_append.1 hp with hp | hp
    · rcases hL.own p hp with h1 | h1
      · exact .inl (Nat.le_trans hm'.kept.size h1)
      · obtain ⟨q, hq, hqe⟩ := List.mem_map.1 h1
        have := hm'.own q (List.mem_append_left _ hq)
        rw [hqe] at this; exact this
    · exact hm'.own p (List.mem_append_right _ hp)
  · refine ⟨hL.kept.os.trans hm'.kept.os, hL.kept.tape.trans hm'.kept.tape, hL.kept.output.trans hm'.kept.output, Nat.le_trans hm'.kept.size hL.kept.size, fun i hi hs => ?_⟩
    rw [hL.kept.block i (Nat.lt_of_lt_of_le hi hm'.kept.size) (fun h0 => ?_)]
    · exact hm'.kept.block i hi hs
    · obtain ⟨q, hq, hqe⟩ := List.mem_map.1 h0
      rcases hm'.own q (List.mem_append_left _ hq) with h1 | h1
      · rw [hqe] at h1; omega
      · rw [hqe] at h1; exact hs h1

/-! ### errors.As, the target being a told block -/
def errT : Value := .iface 79 (.agg #[.pointer (some ⟨2, 48, none⟩)])

theorem As_h {L : SHeap} {S : List Nat} {w0 : World} {K : Value → SHeap → Prop} (j : Nat) {x c : Int} (h : (isCellsL L j, cellsL L j, fzL L j) = (true, [.int .i64 c], (0, 0))) (h1 : 1 ∉ S) (hg : blkW w0 1 = some [errT])
    (hK : K (.bool true) (setL L j [.int .i64 x])) : CallH Tryd.prog 28 ⟨[.iface 46 (.agg #[.int .i64 x]), .iface 51 (.pointer (some ⟨blkL L j, 0, none⟩))]⟩ L S w0 K := by
  simp only [Prod.mk.injEq] at h
  obtain ⟨h2, h3, h4⟩ := h
  intro W hm
  have hB := hm.heapAt h2
  rw [h3, h4] at hB
  have hg' : W.cell? ⟨1, 0, none⟩ = some errT := by
    have := blkW_kept hm.kept h1 hg
    unfold blkW at this
    split at this
    · next c' t fz hh =>
      have hc : c'.toList = [errT] := by simpa using this
      obtain ⟨c'⟩ := c'
      simp only at hc
      subst hc
      simp [World.cell?, hh]
    · cases this
  have ht0 : W.cell? ⟨blkL L j, 0, none⟩ = some (.int .i64 c) := by simp [World.cell?, hB]
  have hf0 : W.frozen? ⟨blkL L j, 0, none⟩ = false := by simp [World.frozen?, hB]
  refine (as_hit x ⟨blkL L j, 0, none⟩ _ W hg' ht0 hf0).mono ?_
  rintro en W' ⟨rfl, rfl⟩
  refine ⟨.bool true, _, rfl, ?_, hK⟩
  have hm4 := (((hm.alloc0 (.cells #[.pointer (some ⟨blkL L j, 0, none⟩)] 51)).alloc0 (.cells #[.pointer (some ⟨2, 51, none⟩), .pointer (some ⟨W.heap.size, 0, none⟩), .int .u64 150] 68)).alloc0 (.cells #[.pointer (some ⟨2, 51, none⟩), .pointer (some ⟨W.heap.size, 0, none⟩), .int .u64 150] 68)).alloc0 (.cells #[.int .i64 x] 46)
  have hB4 := hm4.heapAt h2
  rw [h3] at hB4
  rw [setCell_setRow hB4]
  exact hm4.setRow h2 [.int .i64 x]

/-! ### Decode's deferred closure -/
def EffD (P : Program) (g : FuncId) (args : Array Value) (L0 : SHeap) (Pre : World → Prop) (u : FrameMode) (K : FrameMode → SHeap → Prop) : Prop :=
  ∀ W, Mem L0 (L0.map (·.1)) W W → Pre W → CallsD P g args u W fun e u' W' => ∃ v L', e = .returned v ∧ Mem L' (L0.map (·.1)) W W' ∧ K u' L'

theorem DCall.eff {P : Program} {g : FuncId} {args : Array Value} {L0 L1 L : SHeap} {S : List Nat} {w0 : World} {Pre : World → Prop} {u : FrameMode} {K K' : FrameMode → SHeap → Prop} (h : EffD P g args L0 Pre u K) (hpre : ∀ W, Mem L S w0 W → Pre W) (hp : (L0 ++ L1).Perm L)
    (hK : ∀ u' L', K u' L' → ∃ L2, (L' ++ L1).Perm L2 ∧ K' u' L2) : DCall P g args L S w0 u K' := by
  intro W hm c cs hc
  have hm' : Mem (L0 ++ L1) S w0 W := hm.perm hp
  have hnd := hm'.nodup
  rw [List.map_append, List.nodup_append] at hnd
  obtain ⟨en, u', W', fr, ⟨v, L', h1, h2, h3⟩, h4⟩ := h W ⟨hnd.1, fun p hp => hm'.here p (List.mem_append_left _ hp), fun p hp => .inr (List.mem_map_of_mem hp), Kept.refl _ W⟩ (hpre W hm) c cs hc
  obtain ⟨L2, hp2, hk2⟩ := hK u' L' h3
  exact ⟨en, u', W', fr, ⟨v, L2, h1, (hm'.frame h2).perm hp2.symm, hk2⟩, h4⟩

abbrev mB (B : Nat) (m : MS) : Nat × Obj := (B, .cells #[.int .i64 m.k, .int .i64 m.p, .int .i64 m.q, .int .i64 m.t, .int .i64 m.b, .int .i64 m.v, .string m.d] 23)
abbrev cB (C : Nat) (c : Int) : Nat × Obj := (C, .cells #[.int .i64 c] 26)
def MS.zero : MS := ⟨0, 0, 0, 0, 0, 0, ⟨#[]⟩⟩
abbrev thrown (x : Int) (r : Bool) : FrameMode := .panicking [{ v := .iface 46 (.agg #[.int .i64 x]), recovered := r }]

theorem decR_e (B C : Nat) (m : MS) (c : Int) : EffD Tryd.prog 27 ⟨[.pointer (some ⟨B, 0, none⟩), .pointer (some ⟨C, 0, none⟩)]⟩ [mB B m, cB C c] (fun _ => True) .returning (fun u' L' => u' = .returning ∧ L' = [mB B m, cB C c]) := by
  intro W hm _
  exact decR_vc B C m.k m.p m.q m.t m.b m.v m.d c hm fun W' hm' => ⟨_, _, rfl, hm', rfl, rfl⟩
theorem decP_e (B C : Nat) (m : MS) (c x : Int) : EffD Tryd.prog 27 ⟨[.pointer (some ⟨B, 0, none⟩), .pointer (some ⟨C, 0, none⟩)]⟩ [mB B m, cB C c] (fun W => blkW W 1 = some [errT]) (thrown x false) (fun u' L' => u' = thrown x true ∧ L' = [mB B MS.zero, cB C x]) := by
  intro W hm hg
  have n1 : 1 ∉ ([mB B m, cB C c] : SHeap).map (·.1) := by
    intro hmem
    simp only [List.map_cons, List.map_nil, List.mem_cons, List.not_mem_nil, or_false] at hmem
    rcases hmem with h | h
    · have := hm.here (mB B m) (by simp)
      simp only [← h] at this
      simp [blkW, this] at hg
    · have := hm.here (cB C c) (by simp)
      simp only [← h] at this
      simp [blkW, this, errT] at hg
  refine decP_vc B C m.k m.p m.q m.t m.b m.v m.d c x hm fun B1 => ?_
  refine As_h (L := [_, _, _]) 2 (x := x) (c := 0) rfl n1 hg ⟨_, rfl, rfl, fun _ => ?_, fun h => by cases h⟩
  exact fun W' hm' => ⟨_, [mB B MS.zero, cB C x], rfl, Mem.pre (B := [_]) hm', rfl, rfl⟩
end Go.Eng
