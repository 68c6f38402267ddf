/- Contracts and plain laws for the proof; no claim of its own. -/
import Derived.Test.YtbbakbekhhgkgaaTwEngInl
import Derived.Test.YtbbakbekhhgkgaaTwEngArith
namespace Go.Eng
open Go Go.RowKit

/-! ### What a disk is: plain -/

abbrev bts (s : ByteArray) : List UInt8 := s.data.toList
theorem bts_len (s : ByteArray) : (bts s).length = s.size := rfl

def ovr {α : Type} (b : List α) (o : Nat) (s : List α) : List α := b.take o ++ s ++ b.drop (o + s.length)
theorem over_ovr (b : List Value) (o : Nat) (s : List Value) : over b o s = ovr b o s := rfl
theorem ovr_len {α : Type} {b : List α} {o : Nat} {s : List α} (h : o + s.length ≤ b.length) : (ovr b o s).length = b.length := by simp [ovr]; omega
theorem ovr_nil {α : Type} (b : List α) (o : Nat) : ovr b o [] = b := by simp [ovr]
theorem bytesL_ovr (b : List UInt8) (o : Nat) (s : List UInt8) : over (bytesL b) o (bytesL s) = bytesL (ovr b o s) := by
  simp [over, ovr, bytesL]
theorem bytesL_length (l : List UInt8) : (bytesL l).length = l.length := by simp [bytesL]
theorem ovr_all {α : Type} {b s : List α} (h : b.length = s.length) : ovr b 0 s = s := by simp [ovr, List.drop_of_length_le (by omega : b.length ≤ s.length)]

structure DS where
  on : Bool
  cut : Nat
  dur : List UInt8
  vis : List UInt8
  pend : List (Nat × ByteArray)

structure DOk (d : DS) : Prop where
  len : d.dur.length = d.vis.length
  pos : 0 < d.vis.length
  le : d.vis.length ≤ 4194304
  cut : d.cut ≤ 9223372036854775807
  pend : ∀ p ∈ d.pend, p.1 + p.2.size ≤ d.vis.length

def DS.spend (d : DS) : DS := if d.cut = 0 then d else if d.cut = 1 then { d with on := false, cut := 0 } else { d with cut := d.cut - 1 }
def DS.put (d : DS) (o : Nat) (s : ByteArray) : DS := { d with pend := d.pend ++ [(o, s)], vis := ovr d.vis o (bts s) }
def DS.write (d : DS) (off : Int) (s : ByteArray) : Int × DS :=
  if d.on = false then (231, d) else if 0 ≤ off ∧ off + s.size ≤ d.vis.length then (0, (d.put off.toNat s).spend) else (230, d)
def DS.sync (d : DS) : Int × DS := if d.on = false then (231, d) else (0, { d with dur := d.vis, pend := [] })
def DS.read (d : DS) (off n : Int) : ByteArray × Int :=
  if d.on = false then (⟨#[]⟩, 231) else if 0 ≤ off ∧ 0 ≤ n ∧ off + n ≤ d.vis.length then (⟨((d.vis.drop off.toNat).take n.toNat).toArray⟩, 0) else (⟨#[]⟩, 230)
def DS.cutAt (d : DS) (n : Int) : Int × DS :=
  if d.on = false then (231, d) else if n < 0 then (2, d) else if n = 0 then (0, { d with on := false, cut := 0 }) else (0, { d with cut := n.toNat })

/-- Which of p pending writes survive, and the last of them. -/
def keepGo (p : Nat) : List Int → List Bool → Int → List Bool × Int
  | [], sv, last => (sv, last)
  | n :: r, sv, last => if 0 ≤ n ∧ n < p then keepGo p r (sv.set n.toNat true) (if n > last then n else last) else keepGo p r sv last
def tornD (last torn : Int) (i : Nat) (s : ByteArray) : List UInt8 := if (i : Int) = last ∧ 0 ≤ torn ∧ torn < s.size then (bts s).take torn.toNat else bts s
def crashGo (last torn : Int) (sv : List Bool) : Nat → List (Nat × ByteArray) → List UInt8 → List UInt8
  | _, [], b => b
  | i, (o, s) :: r, b => crashGo last torn sv (i + 1) r (if sv.getD i false = true then ovr b o (tornD last torn i s) else b)
def DS.crashed (d : DS) (keep : List Int) (torn : Int) : List UInt8 :=
  crashGo (keepGo d.pend.length keep (List.replicate d.pend.length false) (-1)).2 torn (keepGo d.pend.length keep (List.replicate d.pend.length false) (-1)).1 0 d.pend d.dur
def DS.crash (d : DS) (keep : List Int) (torn : Int) : DS :=
  { on := true, cut := 0, dur := d.crashed keep torn, vis := d.crashed keep torn, pend := [] }

theorem tornD_len (last torn : Int) (i : Nat) (s : ByteArray) : (tornD last torn i s).length ≤ s.size := by
  unfold tornD; split
  · rw [List.length_take]; exact Nat.min_le_right _ _
  · exact Nat.le_refl _
theorem crashGo_len (last torn : Int) (sv : List Bool) : ∀ (r : List (Nat × ByteArray)) (i : Nat) (b : List UInt8), (∀ p ∈ r, p.1 + p.2.size ≤ b.length) → (crashGo last torn sv i r b).length = b.length
  | [], _, _, _ => rfl
  | (o, s) :: r, i, b, h => by
    have h0 := h (o, s) (by simp)
    have h1 := tornD_len last torn i s
    have hb : (if sv.getD i false = true then ovr b o (tornD last torn i s) else b).length = b.length := by
      split
      · exact ovr_len (by simp at h0; omega)
      · rfl
    rw [crashGo, crashGo_len last torn sv r (i + 1) _ (fun p hp => by rw [hb]; exact h p (by simp [hp])), hb]

theorem DOk.spend {d : DS} (h : DOk d) : DOk d.spend := by
  unfold DS.spend
  split
  · exact h
  · split
    · exact ⟨h.len, h.pos, h.le, by simp, h.pend⟩
    · exact ⟨h.len, h.pos, h.le, by have := h.cut; simp only; omega, h.pend⟩
theorem DOk.put {d : DS} (h : DOk d) {o : Nat} {s : ByteArray} (hb : o + s.size ≤ d.vis.length) : DOk (d.put o s) := by
  have hl : (ovr d.vis o (bts s)).length = d.vis.length := ovr_len hb
  refine ⟨by simp only [DS.put, hl, h.len], by simp only [DS.put, hl, h.pos], by simp only [DS.put, hl, h.le], h.cut, fun p hp => ?_⟩
  simp only [DS.put, hl] at hp ⊢
  rcases List.mem_append.1 hp with hp | hp
  · exact h.pend p hp
  · simp at hp; subst hp; exact hb
theorem DOk.write {d : DS} (h : DOk d) (off : Int) (s : ByteArray) : DOk (d.write off s).2 := by
  unfold DS.write
  split
  · exact h
  · split
    · next hh => exact DOk.spend (DOk.put h (by omega))
    · exact h
theorem DOk.sync {d : DS} (h : DOk d) : DOk d.sync.2 := by
  unfold DS.sync
  split
  · exact h
  · exact ⟨rfl, h.pos, h.le, h.cut, fun p hp => by cases hp⟩
theorem DOk.cutAt {d : DS} (h : DOk d) {n : Int} (hn : n ≤ 9223372036854775807) : DOk (d.cutAt n).2 := by
  unfold DS.cutAt
  repeat' split
  · exact h
  · exact h
  · exact ⟨h.len, h.pos, h.le, by simp, h.pend⟩
  · exact ⟨h.len, h.pos, h.le, by simp only; omega, h.pend⟩
theorem crashed_len {d : DS} (h : DOk d) (keep : List Int) (torn : Int) : (d.crashed keep torn).length = d.vis.length := by
  rw [DS.crashed, crashGo_len _ _ _ _ _ _ (fun p hp => by rw [h.len]; exact h.pend p hp), h.len]
theorem DOk.crash {d : DS} (h : DOk d) (keep : List Int) (torn : Int) : DOk (d.crash keep torn) := by
  have hl := crashed_len h keep torn
  exact ⟨rfl, by simp only [DS.crash, hl, h.pos], by simp only [DS.crash, hl, h.le], by simp [DS.crash], fun p hp => by cases hp⟩
theorem keepGo_len (p : Nat) : ∀ (l : List Int) (sv : List Bool) (last : Int), (keepGo p l sv last).1.length = sv.length
  | [], _, _ => rfl
  | n :: r, sv, last => by
    unfold keepGo; split
    · rw [keepGo_len, List.length_set]
    · rw [keepGo_len]

def pendCells (l : List (Nat × ByteArray)) : List Value := l.flatMap fun p => [.int .i64 (p.1 : Int), .string p.2]
theorem pendCells_len (l : List (Nat × ByteArray)) : (pendCells l).length = l.length * 2 := by
  induction l with
  | nil => rfl
  | cons p r ih => simp only [pendCells, List.flatMap_cons, List.length_append] at *; simp only [List.length_cons, List.length_nil, ih]; omega
theorem pendCells_append (a b : List (Nat × ByteArray)) : pendCells (a ++ b) = pendCells a ++ pendCells b := by simp [pendCells]
theorem pendCells_at : ∀ (l : List (Nat × ByteArray)) (i : Nat) (h : i < l.length), ((pendCells l).drop (i * 2)).take 2 = [.int .i64 (l[i].1 : Int), .string l[i].2]
  | p :: r, 0, _ => by simp [pendCells]
  | p :: r, i + 1, h => by
    have : (i + 1) * 2 = 2 + i * 2 := by omega
    have hd : pendCells (p :: r) = [.int .i64 (p.1 : Int), .string p.2] ++ pendCells r := by simp [pendCells]
    rw [this, ← List.drop_drop, hd, List.drop_left' (by rfl)]
    simpa using pendCells_at r i (by simpa using h)

/-! ### A disk in memory -/

abbrev hdr (T : Nat) (D DB VB n : Nat) (on : Bool) (cut : Int) (pv : Value) : Nat × Obj :=
  (D, .cells #[.bool on, .int .i64 cut, .slice (some ⟨DB, 0, none⟩) n n, .slice (some ⟨VB, 0, none⟩) n n, pv] T)
/-- td, tb, tw: the numbers of the types Disk, byte and write. -/
def DRepT (td tb tw : Nat) (D : Nat) (d : DS) (F : SHeap) : Prop :=
  DOk d ∧ ∃ DB VB : Nat,
    (d.pend = [] ∧ F = [hdr td D DB VB d.vis.length d.on d.cut (.slice none 0 0), (DB, .cells ⟨bytesL d.dur⟩ tb), (VB, .cells ⟨bytesL d.vis⟩ tb)]) ∨
    ∃ (PB pc : Nat) (r : List Value), d.pend.length ≤ pc ∧ (pendCells d.pend ++ r).length = pc * 2 ∧
      F = [hdr td D DB VB d.vis.length d.on d.cut (.slice (some ⟨PB, 0, none⟩) d.pend.length pc), (DB, .cells ⟨bytesL d.dur⟩ tb), (VB, .cells ⟨bytesL d.vis⟩ tb), (PB, .cells ⟨pendCells d.pend ++ r⟩ tw)]

/-! ### Ends -/
abbrev DK (K : Value → SHeap → Prop) (S : List Nat) (W : World) : Ending → World → Prop := fun e W' => ∃ v L', e = .returned v ∧ Mem L' S W W' ∧ K v L'
theorem DK.fin {K : Value → SHeap → Prop} {L : SHeap} {S : List Nat} {W : World} {v : Value} (h : K v L) : Fin (fun e W' => ∃ v L', e = .returned v ∧ Mem L' S W W' ∧ K v L') L S W v :=
  fun _ hm => ⟨v, L, rfl, hm, h⟩
theorem DK.fin' (is : List Nat) {K : Value → SHeap → Prop} {L L' : SHeap} {S : List Nat} {W : World} {v : Value} (hs : (selL L is, nodupB is) = (L', true)) (h : K v L') :
    Fin (fun e W' => ∃ v L', e = .returned v ∧ Mem L' S W W' ∧ K v L') L S W v := by
  simp only [Prod.mk.injEq] at hs
  obtain ⟨rfl, h2⟩ := hs
  exact fun _ hm => ⟨v, _, rfl, hm.sel (nodupB_spec h2), h⟩

/-- A callee that turns the blocks that it is given, from worlds of which something is known. -/
def EffP (P : Program) (g : FuncId) (args : Array Value) (L0 : SHeap) (Pre : World → Prop) (K : Value → SHeap → Prop) : Prop :=
  ∀ W, Mem L0 (L0.map (·.1)) W W → Pre W → Calls P g args W fun e W' => ∃ v L', e = .returned v ∧ Mem L' (L0.map (·.1)) W W' ∧ K v L'

theorem CallH.effP {P : Program} {L : SHeap} {S : List Nat} {w0 : World} {g : FuncId} {args : Array Value} {L0 L1 : SHeap} {K K' : Value → SHeap → Prop} {Pre : World → Prop} (h : EffP P g args L0 Pre K) (hpre : ∀ W, Mem L S w0 W → Pre W) (hp : (L0 ++ L1).Perm L)
    (hK : ∀ v L', K v L' → ∃ L2, (L' ++ L1).Perm L2 ∧ K' v L2) : CallH P g args L S w0 K' := by
  intro W hm
  have hm' : Mem (L0 ++ L1) S w0 W := hm.perm hp
  have hnd := hm'.nodup
  rw [List.map_append, List.nodup_append] at hnd
  obtain ⟨n0, n1, nd⟩ := hnd
  refine (h W ⟨n0, fun p hp => hm'.here p (List.mem_append_left _ hp), fun p hp => .inr (List.mem_map_of_mem hp), Kept.refl _ W⟩ (hpre W hm)).mono ?_
  rintro e W' ⟨v, L', rfl, hL, hk⟩
  obtain ⟨L2, hp2, hk2⟩ := hK v L' hk
  refine ⟨v, L2, rfl, Mem.perm (L := L' ++ L1) ⟨?_, ?_, ?_, ?_⟩ hp2.symm, hk2⟩
  · rw [List.map_append, List.nodup_append]
    refine ⟨hL.nodup, n1, ?_⟩
    intro a ha b hb hab
    subst hab
    obtain ⟨p, hp, rfl⟩ := List.mem_map.1 ha
    obtain ⟨q, hq, hqe⟩ := List.mem_map.1 hb
    rcases hL.own p hp with h1 | h1
    · have := hm'.lt (List.mem_append_right L0 hq)
      omega
    · exact nd _ h1 _ hb rfl
  · intro p hp
    rcases List.mem_append.1 hp with hp | hp
    · exact hL.here p hp
    · rw [hL.kept.block p.1 (hm'.lt (List.mem_append_right _ hp)) (fun h0 => nd _ h0 _ (List.mem_map_of_mem hp) rfl)]
      exact hm'.here p (List.mem_append_right _ hp)
  · intro p hp
    rcases List.mem_append.1 hp with hp | hp
    · rcases hL.own p hp with h1 | h1
      · exact .inl (Nat.le_trans hm'.kept.size h1)
      · obtain ⟨q, hq, hqe⟩ := List.mem_map.1 h1
        have := hm'.own q (List.mem_append_left _ hq)
        rw [hqe] at this; exact this
    · exact hm'.own p (List.mem_append_right _ hp)
  · refine ⟨hL.kept.os.trans hm'.kept.os, hL.kept.tape.trans hm'.kept.tape, hL.kept.output.trans hm'.kept.output, Nat.le_trans hm'.kept.size hL.kept.size, fun i hi hs => ?_⟩
    rw [hL.kept.block i (Nat.lt_of_lt_of_le hi hm'.kept.size) (fun h0 => ?_)]
    · exact hm'.kept.block i hi hs
    · obtain ⟨q, hq, hqe⟩ := List.mem_map.1 h0
      rcases hm'.own q (List.mem_append_left _ hq) with h1 | h1
      · rw [hqe] at h1; omega
      · rw [hqe] at h1; exact hs h1
end Go.Eng
