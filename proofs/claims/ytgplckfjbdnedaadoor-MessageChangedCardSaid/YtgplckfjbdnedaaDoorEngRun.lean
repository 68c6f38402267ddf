/- A part of the engine by which the functions are walked; it speaks of no program. -/
import Derived.Test.YtgplckfjbdnedaaDoorEngOps
namespace Go.Eng
open Go Go.RowKit

/-! ### Known blocks -/

abbrev SHeap := List (Nat × Obj)

/-- Outside the blocks S nothing that was there in w0 has turned. -/
structure Kept (S : List Nat) (w0 W : World) : Prop where
  os : W.os = w0.os
  tape : W.tape = w0.tape
  output : W.output = w0.output
  size : w0.heap.size ≤ W.heap.size
  block : ∀ k, k < w0.heap.size → k ∉ S → W.heap[k]? = w0.heap[k]?

structure Mem (L : SHeap) (S : List Nat) (w0 W : World) : Prop where
  nodup : (L.map (·.1)).Nodup
  here : ∀ p ∈ L, W.heap[p.1]? = some p.2
  own : ∀ p ∈ L, w0.heap.size ≤ p.1 ∨ p.1 ∈ S
  kept : Kept S w0 W

theorem Kept.refl (S : List Nat) (w : World) : Kept S w w := ⟨rfl, rfl, rfl, Nat.le_refl _, fun _ _ _ => rfl⟩
theorem Kept.trans {S : List Nat} {a b c : World} (h : Kept S a b) (k : Kept S b c) : Kept S a c :=
  ⟨k.os.trans h.os, k.tape.trans h.tape, k.output.trans h.output, Nat.le_trans h.size k.size, fun i hi hs => (k.block i (Nat.lt_of_lt_of_le hi h.size) hs).trans (h.block i hi hs)⟩
theorem Kept.below {w W : World} (h : Kept [] w W) : Below w.heap.size w W := ⟨h.os, h.tape, h.output, h.size, fun k hk => h.block k hk (by simp)⟩
theorem Kept.of_below {w W : World} (h : Below w.heap.size w W) (S : List Nat) : Kept S w W := ⟨h.os, h.tape, h.output, h.size, fun k hk _ => h.block k hk⟩
theorem Kept.mono {S S' : List Nat} {w W : World} (h : Kept S w W) (hs : ∀ x ∈ S, x ∈ S') : Kept S' w W := ⟨h.os, h.tape, h.output, h.size, fun k hk hn => h.block k hk (fun hm => hn (hs k hm))⟩
theorem Mem.start (S : List Nat) (w : World) : Mem [] S w w := ⟨by simp, by simp, by simp, Kept.refl S w⟩

theorem Mem.lt {L : SHeap} {S : List Nat} {w0 W : World} (h : Mem L S w0 W) {p : Nat × Obj} (hp : p ∈ L) : p.1 < W.heap.size := by
  have := h.here p hp
  rcases Nat.lt_or_ge p.1 W.heap.size with h | h
  · exact h
  · rw [Array.getElem?_eq_none h] at this; cases this

/-- A callee (or an operation) that turned nothing that was there. -/
theorem Mem.after {L : SHeap} {S : List Nat} {w0 W W' : World} (h : Mem L S w0 W) (hb : Below W.heap.size W W') : Mem L S w0 W' :=
  ⟨h.nodup, fun p hp => (hb.block p.1 (h.lt hp)).trans (h.here p hp), h.own, h.kept.trans (Kept.of_below hb S)⟩

theorem Mem.alloc {L : SHeap} {S : List Nat} {w0 W : World} (h : Mem L S w0 W) (o : Obj) : Mem (L ++ [(W.heap.size, o)]) S w0 { W with heap := W.heap.push o } := by
  refine ⟨?_, ?_, ?_, ?_⟩
  · rw [List.map_append, List.nodup_append]
    refine ⟨h.nodup, by simp, ?_⟩
    intro a ha b hb
    obtain ⟨p, hp, rfl⟩ := List.mem_map.1 ha
    simp at hb
    have := h.lt hp
    omega
  · intro p hp
    rcases List.mem_append.1 hp with hp | hp
    · have := h.lt hp
      show (W.heap.push o)[p.1]? = _
      rw [Array.getElem?_push, if_neg (by omega)]
      exact h.here p hp
    · simp at hp
      subst hp
      show (W.heap.push o)[W.heap.size]? = _
      simp
  · intro p hp
    rcases List.mem_append.1 hp with hp | hp
    · exact h.own p hp
    · simp at hp
      subst hp
      exact .inl h.kept.size
  · refine h.kept.trans ⟨rfl, rfl, rfl, by simp, fun k hk _ => ?_⟩
    show (W.heap.push o)[k]? = _
    rw [Array.getElem?_push, if_neg (by omega)]

theorem nodup_unique {L : SHeap} (h : (L.map (·.1)).Nodup) {p q : Nat × Obj} (hp : p ∈ L) (hq : q ∈ L) (e : p.1 = q.1) : p = q := by
  induction L with
  | nil => cases hp
  | cons x r ih =>
    simp only [List.map_cons, List.nodup_cons, List.mem_map, not_exists, not_and] at h
    cases hp with
    | head => cases hq with
      | head => rfl
      | tail _ hq => exact absurd e.symm (h.1 q hq)
    | tail _ hp => cases hq with
      | head => exact absurd e (h.1 p hp)
      | tail _ hq => exact ih h.2 hp hq

/-- A block of L is replaced by another object. -/
theorem Mem.setObj {L : SHeap} {S : List Nat} {w0 W : World} (h : Mem L S w0 W) {j : Nat} {B : Nat} {o : Obj} (hj : L[j]? = some (B, o)) (o' : Obj)
    {W' : World} (hos : W'.os = W.os) (ht : W'.tape = W.tape) (ho : W'.output = W.output) (hh : W'.heap = W.heap.setIfInBounds B o') : Mem (L.set j (B, o')) S w0 W' := by
  have hm : (B, o) ∈ L := List.mem_of_getElem? hj
  have hB := h.lt hm
  have hjl : j < L.length := (List.getElem?_eq_some_iff.1 hj).1
  have hfst : (L.set j (B, o')).map (·.1) = L.map (·.1) := by
    rw [List.map_set]
    apply List.ext_getElem?
    intro i
    rw [List.getElem?_set]
    split
    · next e =>
      subst e
      simp only [List.length_map, hjl, if_true]
      rw [List.getElem?_map, hj]; rfl
    · rfl
  refine ⟨by rw [hfst]; exact h.nodup, ?_, ?_, ?_⟩
  · intro p hp
    rw [hh, Array.getElem?_setIfInBounds]
    rcases List.mem_or_eq_of_mem_set hp with hp' | hp'
    · by_cases e : B = p.1
      · have := nodup_unique h.nodup hm hp' e
        subst this
        -- p is the old one: it lies at index j only, where the new one lies now
        have hnd : ((L.set j (B, o')).map (·.1)).Nodup := by rw [hfst]; exact h.nodup
        have h2 : (B, o') ∈ L.set j (B, o') := List.mem_iff_getElem?.2 ⟨j, by rw [List.getElem?_set]; simp [hjl]⟩
        have := nodup_unique hnd hp h2 rfl
        rw [this]; simp [hB]
      · rw [if_neg e]; exact h.here p hp'
    · subst hp'; simp [hB]
  · intro p hp
    rcases List.mem_or_eq_of_mem_set hp with hp' | hp'
    · exact h.own p hp'
    · subst hp'; exact h.own (B, o) hm
  · refine ⟨hos.trans h.kept.os, ht.trans h.kept.tape, ho.trans h.kept.output, by rw [hh]; simp; exact h.kept.size, fun k hk hs => ?_⟩
    rw [hh, Array.getElem?_setIfInBounds]
    rw [if_neg]
    · exact h.kept.block k hk hs
    · intro e
      subst e
      rcases h.own _ hm with h' | h'
      · simp at h'; omega
      · exact hs h'

/-! ### The judgement over known slots and known blocks -/

def AtE (P : Program) (f nt : Nat) (k : List Item) (e : Env) (L : SHeap) (S : List Nat) (w0 : World) (R : Goal P) : Prop :=
  ∀ t W, Knows nt e t → Mem L S w0 W → At P f k t W R

def wantedE (ops : Array Oper) (e : Env) (o : Oper) : Option Bool :=
  match o.guard with
  | none => some true
  | some (j, want) =>
    match ops[j]? with
    | none => some false
    | some oj =>
      match oj.dst with
      | none => some false
      | some d =>
        match get? e d with
        | some (.bool b) => match b, want with | true, true => some true | false, false => some true | true, false => some false | false, true => some false
        | some (.tuple _) => some false
        | _ => none

theorem Knows.wanted {nt : Nat} {e : Env} {t : Array Value} (h : Knows nt e t) {ops : Array Oper} {o : Oper} {b : Bool} (hw : wantedE ops e o = some b) :
    Region.wanted o (yielded ops t) = b := by
  unfold wantedE at hw
  unfold Region.wanted
  split at hw
  · next hg => rw [hg]; simpa using hw
  · next j want hg =>
    rw [hg]
    simp only
    unfold yielded
    split at hw
    · next ho => rw [ho]; simp at hw; subst hw; rfl
    · next oj ho =>
      rw [ho]
      simp only [Option.bind_some]
      split at hw
      · next hd => rw [hd]; simp at hw; subst hw; rfl
      · next d hd =>
        rw [hd]
        simp only [Option.bind_some]
        split at hw
        · next b' hget =>
          rw [h.slot d _ hget]
          cases b' <;> cases want <;> simp at hw <;> subst hw <;> rfl
        · next vs hget =>
          rw [h.slot d _ hget]
          simp at hw; subst hw; rfl
        · cases hw

/-- The operation that stands next, if it is to be carried out and all its operands are known. -/
def cur (nt : Nat) (k : List Item) (e : Env) : Option Oper :=
  match k with
  | .inRegion ops (i :: _) :: _ =>
    match ops[i]? with
    | some o => match wantedE ops e o with
      | some true => bif known e o.op && (plainOp o.op && dstOk nt o.dst) then some o else none
      | _ => none
    | none => none
  | _ => none

def nextK : List Item → List Item
  | .inRegion ops (_ :: rest) :: k => .inRegion ops rest :: k
  | k => k

theorem cur_spec {nt : Nat} {k : List Item} {e : Env} {o : Oper} (h : cur nt k e = some o) :
    ∃ ops i rest k', k = .inRegion ops (i :: rest) :: k' ∧ ops[i]? = some o ∧ wantedE ops e o = some true ∧ known e o.op = true ∧ plainOp o.op = true ∧ dstOk nt o.dst = true := by
  unfold cur at h
  split at h
  · next ops i rest k' =>
    split at h
    · next o' ho =>
      split at h
      · next hw =>
        cases hb : (known e o'.op && (plainOp o'.op && dstOk nt o'.dst)) with
        | true =>
          rw [hb] at h
          simp only [cond_true, Option.some.injEq] at h
          subst h
          simp only [Bool.and_eq_true] at hb
          exact ⟨_, _, _, _, rfl, ho, hw, hb.1, hb.2.1, hb.2.2⟩
        | false => rw [hb] at h; simp at h
      · cases h
    · cases h
  · cases h

/-- An operation that yields a value, in whatever world; the world may turn. -/
theorem AtE.op {P : Program} {f nt : Nat} {k : List Item} {e : Env} {L : SHeap} {S : List Nat} {w0 : World} {R : Goal P} {o : Oper}
    (hc : cur nt k e = some o)
    (h : ∀ W, Mem L S w0 W → ∃ v W', (execOp (rho e) o).run P W = .ok (.value v) W' ∧ ∀ t, Knows nt (putE e o.dst v) t → At P f (nextK k) t W' R) : AtE P f nt k e L S w0 R := by
  intro t W hk hm
  obtain ⟨ops, i, rest, k', rfl, ho, hw, hkn, hp, hd⟩ := cur_spec hc
  obtain ⟨v, W', hr, hnext⟩ := h W hm
  rw [← execOp_congr (Act.mk t []).eval (rho e) o hp (hk.rho hkn [])] at hr
  exact At.value ho (hk.wanted hw) hr (hnext _ (hk.put hd v []))

theorem AtE.opSkip {P : Program} {f nt : Nat} {k : List Item} {e : Env} {L : SHeap} {S : List Nat} {w0 : World} {R : Goal P} {o : Oper}
    (hc : cur nt k e = some o)
    (h : ∀ W, Mem L S w0 W → ∃ W', (execOp (rho e) o).run P W = .ok .skip W' ∧ ∀ t, Knows nt (putE e o.dst undef) t → At P f (nextK k) t W' R) : AtE P f nt k e L S w0 R := by
  intro t W hk hm
  obtain ⟨ops, i, rest, k', rfl, ho, hw, hkn, hp, hd⟩ := cur_spec hc
  obtain ⟨W', hr, hnext⟩ := h W hm
  rw [← execOp_congr (Act.mk t []).eval (rho e) o hp (hk.rho hkn [])] at hr
  exact At.skipv ho (hk.wanted hw) hr (hnext _ (hk.put hd undef []))

/-! ### Plain steps, reckoned -/

def one (P : Program) (nt : Nat) (k : List Item) (e : Env) (w : World) : Option (List Item × Env × World) :=
  match k with
  | .code .skip :: k => some (k, e, w)
  | .code (.label _) :: k => some (k, e, w)
  | .inBlock _ :: k => some (k, e, w)
  | .code (.seq x y) :: k => some (.code x :: .code y :: k, e, w)
  | .code (.cond c x y) :: k => match ev e c with
    | some (.bool b) => match b with
      | true => some (.code x :: k, e, w)
      | false => some (.code y :: k, e, w)
    | _ => none
  | .code (.block id c) :: k => some (.code c :: .inBlock id :: k, e, w)
  | .code (.loop c) :: k => some (.code c :: .inLoop c :: k, e, w)
  | .inLoop c :: k => some (.code c :: .inLoop c :: k, e, w)
  | .code (.exit id) :: k => match exitTo id k with
    | some k' => some (k', e, w)
    | none => none
  | .code (.region _ ops draw) :: k => match draw with
    | false => some (.inRegion ops (List.range ops.size) :: k, e, w)
    | true => none
  | .inRegion _ [] :: k => some (k, e, w)
  | .inRegion ops (i :: rest) :: k => match ops[i]? with
    | none => some (.inRegion ops rest :: k, e, w)
    | some o => match wantedE ops e o with
      | none => none
      | some false => bif dstOk nt o.dst then some (.inRegion ops rest :: k, putE e o.dst undef, w) else none
      | some true => bif known e o.op && (plainOp o.op && dstOk nt o.dst) then
          match (execOp (rho e) o).run P w with
          | .ok (.value v) w' => some (.inRegion ops rest :: k, putE e o.dst v, w')
          | .ok .skip w' => some (.inRegion ops rest :: k, putE e o.dst undef, w')
          | _ => none
        else none
  | _ => none

theorem one_sound {P : Program} {f nt : Nat} {k k' : List Item} {e e' : Env} {w w' : World} {t : Array Value} {R : Goal P}
    (h : one P nt k e w = some (k', e', w')) (hk : Knows nt e t) (hnext : ∀ t', Knows nt e' t' → At P f k' t' w' R) : At P f k t w R := by
  unfold one at h
  split at h
  · simp at h; obtain ⟨rfl, rfl, rfl⟩ := h; exact At.step (fun _ _ _ => step_skip) (hnext t hk)
  · simp at h; obtain ⟨rfl, rfl, rfl⟩ := h; exact At.step (fun _ _ _ => step_label) (hnext t hk)
  · simp at h; obtain ⟨rfl, rfl, rfl⟩ := h; exact At.step (fun _ _ _ => step_inBlock) (hnext t hk)
  · simp at h; obtain ⟨rfl, rfl, rfl⟩ := h; exact At.step (fun _ _ _ => step_seq) (hnext t hk)
  · next c x y k =>
    split at h
    · next b hb =>
      have hc := hk.ev hb []
      cases b
      · simp at h; obtain ⟨rfl, rfl, rfl⟩ := h; exact At.step (fun _ _ _ => step_cond (t := false) hc) (hnext t hk)
      · simp at h; obtain ⟨rfl, rfl, rfl⟩ := h; exact At.step (fun _ _ _ => step_cond (t := true) hc) (hnext t hk)
    · cases h
  · simp at h; obtain ⟨rfl, rfl, rfl⟩ := h; exact At.step (fun _ _ _ => step_block) (hnext t hk)
  · simp at h; obtain ⟨rfl, rfl, rfl⟩ := h; exact At.step (fun _ _ _ => step_loop) (hnext t hk)
  · simp at h; obtain ⟨rfl, rfl, rfl⟩ := h; exact At.step (fun _ _ _ => step_inLoop) (hnext t hk)
  · next id k =>
    split at h
    · next k2 hx => simp at h; obtain ⟨rfl, rfl, rfl⟩ := h; exact At.step (fun _ _ _ => step_exit hx) (hnext t hk)
    · cases h
  · next id ops draw k =>
    cases draw
    · simp at h; obtain ⟨rfl, rfl, rfl⟩ := h; exact At.step (fun _ _ _ => step_region) (hnext t hk)
    · simp at h
  · simp at h; obtain ⟨rfl, rfl, rfl⟩ := h; exact At.step (fun _ _ _ => step_region_end) (hnext t hk)
  · next ops i rest k =>
    split at h
    · next ho =>
      simp at h; obtain ⟨rfl, rfl, rfl⟩ := h
      refine At.step (fun b cs _ => ?_) (hnext t hk)
      have hs := step_op_skip (P := P) (b := b) (a := ⟨t, R.ds⟩) (k := k) (cs := cs) (w := w) (ops := ops) (i := i) (rest := rest) (by simp [ho])
      simpa only [ho, Option.bind_none, Act.put] using hs
    · next o ho =>
      split at h
      · cases h
      · next hw =>
        cases hd : dstOk nt o.dst with
        | true =>
          simp [hd] at h; obtain ⟨rfl, rfl, rfl⟩ := h
          exact At.unwanted ho (hk.wanted hw) (hnext _ (hk.put hd undef []))
        | false => simp [hd] at h
      · next hw =>
        cases hb : (known e o.op && (plainOp o.op && dstOk nt o.dst)) with
        | false => rw [hb] at h; simp at h
        | true =>
          rw [hb] at h
          simp only [Bool.and_eq_true] at hb
          simp only [cond_true] at h
          have hcg := execOp_congr (Act.mk t []).eval (rho e) o hb.2.1 (hk.rho hb.1 [])
          split at h
          · next v w2 hr =>
            simp at h; obtain ⟨rfl, rfl, rfl⟩ := h
            exact At.value ho (hk.wanted hw) (by rw [hcg]; exact hr) (hnext _ (hk.put hb.2.2 v []))
          · next w2 hr =>
            simp at h; obtain ⟨rfl, rfl, rfl⟩ := h
            exact At.skipv ho (hk.wanted hw) (by rw [hcg]; exact hr) (hnext _ (hk.put hb.2.2 undef []))
          · cases h
  · cases h

def run (P : Program) (nt : Nat) : Nat → List Item → Env → World → Option (List Item × Env × World)
  | 0, k, e, w => some (k, e, w)
  | n + 1, k, e, w => match one P nt k e w with
    | some (k', e', w') => run P nt n k' e' w'
    | none => none

theorem run_sound {P : Program} {f nt : Nat} {R : Goal P} : ∀ (n : Nat) {k k' : List Item} {e e' : Env} {w w' : World} {t : Array Value}
    (_ : run P nt n k e w = some (k', e', w')) (_ : Knows nt e t) (_ : ∀ t', Knows nt e' t' → At P f k' t' w' R), At P f k t w R
  | 0, _, _, _, _, _, _, t, h, hk, hnext => by
    simp [run] at h; obtain ⟨rfl, rfl, rfl⟩ := h; exact hnext t hk
  | n + 1, _, _, _, _, _, _, t, h, hk, hnext => by
    simp only [run] at h
    split at h
    · next k2 e2 w2 h1 => exact one_sound h1 hk fun t' hk' => run_sound n h hk' hnext
    · cases h

def dw : World := default

def kN (P : Program) (nt n : Nat) (k : List Item) (e : Env) : List Item := match run P nt n k e dw with | some (k', _, _) => k' | none => []
def eN (P : Program) (nt n : Nat) (k : List Item) (e : Env) : Env := match run P nt n k e dw with | some (_, e', _) => e' | none => []

/-- n plain steps that turn no world. -/
theorem AtE.run {P : Program} {f nt : Nat} {k : List Item} {e : Env} {L : SHeap} {S : List Nat} {w0 : World} {R : Goal P} (n : Nat)
    (h : ∀ W, Eng.run P nt n k e W = some (kN P nt n k e, eN P nt n k e, W)) (hnext : AtE P f nt (kN P nt n k e) (eN P nt n k e) L S w0 R) : AtE P f nt k e L S w0 R :=
  fun _ W hk hm => run_sound n (h W) hk fun t' hk' => hnext t' W hk' hm
end Go.Eng
