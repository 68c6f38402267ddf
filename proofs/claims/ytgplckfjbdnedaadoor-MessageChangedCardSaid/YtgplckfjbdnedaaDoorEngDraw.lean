/- A part of the engine by which the functions are walked; it speaks of no program. -/
import Derived.Test.YtgplckfjbdnedaaDoorEngMem2
import Derived.Deep.Quiet
import Derived.StillTail
namespace Go.Eng
open Go Go.RowKit

/-! ### A region that draws its order: quiet operations in whatever order, then a tail whose order is forced -/

section
variable {P : Program} {f : FuncId} {ops : Array Oper} {R : Goal P} {C : World → Prop}

def wpAnyLQ (P : Program) (md : Region.Mode) (ops : Array Oper) (C : World → Prop) (n : Nat) (L : Array Bool → Act → Prop) : Nat → Array Bool → Act → Prop
  | 0, listed, a => L listed a
  | f + 1, listed, a =>
    Region.ready md ops listed ≠ [] ∧ ∀ i ∈ Region.ready md ops listed, i < n ∧ qOp P ops C i (wpAnyLQ P md ops C n L f (listed.setIfInBounds i true)) a

theorem wpAnyLQ_first {md : Region.Mode} {n i : Nat} {oi : Oper} {v : Value} {L : Array Bool → Act → Prop} (hi : ops[i]? = some oi) (hsel : ∀ (j : Nat) (o : Oper) cs b, ops[j]? = some o → o.op ≠ .select cs b)
    (hs : n < ops.size → Region.sinkB md ops n = true ∧ Region.chainB md ops n = true) (hin : i < n)
    (hdone : ∀ listed a, L listed a → ∀ j ∈ Region.ready md ops listed, n ≤ j) :
    ∀ (f : Nat) (listed : Array Bool) (a : Act), HeadInv md ops n listed →
      (∀ j oj, ops[j]? = some oj → j ≠ i → listed.getD j true = false → (∀ e ∈ oj.after, Region.binds md e = true → e.on ≠ i) → oi.apart ops oj = true) →
      i ∈ Region.ready md ops listed → YieldsIn P ops C oi v a →
      wpAnyLQ P md ops C n L f (listed.setIfInBounds i true) (a.put oi.dst v) → wpAnyLQ P md ops C n L (f + 1) listed a := by
  have hlt : ∀ listed, HeadInv md ops n listed → listed.getD i true = false → ∀ j ∈ Region.ready md ops listed, j < n := by
    intro listed inv hun j hj
    rcases Nat.lt_or_ge j n with h | h
    · exact h
    · obtain ⟨_, oj, hoj, _⟩ := mem_ready.1 hj
      have hjs : j < ops.size := (Array.getElem?_eq_some_iff.1 hoj).1
      have hn : n < ops.size := by omega
      exact absurd hj (tail_waits (hs hn).1 (hs hn).2 hn inv _ i rfl hin hun j h)
  intro f
  induction f with
  | zero =>
    intro listed a inv _ hr hy H
    have hun := (mem_ready.1 hr).1
    refine ⟨fun h => (by rw [h] at hr; cases hr), fun j hj => ?_⟩
    have hjn := hlt listed inv hun j hj
    refine ⟨hjn, ?_⟩
    by_cases hji : j = i
    · subst hji; exact hy.qOp hi H
    · have := hdone _ _ H j (ready_mono hj hji)
      omega
  | succ f ih =>
    intro listed a inv hfree hr hy H
    have hun := (mem_ready.1 hr).1
    refine ⟨fun h => (by rw [h] at hr; cases hr), fun j hj => ?_⟩
    have hjn := hlt listed inv hun j hj
    refine ⟨hjn, ?_⟩
    by_cases hji : j = i
    · subst hji; exact hy.qOp hi H
    · have h1 := (H.2 j (ready_mono hj hji)).2
      obtain ⟨hjun, oj, hoj, hall⟩ := mem_ready.1 hj
      have hnot : ∀ e ∈ oj.after, Region.binds md e = true → e.on ≠ i := fun e he hb heq => by
        have h1 := hall e he hb
        rw [heq, getD_both hun] at h1
        cases h1
      have h2 := qOp_put hoj (hfree j oj hoj hji hjun hnot) (fun cs b => hsel i oi cs b hi) (fun cs b => hsel j oj cs b hoj) hy h1
      have hfree' : ∀ k ok, ops[k]? = some ok → k ≠ i → (listed.setIfInBounds j true).getD k true = false →
          (∀ e ∈ ok.after, Region.binds md e = true → e.on ≠ i) → oi.apart ops ok = true := fun k ok hk hki hun hno => by
        refine hfree k ok hk hki ?_ hno
        by_cases hjk : j = k
        · subst hjk; exact hjun
        · rw [getD_set_ne true hjk] at hun; exact hun
      refine qOp_mono (fun a' h3 => ih (listed.setIfInBounds j true) a' (inv.set hj hjn) hfree' (ready_mono hr (Ne.symm hji)) h3.1 ?_) h2
      rw [Array.setIfInBounds_comm _ _ hji]
      exact h3.2

theorem wpAnyLQ_lex {md : Region.Mode} {n g : Nat} {Lq : Act → Prop} (hsel : Region.noSelect ops = true) (hs : n < ops.size → Region.sinkB md ops n = true ∧ Region.chainB md ops n = true) :
    ∀ (l : List Oper) (k : Nat) (listed : Array Bool) (a : Act), (∀ j, j < l.length → l[j]? = ops[k + j]?) → k + l.length = n → HeadInv md ops n listed →
    Region.lexHead md ops g l.length k listed = true → wpQuiet P ops C Lq l a →
    wpAnyLQ P md ops C n (fun listed' a' => Region.seqB md ops g n listed' = true ∧ Lq a') l.length listed a
  | [], k, listed, a, _, hk, _, hB, h => by
    have : k = n := by simpa using hk
    subst this
    exact ⟨by simpa [Region.lexHead] using hB, h⟩
  | o :: l, k, listed, a, hl, hk, inv, hB, h => by
    have h0 : ops[k]? = some o := by simpa using (hl 0 (by simp)).symm
    simp only [List.length_cons, Region.lexHead, Bool.and_eq_true] at hB
    obtain ⟨⟨hr, hf⟩, hB'⟩ := hB
    have hkn : k < n := by simp only [List.length_cons] at hk; omega
    have hr' : k ∈ Region.ready md ops listed := by simpa using hr
    have hst : qOp P ops C k (wpQuiet P ops C Lq l) a := by unfold qOp; simp only [h0]; exact h
    obtain ⟨v, hy, hK⟩ := yieldsIn_of_qOp h0 hst
    exact wpAnyLQ_first h0 (Region.noSelect_spec hsel) hs hkn (fun listed' a' hL => seqB_ready hL.1) l.length listed a inv (Region.free_spec h0 hf) hr' hy
      (wpAnyLQ_lex hsel hs l (k + 1) _ _ (fun j hj => by have := hl (j + 1) (by simp; omega); simpa [Nat.add_assoc, Nat.add_comm 1 j] using this) (by simp only [List.length_cons] at hk; omega) (inv.set hr' hkn) hB' hK)

theorem put_defers {a : Act} {d : Option Tmp} {v : Value} (h : a.defers = []) : (a.put d v).defers = [] := by cases d <;> exact h

theorem act_eta {a : Act} (h : a.defers = []) : a = ⟨a.tmps, []⟩ := by cases a; simp at h; subst h; rfl

/-- One operation, whichever comes up. -/
theorem At.ofQ {i : Nat} {rest : List Nat} {k : List Item} {a : Act} {K : Act → Prop} (ha : a.defers = []) (hq : qOp P ops C i K a) {w : World} (hw : C w)
    (hK : ∀ a' w', a'.defers = [] → C w' → K a' → At P f (.inRegion ops rest :: k) a'.tmps w' R) : At P f (.inRegion ops (i :: rest) :: k) a.tmps w R := by
  obtain ⟨t, ds⟩ := a
  simp only at ha
  subst ha
  unfold qOp at hq
  split at hq
  · next ho =>
    refine At.step (fun b cs _ => ?_) (hK _ w rfl hw hq)
    have hs := step_op_skip (P := P) (b := b) (a := ⟨t, R.ds⟩) (k := k) (cs := cs) (w := w) (ops := ops) (i := i) (rest := rest) (by simp [ho])
    simpa only [ho, Option.bind_none, Act.put] using hs
  · next o ho =>
    split at hq
    · next hwt =>
      obtain ⟨v, hv, hn⟩ := hq
      have h3 := hv w hw
      unfold Oper.quietAt at h3
      cases hr : (execOp (Act.mk t []).eval o).run P w with
      | halt x w' => rw [hr] at h3; exact h3.elim
      | ok nx w' =>
        rw [hr] at h3
        cases nx <;> simp only [Oper.quietUpon] at h3
        case value u =>
          obtain ⟨rfl, rfl⟩ := h3
          exact At.value ho hwt hr (hK _ _ (put_defers rfl) hw hn)
        case skip =>
          obtain ⟨rfl, rfl⟩ := h3
          exact At.skipv ho hwt hr (hK _ _ (put_defers rfl) hw hn)
        case enter g args =>
          obtain ⟨rfl, hc⟩ := h3
          refine At.enter ho hwt hr (hc.mono fun e w'' he => ?_)
          exact ⟨v, he.1, hK _ _ (put_defers rfl) he.2 hn⟩
    · next hwt => exact At.unwanted ho (by simpa using hwt) (hK _ _ (put_defers rfl) hw hq)

theorem go_cons (md : Region.Mode) (fuel t : Nat) (listed : Array Bool) : Region.linearise.go md ops (fuel + 1) t listed [] =
    match (Region.ready md ops listed)[t % (Region.ready md ops listed).length]? with
    | some i => i :: Region.linearise.go md ops fuel (t / (Region.ready md ops listed).length) (listed.setIfInBounds i true) []
    | none => [] := by
  show (match (Region.ready md ops listed)[t % (Region.ready md ops listed).length]? with
      | some i => Region.linearise.go md ops fuel (t / (Region.ready md ops listed).length) (listed.setIfInBounds i true) [i]
      | none => [].reverse) = _
  split
  · rw [linearise_go_acc]; rfl
  · rfl

theorem go_seq {md : Region.Mode} : ∀ (g n t : Nat) (listed : Array Bool), Region.seqB md ops g n listed = true → Region.linearise.go md ops g t listed [] = List.range' n g
  | 0, _, _, _, _ => by simp [Region.linearise.go]
  | g + 1, n, t, listed, h => by
    simp only [Region.seqB, Bool.and_eq_true, decide_eq_true_eq] at h
    rw [go_cons, h.1]
    simp only [List.length_singleton, Nat.mod_one, List.getElem?_cons_zero, Nat.div_one]
    rw [go_seq g (n + 1) t _ h.2]
    rfl

theorem At.ofLQ {md : Region.Mode} {n g : Nat} {Lq : Act → Prop} {k : List Item}
    (hL : ∀ a w, a.defers = [] → C w → Lq a → At P f (.inRegion ops (List.range' n g) :: k) a.tmps w R) :
    ∀ (m : Nat) (listed : Array Bool) (a : Act) (w : World) (t : Nat), a.defers = [] → C w →
      wpAnyLQ P md ops C n (fun listed' a' => Region.seqB md ops g n listed' = true ∧ Lq a') m listed a →
      At P f (.inRegion ops (Region.linearise.go md ops (m + g) t listed []) :: k) a.tmps w R
  | 0, listed, a, w, t, ha, hw, h => by
    rw [Nat.zero_add, go_seq g n t listed h.1]
    exact hL a w ha hw h.2
  | m + 1, listed, a, w, t, ha, hw, h => by
    rw [show m + 1 + g = (m + g) + 1 by omega, go_cons]
    have hpos : 0 < (Region.ready md ops listed).length := by
      cases hr : Region.ready md ops listed with
      | nil => exact absurd hr h.1
      | cons x xs => simp
    have hlt : t % (Region.ready md ops listed).length < (Region.ready md ops listed).length := Nat.mod_lt _ hpos
    rw [List.getElem?_eq_getElem hlt]
    have hi := h.2 _ (List.getElem_mem hlt)
    exact At.ofQ ha hi.2 hw (fun a' w' ha' hw' hK => At.ofLQ hL m _ a' w' _ ha' hw' hK)

/-- What the kernel is asked of the region. -/
def drawB (ops : Array Oper) (n : Nat) : Bool :=
  Region.noSelect ops && Nat.ble n ops.size && (Nat.beq n ops.size || (Region.sinkB .any ops n && Region.chainB .any ops n)) && Region.lexHead .any ops (ops.size - n) n 0 (Array.replicate ops.size false)

theorem At.draw {id : Nat} {k : List Item} {t : Array Value} {w : World} (n : Nat) (hm : P.follows .mixedOrders = true) (hB : drawB ops n = true) (hC : C { w with drawn := w.drawn + 1 })
    (h : wpQuiet P ops C (fun a => a.defers = [] → ∀ w', C w' → At P f (.inRegion ops (List.range' n (ops.size - n)) :: k) a.tmps w' R) (ops.toList.take n) ⟨t, []⟩) :
    At P f (.code (.region id ops true) :: k) t w R := by
  simp only [drawB, Bool.and_eq_true, Bool.or_eq_true] at hB
  obtain ⟨⟨⟨hsel, hn⟩, hs⟩, hlex⟩ := hB
  have hn := Nat.le_of_ble_eq_true hn
  have hs' : n < ops.size → Region.sinkB .any ops n = true ∧ Region.chainB .any ops n = true := fun hlt => by
    rcases hs with hs | hs
    · have := Nat.eq_of_beq_eq_true hs; omega
    · exact hs
  have htl : (ops.toList.take n).length = n := by simp; omega
  have inv0 : HeadInv .any ops n (Array.replicate ops.size false) :=
    ⟨by simp, fun j oj _ hl => (by rw [getD_replicate_false] at hl; cases hl), fun t _ ht => getD_in (by simpa using ht) (getD_replicate_false _ _)⟩
  have H := wpAnyLQ_lex (md := .any) (g := ops.size - n) hsel hs' (ops.toList.take n) 0 _ _ (fun j hj => by
    have hj' : j < n := by rw [htl] at hj; exact hj
    simp [hj']) (by simpa using htl) inv0 (by rw [htl]; exact hlex) h
  have hsch : ∀ τ, Region.schedule (P.follows .mixedOrders) ops τ = Region.linearise.go .any ops ops.size τ (Array.replicate ops.size false) [] := fun τ => by
    simp only [Region.schedule, hm, Bool.true_or, if_true]; rfl
  refine At.step (k' := .inRegion ops (Region.schedule (P.follows .mixedOrders) ops (w.tape w.drawn (.order f id))) :: k) (t' := t) (w' := { w with drawn := w.drawn + 1 })
    (fun b cs hb => by have := step_region_draw (P := P) (b := b) (a := ⟨t, R.ds⟩) (k := k) (cs := cs) (w := w) (id := id) (ops := ops); rw [hb] at this; exact this) ?_
  rw [hsch]
  rw [htl] at H
  have key := At.ofLQ (P := P) (f := f) (R := R) (C := C) (ops := ops) (md := .any) (n := n) (g := ops.size - n) (k := k)
    (Lq := fun a => a.defers = [] → ∀ w', C w' → At P f (.inRegion ops (List.range' n (ops.size - n)) :: k) a.tmps w' R)
    (fun a w ha hw hl => hl ha w hw) n (Array.replicate ops.size false) ⟨t, []⟩ { w with drawn := w.drawn + 1 } (w.tape w.drawn (.order f id)) rfl hC H
  rw [show n + (ops.size - n) = ops.size by omega] at key
  exact key
end

/-! ### The judgement inside the quiet part -/

variable {P : Program} {f nt : Nat} {k : List Item} {e : Env} {L : SHeap} {S : List Nat} {w0 : World} {R : Goal P} {ops : Array Oper} {n : Nat} {kk : List Item}

/-- The state of the walk: 'k' is '[.inRegion ops (i, .., n - 1)]': what is left of the quiet part; behind it the tail, then 'kk'. -/
def AtQ (P : Program) (f nt : Nat) (ops : Array Oper) (n : Nat) (kk : List Item) (k : List Item) (e : Env) (L : SHeap) (S : List Nat) (w0 : World) (R : Goal P) : Prop :=
  ∀ i, k = [.inRegion ops (List.range' i (n - i))] → i ≤ n → ∀ t, Knows nt e t →
    wpQuiet P ops (Mem L S w0) (fun a => a.defers = [] → ∀ w', Mem L S w0 w' → At P f (.inRegion ops (List.range' n (ops.size - n)) :: kk) a.tmps w' R) ((ops.toList.take n).drop i) ⟨t, []⟩

def qK (ops : Array Oper) (n : Nat) : List Item := [.inRegion ops (List.range' 0 n)]
def tailK (ops : Array Oper) (n : Nat) (kk : List Item) : List Item := .inRegion ops (List.range' n (ops.size - n)) :: kk

def regOps : List Item → Array Oper
  | .code (.region _ ops _) :: _ => ops
  | _ => #[]
def restK : List Item → List Item
  | _ :: k => k
  | [] => []
def isDraw : List Item → Bool
  | .code (.region _ _ true) :: _ => true
  | _ => false

theorem AtE.draw (n : Nat) (hk : (isDraw k, P.follows .mixedOrders, drawB (regOps k) n) = (true, true, true))
    (h : AtQ P f nt (regOps k) n (restK k) (qK (regOps k) n) e L S w0 R) : AtE P f nt k e L S w0 R := by
  simp only [Prod.mk.injEq] at hk
  obtain ⟨h1, h2, h3⟩ := hk
  unfold isDraw at h1
  split at h1
  · next id ops k' =>
    intro t W hkn hm
    have := h 0 rfl (Nat.zero_le _) t hkn
    simp only [List.drop_zero] at this
    exact At.draw n h2 h3 ⟨hm.nodup, hm.here, hm.own, ⟨hm.kept.os, hm.kept.tape, hm.kept.output, hm.kept.size, hm.kept.block⟩⟩ this
  · cases h1

/-- The quiet part is over. -/
theorem AtQ.done (h : k = [.inRegion ops []]) (hn : AtE P f nt (tailK ops n kk) e L S w0 R) : AtQ P f nt ops n kk k e L S w0 R := by
  intro i hi hle t hk
  rw [h] at hi
  simp only [List.cons.injEq, Item.inRegion.injEq, true_and, and_true] at hi
  have hl := congrArg List.length hi
  simp only [List.length_range', List.length_nil] at hl
  rw [List.drop_eq_nil_of_le (by simp; omega)]
  exact fun _ w' hm => hn t w' hk hm

theorem AtQ.push {i : Nat} {v : Value} (h : get? e i = some v) (hn : AtQ P f nt ops n kk k ((i, v) :: e) L S w0 R) : AtQ P f nt ops n kk k e L S w0 R := by
  intro j hj hle t hk
  refine hn j hj hle t ⟨hk.size, fun j u hj => ?_⟩
  simp only [get?] at hj
  cases hb : Nat.beq i j with
  | true =>
    have : i = j := Nat.eq_of_beq_eq_true hb
    subst this
    rw [hb] at hj; simp only [cond_true, Option.some.injEq] at hj
    subst hj; exact hk.slot i v h
  | false => rw [hb] at hj; exact hk.slot j u hj

theorem range_head {i n j : Nat} {rest : List Nat} (h : i :: rest = List.range' j (n - j)) : j = i ∧ j < n ∧ rest = List.range' (j + 1) (n - (j + 1)) := by
  rcases Nat.eq_zero_or_pos (n - j) with h0 | h0
  · rw [h0] at h; cases h
  · have h1 : n - j = (n - (j + 1)) + 1 := by omega
    rw [h1, List.range'_succ] at h
    exact ⟨(List.cons.inj h).1.symm, by omega, (List.cons.inj h).2⟩

theorem drop_head {i : Nat} {o : Oper} (ho : ops[i]? = some o) (hn : i < n) : (ops.toList.take n).drop i = o :: (ops.toList.take n).drop (i + 1) := by
  have hio : i < ops.toList.length := by have := (Array.getElem?_eq_some_iff.1 ho).1; simpa using this
  have hlt : i < (ops.toList.take n).length := by simp only [List.length_take]; omega
  rw [List.drop_eq_getElem_cons hlt]
  congr 1
  have h1 : (ops.toList.take n)[i]? = some o := by rw [List.getElem?_take, if_pos hn]; simpa using ho
  rw [List.getElem?_eq_getElem hlt] at h1
  exact Option.some.inj h1

/-- One operation, quiet: one value, whatever the world; the known blocks stay. -/
theorem AtQ.opQ {o : Oper} {v : Value} (hc : cur nt k e = some o)
    (hr : ∀ W, Mem L S w0 W → (execOp (rho e) o).run P W = .ok (.value v) W ∨ ∃ g args, (execOp (rho e) o).run P W = .ok (.enter g args) W ∧ Calls P g args W fun en W' => en = .returned v ∧ Mem L S w0 W')
    (hn : AtQ P f nt ops n kk (nextK k) (putE e (curDst nt k e) v) L S w0 R) : AtQ P f nt ops n kk k e L S w0 R := by
  intro j hj hle t hk
  obtain ⟨ops', i, rest, k', rfl, ho, hw, hkn, hp, hd⟩ := cur_spec hc
  simp only [List.cons.injEq, Item.inRegion.injEq] at hj
  obtain ⟨⟨rfl, hj⟩, rfl⟩ := hj
  obtain ⟨rfl, hjn, hrest⟩ := range_head hj
  rw [drop_head ho hjn]
  have hcd : curDst nt (.inRegion ops' (j :: rest) :: []) e = o.dst := by simp only [curDst, hc]
  rw [hcd] at hn
  have hnext := hn (j + 1) (by simp only [nextK, hrest]) (by omega) _ (hk.put hd v [])
  show (if Region.wanted o (yielded ops' (Act.mk t []).tmps) then _ else _)
  rw [if_pos (hk.wanted hw)]
  refine ⟨v, fun W hm => ?_, by rw [put_eta]; exact hnext⟩
  unfold Oper.quietAt
  rw [execOp_congr (Act.mk t []).eval (rho e) o hp (hk.rho hkn [])]
  rcases hr W hm with h | ⟨g, args, h, hcalls⟩
  · rw [h]; exact ⟨rfl, rfl⟩
  · rw [h]; exact ⟨rfl, hcalls⟩

theorem AtQ.opV {o : Oper} {v : Value} (hc : cur nt k e = some o) (hr : ∀ W, Mem L S w0 W → (execOp (rho e) o).run P W = .ok (.value v) W)
    (hn : AtQ P f nt ops n kk (nextK k) (putE e (curDst nt k e) v) L S w0 R) : AtQ P f nt ops n kk k e L S w0 R :=
  AtQ.opQ hc (fun W hm => .inl (hr W hm)) hn

/-- A plain operation, reckoned. -/
def vQ (P : Program) (nt : Nat) (k : List Item) (e : Env) : Value := match (execOp (rho e) (curO nt k e)).run P dw with | .ok (.value v) _ => v | _ => undef

theorem AtQ.pure (hc : cur nt k e = some (curO nt k e)) (h : ∀ W, (execOp (rho e) (curO nt k e)).run P W = .ok (.value (vQ P nt k e)) W)
    (hn : AtQ P f nt ops n kk (nextK k) (putE e (curDst nt k e) (vQ P nt k e)) L S w0 R) : AtQ P f nt ops n kk k e L S w0 R :=
  AtQ.opV hc (fun W _ => h W) hn

/-- The operation that is passed over, its guard being known. -/
def skipO (nt : Nat) (k : List Item) (e : Env) : Option (Option Tmp) :=
  match k with
  | .inRegion ops (i :: _) :: _ => match ops[i]? with
    | some o => match wantedE ops e o with
      | some false => bif dstOk nt o.dst then some o.dst else none
      | _ => none
    | none => none
  | _ => none
def skipD (nt : Nat) (k : List Item) (e : Env) : Option Tmp := match skipO nt k e with | some d => d | none => none

theorem AtQ.skip (h : skipO nt k e = some (skipD nt k e)) (hn : AtQ P f nt ops n kk (nextK k) (putE e (skipD nt k e) undef) L S w0 R) : AtQ P f nt ops n kk k e L S w0 R := by
  intro j hj hle t hk
  generalize skipD nt k e = d at h hn
  unfold skipO at h
  split at h
  · next ops' i rest k' =>
    split at h
    · next o ho =>
      split at h
      · next hw =>
        cases hd : dstOk nt o.dst with
        | false => simp [hd] at h
        | true =>
          simp only [hd, cond_true, Option.some.injEq] at h
          subst h
          simp only [List.cons.injEq, Item.inRegion.injEq] at hj
          obtain ⟨⟨rfl, hj⟩, rfl⟩ := hj
          obtain ⟨rfl, hjn, hrest⟩ := range_head hj
          rw [drop_head ho hjn]
          have hnext := hn (j + 1) (by simp only [nextK, hrest]) (by omega) _ (hk.put hd undef [])
          show (if Region.wanted o (yielded ops' (Act.mk t []).tmps) then _ else _)
          rw [if_neg (by rw [hk.wanted hw]; simp)]
          rw [put_eta]; exact hnext
      · cases h
    · cases h
  · cases h

/-- A call that computes one value, whatever the world. -/
def QCall (P : Program) (g : FuncId) (args : Array Value) (L : SHeap) (S : List Nat) (w0 : World) (v : Value) : Prop :=
  ∀ W, Mem L S w0 W → Calls P g args W fun e W' => e = .returned v ∧ Mem L S w0 W'

theorem QCall.of {g : FuncId} {args : Array Value} {v : Value} (h : PureC P g args v) : QCall P g args L S w0 v := fun W hm => (h W).mono fun _ _ hh => ⟨hh.1, hm.after hh.2⟩

theorem AtQ.call (g : FuncId) (args : Array Value) {v : Value} {L1 : SHeap} (hr : ∀ W, (execOp (rho e) (curO nt k e)).run P W = .ok (.enter g args) W)
    (hc : (cur nt k e, L) = (some (curO nt k e), L1)) (h : QCall P g args L1 S w0 v)
    (hn : AtQ P f nt ops n kk (nextK k) (putE e (curDst nt k e) v) L S w0 R) : AtQ P f nt ops n kk k e L S w0 R := by
  simp only [Prod.mk.injEq] at hc
  obtain ⟨hc, rfl⟩ := hc
  exact AtQ.opQ hc (fun W hm => .inr ⟨g, args, hr W, h W hm⟩) hn
end Go.Eng
