/-
  A small engine for walking a function of the translated program: symbolic execution of one activation, whose plain steps are reckoned by the kernel
  ('run ..' is a function on code, an environment of known slots, and a world), with a rule for each operation that needs a fact.
  Nothing of a particular program stands here.
-/
import Derived.Calls
import Derived.Below
import Derived.KernelRfl
import Derived.WalkKit
namespace Go.Eng
open Go Go.RowKit

/-! ### One activation -/

theorem put_eta (t : Array Value) (ds : List Deferred) (d : Option Tmp) (v : Value) : ((Act.mk t ds).put d v) = ⟨((Act.mk t []).put d v).tmps, ds⟩ := by cases d <;> rfl

/-- Where an activation has to come to: its deferred calls, and what the machine must come to from here on; whoever steps into such a state is in one. -/
structure Goal (P : Program) where
  ds : List Deferred
  ok : Frame → List Frame → Machine → Prop
  back : ∀ b cs m m1, Steps P m m1 → ok b cs m1 → ok b cs m

/-- The plain goal: the call comes to its end, and R holds there. -/
def nrm {P : Program} (R : Ending → World → Prop) : Goal P where
  ds := []
  ok b cs m := b.kind = .normal → ∃ e w' fr, R e w' ∧ Comes P m (lone fr cs w') e ∧ fr.fn = b.fn ∧ fr.leaving P w' e
  back b cs m m1 hs h hk := by
    obtain ⟨e, w', fr, hr, hc, hl⟩ := h hk
    exact ⟨e, w', fr, hr, Comes.of_steps hs hc, hl⟩

/-- The same with deferred calls that are still to come. -/
def dfr {P : Program} (ds : List Deferred) (R : Ending → World → Prop) : Goal P := { (nrm (P := P) R) with ds := ds }

def At (P : Program) (f : FuncId) (k : List Item) (t : Array Value) (w : World) (R : Goal P) : Prop :=
  ∀ (b : Frame) (cs : List Frame), b.fn = f → R.ok b cs (lone (b.at ⟨t, R.ds⟩ k) cs w)

theorem At.calls {P : Program} {f : FuncId} {fn : Func} {c : Code} {args : Array Value} {w : World} {R : Ending → World → Prop}
    (hf : P.funcs[f]? = some fn) (hb : fn.body = some c)
    (h : At P f [.code c] (args ++ Array.replicate (fn.ntmps - args.size) undef) w (nrm R)) : Calls P f args w R := by
  intro cs
  have henter : Frame.enter P f args .normal =
      ({ (default : Frame) with fn := f, kind := .normal } : Frame).at { tmps := args ++ Array.replicate (fn.ntmps - args.size) undef, defers := [] } [.code c] := by
    simp [Frame.enter, Frame.at, hf, hb]
  rw [henter]
  exact h _ cs rfl rfl

theorem At.step {P : Program} {f : FuncId} {k k' : List Item} {t t' : Array Value} {w w' : World} {R : Goal P}
    (hs : ∀ (b : Frame) (cs : List Frame), b.fn = f → Go.step P (lone (b.at ⟨t, R.ds⟩ k) cs w) = .next (lone (b.at ⟨t', R.ds⟩ k') cs w'))
    (h : At P f k' t' w' R) : At P f k t w R :=
  fun b cs hb => R.back _ _ _ _ (.one (hs b cs hb)) (h b cs hb)

theorem At.value {P : Program} {f : FuncId} {k : List Item} {t : Array Value} {w w' : World} {R : Goal P} {ops : Array Oper} {i : Nat} {rest : List Nat} {o : Oper} {v : Value}
    (ho : ops[i]? = some o) (hw : Region.wanted o (yielded ops t) = true) (hr : (execOp (Act.mk t []).eval o).run P w = .ok (.value v) w')
    (h : At P f (.inRegion ops rest :: k) ((Act.mk t []).put o.dst v).tmps w' R) : At P f (.inRegion ops (i :: rest) :: k) t w R := by
  refine At.step (fun b cs _ => ?_) h
  have hg := stepG_op (P := P) (b := b) (a := ⟨t, R.ds⟩) (k := k) (cs := cs) (w := w) (rest := rest) ho hw
  have hfin : (b.at ⟨t, R.ds⟩ (.inRegion ops (i :: rest) :: k)).finish v = b.at ((Act.mk t R.ds).put o.dst v) (.inRegion ops rest :: k) := by rw [Frame.finish_at, ho]; rfl
  rw [← put_eta]
  have hr' : (execOp (Act.mk t R.ds).eval o).run P w = .ok (.value v) w' := hr
  refine step_lone_go ?_
  rw [hg, ← hfin]; simp [stepG.apply, hr']

theorem At.skipv {P : Program} {f : FuncId} {k : List Item} {t : Array Value} {w w' : World} {R : Goal P} {ops : Array Oper} {i : Nat} {rest : List Nat} {o : Oper}
    (ho : ops[i]? = some o) (hw : Region.wanted o (yielded ops t) = true) (hr : (execOp (Act.mk t []).eval o).run P w = .ok .skip w')
    (h : At P f (.inRegion ops rest :: k) ((Act.mk t []).put o.dst undef).tmps w' R) : At P f (.inRegion ops (i :: rest) :: k) t w R := by
  refine At.step (fun b cs _ => ?_) h
  have hg := stepG_op (P := P) (b := b) (a := ⟨t, R.ds⟩) (k := k) (cs := cs) (w := w) (rest := rest) ho hw
  have hfin : (b.at ⟨t, R.ds⟩ (.inRegion ops (i :: rest) :: k)).finish undef = b.at ((Act.mk t R.ds).put o.dst undef) (.inRegion ops rest :: k) := by rw [Frame.finish_at, ho]; rfl
  rw [← put_eta]
  have hr' : (execOp (Act.mk t R.ds).eval o).run P w = .ok .skip w' := hr
  refine step_lone_go ?_
  rw [hg, ← hfin]; simp [stepG.apply, hr']

theorem At.unwanted {P : Program} {f : FuncId} {k : List Item} {t : Array Value} {w : World} {R : Goal P} {ops : Array Oper} {i : Nat} {rest : List Nat} {o : Oper}
    (ho : ops[i]? = some o) (hw : Region.wanted o (yielded ops t) = false)
    (h : At P f (.inRegion ops rest :: k) ((Act.mk t []).put o.dst undef).tmps w R) : At P f (.inRegion ops (i :: rest) :: k) t w R := by
  refine At.step (fun b cs _ => ?_) h
  rw [← put_eta]
  have hs := step_op_skip (P := P) (b := b) (a := ⟨t, R.ds⟩) (k := k) (cs := cs) (w := w) (ops := ops) (i := i) (rest := rest) (by simp [ho]; simpa using hw)
  simpa only [ho, Option.bind_some] using hs

theorem At.enter {P : Program} {f : FuncId} {k : List Item} {t : Array Value} {w w' : World} {R : Goal P} {ops : Array Oper} {i : Nat} {rest : List Nat} {o : Oper} {g : FuncId} {args : Array Value}
    (ho : ops[i]? = some o) (hw : Region.wanted o (yielded ops t) = true) (hr : (execOp (Act.mk t []).eval o).run P w = .ok (.enter g args) w')
    (h : Calls P g args w' fun e w'' => ∃ v, e = .returned v ∧ At P f (.inRegion ops rest :: k) ((Act.mk t []).put o.dst v).tmps w'' R) : At P f (.inRegion ops (i :: rest) :: k) t w R := by
  intro b cs hb
  have hg := stepG_op (P := P) (b := b) (a := ⟨t, R.ds⟩) (k := k) (cs := cs) (w := w) (rest := rest) ho hw
  have hr' : (execOp (Act.mk t R.ds).eval o).run P w = .ok (.enter g args) w' := hr
  obtain ⟨e, w'', fr, ⟨v, rfl, hR⟩, hsteps, _, hleave⟩ := h (b.at ⟨t, R.ds⟩ (.inRegion ops (i :: rest) :: k) :: cs)
  have henter : Go.step P (lone (b.at ⟨t, R.ds⟩ (.inRegion ops (i :: rest) :: k)) cs w) =
      .next (lone (Frame.enter P g args .normal) (b.at ⟨t, R.ds⟩ (.inRegion ops (i :: rest) :: k) :: cs) w') :=
    step_lone_go (by rw [hg]; simp [stepG.apply, hr', Frame.at])
  have hfin : (b.at ⟨t, R.ds⟩ (.inRegion ops (i :: rest) :: k)).finish v = b.at ⟨((Act.mk t []).put o.dst v).tmps, R.ds⟩ (.inRegion ops rest :: k) := by
    rw [Frame.finish_at, ho]
    show b.at ((Act.mk t R.ds).put o.dst v) _ = _
    rw [put_eta]
  refine R.back _ _ _ _ (.head henter (Steps.trans hsteps (.one (step_leave_returned hleave)))) ?_
  rw [hfin]; exact hR b cs hb

theorem At.ret {P : Program} {f : FuncId} {fn : Func} {k : List Item} {t : Array Value} {w : World} {R : Ending → World → Prop} {v : Value}
    (hf : P.funcs[f]? = some fn) (hv : (results fn t).run P w = .ok v w) (h : R (.returned v) w) : At P f (.code .ret :: k) t w (nrm R) := by
  intro b cs hb hk
  exact ⟨.returned v, w, { b.at ⟨t, []⟩ (.code .ret :: k) with mode := .returning }, h, .one step_ret, rfl, rfl, rfl, hk, fn, by rw [← hf, ← hb]; rfl, hv⟩

theorem At.fin {P : Program} {f : FuncId} {fn : Func} {t : Array Value} {w : World} {R : Ending → World → Prop} {v : Value}
    (hf : P.funcs[f]? = some fn) (hv : (results fn t).run P w = .ok v w) (h : R (.returned v) w) : At P f [] t w (nrm R) := by
  intro b cs hb hk
  exact ⟨.returned v, w, { b.at ⟨t, []⟩ [] with mode := .returning }, h, .one step_end, rfl, rfl, rfl, hk, fn, by rw [← hf, ← hb]; rfl, hv⟩

/-! ### Known slots -/

abbrev Env := List (Nat × Value)

def get? : Env → Nat → Option Value
  | [], _ => none
  | (j, v) :: r, i => bif Nat.beq j i then some v else get? r i

def ev (e : Env) : Operand → Option Value
  | .tmp t => get? e t
  | .const v => some v
  | .global g => some (.pointer (some ⟨g, 0, none⟩))
  | .func f => some (.func (.func f) #[] #[])

def rho (e : Env) (x : Operand) : Value := match ev e x with | some v => v | none => undef

def allSome : List (Option Value) → Bool
  | [] => true
  | some _ :: r => allSome r
  | none :: _ => false

def known (e : Env) (o : Op) : Bool := allSome (o.operands.toList.map (ev e))

def putE (e : Env) : Option Tmp → Value → Env
  | some d, v => (d, v) :: e
  | none, _ => e

def dstOk (nt : Nat) : Option Tmp → Bool
  | some d => Nat.ble (d + 1) nt
  | none => true

structure Knows (nt : Nat) (e : Env) (t : Array Value) : Prop where
  size : t.size = nt
  slot : ∀ i v, get? e i = some v → t[i]? = some v

theorem Knows.ev {nt : Nat} {e : Env} {t : Array Value} (h : Knows nt e t) {x : Operand} {v : Value} (hx : ev e x = some v) (ds : List Deferred) : (Act.mk t ds).eval x = v := by
  cases x with
  | tmp i => simp only [Eng.ev] at hx; simp [Act.eval, Array.getD_eq_getD_getElem?, h.slot i v hx]
  | const u => simp only [Eng.ev, Option.some.injEq] at hx; exact hx
  | global g => simp only [Eng.ev, Option.some.injEq] at hx; exact hx
  | func f => simp only [Eng.ev, Option.some.injEq] at hx; exact hx

theorem allSome_spec : ∀ (l : List (Option Value)), allSome l = true → ∀ x ∈ l, x.isSome = true
  | [], _, _, hx => by simp at hx
  | some v :: r, h, x, hx => by
    simp only [allSome] at h
    cases hx with
    | head => rfl
    | tail _ hm => exact allSome_spec r h x hm
  | none :: r, h, _, _ => by simp [allSome] at h

theorem Knows.rho {nt : Nat} {e : Env} {t : Array Value} (h : Knows nt e t) {o : Op} (hk : known e o = true) (ds : List Deferred) :
    ∀ x ∈ o.operands.toList, (Act.mk t ds).eval x = rho e x := by
  intro x hx
  have := allSome_spec _ hk (Eng.ev e x) (List.mem_map.2 ⟨x, hx, rfl⟩)
  obtain ⟨v, hv⟩ := Option.isSome_iff_exists.1 this
  rw [h.ev hv, Eng.rho, hv]

theorem Knows.put {nt : Nat} {e : Env} {t : Array Value} (h : Knows nt e t) {d : Option Tmp} (hd : dstOk nt d = true) (v : Value) (ds : List Deferred) :
    Knows nt (putE e d v) ((Act.mk t ds).put d v).tmps := by
  cases d with
  | none => exact h
  | some d =>
    have hlt : d < t.size := by rw [h.size]; exact Nat.le_of_ble_eq_true hd
    refine ⟨by simp [Act.put, h.size], fun i u hu => ?_⟩
    simp only [putE, get?] at hu
    simp only [Act.put]
    rw [Array.getElem?_setIfInBounds]
    cases hb : Nat.beq d i with
    | true =>
      have : d = i := Nat.eq_of_beq_eq_true hb
      subst this
      simp only [hb, cond_true, Option.some.injEq] at hu
      simp [hlt, hu]
    | false =>
      have hne : d ≠ i := fun e => by subst e; simp at hb
      simp only [hb, cond_false] at hu
      rw [if_neg hne]
      exact h.slot i u hu
end Go.Eng
