/- A part of the proof: the engine by which functions are walked, verification conditions that a program of the prover wrote, contracts and plain laws; no claim of its own. -/
import Derived.Calls
import Derived.Below
import Derived.KernelRfl
import Derived.WalkKit
import Derived.OwnWalk
import Derived.Deep.MidRow
import Derived.Laws.BytesString
import Derived.Laws.CopyRow
import Derived.Laws.MakeOwn
import Derived.Laws.AppendOwn
import Derived.Deep.Quiet
import Derived.StillTail
import Derived.Recover
import Derived.RangeFuncRecord
import Derived.Deep.AppendSrc
import Derived.Deep.Upon
import Derived.Lib.UnsafeStr
import Derived.Lib.Builder
set_option linter.unusedVariables false
set_option linter.unusedSimpArgs false
namespace Go.Eng
open Go Go.RowKit
theorem put_eta (t : Array Value) (ds : List Deferred) (d : Option Tmp) (v : Value) : ((Act.mk t ds).put d v) = ⟨((Act.mk t []).put d v).tmps, ds⟩ := by cases d <;> rfl
def rt (b : Frame) (a : Act) (k : List Item) : Frame := { b.at a k with roundOf := b.roundOf }
theorem rt_none {b : Frame} (h : b.roundOf = none) (a : Act) (k : List Item) : rt b a k = b.at a k := by simp [rt, Frame.at, h]
theorem rt_eval (b : Frame) (a : Act) (k : List Item) (x : Operand) : (rt b a k).eval x = a.eval x := by cases x <;> rfl
theorem rt_eval' (b : Frame) (a : Act) (k : List Item) : (rt b a k).eval = a.eval := funext (rt_eval b a k)
theorem rt_finish (b : Frame) (a : Act) (ops : Array Oper) (i : Nat) (rest : List Nat) (k : List Item) (v : Value) :
  (rt b a (.inRegion ops (i :: rest) :: k)).finish v = rt b (a.put ((ops[i]?).bind (·.dst)) v) (.inRegion ops rest :: k) := by
 cases h : (ops[i]?).bind (·.dst) <;> simp [Frame.finish, rt, Frame.at, Act.put, h]
theorem rt_raise (b : Frame) (a : Act) (k : List Item) (chain : List PanicEntry) : (rt b a k).raise chain = { rt b a k with mode := .panicking chain } := rfl
section moves
variable {P : Program} {b : Frame} {a : Act} {k : List Item} {cs : List Frame} {w : World} {ops : Array Oper}
theorem rstep_skip : Go.step P (lone (rt b a (.code .skip :: k)) cs w) = .next (lone (rt b a k) cs w) := step_lone_go (by simp [stepG, stepG.exec, rt, Frame.at])
theorem rstep_label {l : Nat} : Go.step P (lone (rt b a (.code (.label l) :: k)) cs w) = .next (lone (rt b a k) cs w) := step_lone_go (by simp [stepG, stepG.exec, rt, Frame.at])
theorem rstep_inBlock {id : Nat} : Go.step P (lone (rt b a (.inBlock id :: k)) cs w) = .next (lone (rt b a k) cs w) := step_lone_go (by simp [stepG, stepG.exec, rt, Frame.at])
theorem rstep_seq {x y : Code} : Go.step P (lone (rt b a (.code (.seq x y) :: k)) cs w) = .next (lone (rt b a (.code x :: .code y :: k)) cs w) := step_lone_go (by simp [stepG, stepG.exec, rt, Frame.at])
theorem rstep_cond {c : Operand} {x y : Code} {t : Bool} (h : a.eval c = .bool t) : Go.step P (lone (rt b a (.code (.cond c x y) :: k)) cs w) = .next (lone (rt b a (.code (if t then x else y) :: k)) cs w) :=
 step_lone_go (by
  have := rt_eval b a (.code (.cond c x y) :: k) c
  simp only [rt, Frame.at] at this
  simp [stepG, stepG.exec, rt, Frame.at, this, h])
theorem rstep_block {id : Nat} {c : Code} : Go.step P (lone (rt b a (.code (.block id c) :: k)) cs w) = .next (lone (rt b a (.code c :: .inBlock id :: k)) cs w) := step_lone_go (by simp [stepG, stepG.exec, rt, Frame.at])
theorem rstep_scope {c : Code} : Go.step P (lone (rt b a (.code (.scope c) :: k)) cs w) = .next (lone (rt b a (.code c :: .inScope c :: k)) cs w) := step_lone_go (by simp [stepG, stepG.exec, rt, Frame.at])
theorem rstep_inScope {c : Code} : Go.step P (lone (rt b a (.inScope c :: k)) cs w) = .next (lone (rt b a k) cs w) := step_lone_go (by simp [stepG, stepG.exec, rt, Frame.at])
theorem rstep_loop {c : Code} : Go.step P (lone (rt b a (.code (.loop c) :: k)) cs w) = .next (lone (rt b a (.code c :: .inLoop c :: k)) cs w) := step_lone_go (by simp [stepG, stepG.exec, rt, Frame.at])
theorem rstep_inLoop {c : Code} : Go.step P (lone (rt b a (.inLoop c :: k)) cs w) = .next (lone (rt b a (.code c :: .inLoop c :: k)) cs w) := step_lone_go (by simp [stepG, stepG.exec, rt, Frame.at])
theorem rstep_exit {id : Nat} {k' : List Item} (h : exitTo id k = some k') : Go.step P (lone (rt b a (.code (.exit id) :: k)) cs w) = .next (lone (rt b a k') cs w) := step_lone_go (by simp [stepG, stepG.exec, rt, Frame.at, h])
theorem rstep_region {id : Nat} : Go.step P (lone (rt b a (.code (.region id ops false) :: k)) cs w) = .next (lone (rt b a (.inRegion ops (List.range ops.size) :: k)) cs w) := step_lone_go (by simp [stepG, stepG.exec, rt, Frame.at])
theorem rstep_region_end : Go.step P (lone (rt b a (.inRegion ops [] :: k)) cs w) = .next (lone (rt b a k) cs w) := step_lone_go (by simp [stepG, stepG.exec, rt, Frame.at])
theorem rstep_region_draw {id : Nat} :
  Go.step P (lone (rt b a (.code (.region id ops true) :: k)) cs w) =
   .next (lone (rt b a (.inRegion ops (Region.schedule (P.follows .mixedOrders) ops (w.tape w.drawn (.order b.fn id))) :: k)) cs { w with drawn := w.drawn + 1 }) :=
 step_lone_go (by simp [stepG, stepG.exec, rt, Frame.at, choose, Sem.run, Question.forced, Question.cut])
theorem rstep_op_skip {i : Nat} {rest : List Nat} (h : ((ops[i]?).map (Region.wanted · (yielded ops a.tmps))).getD false = false) :
  Go.step P (lone (rt b a (.inRegion ops (i :: rest) :: k)) cs w) = .next (lone (rt b (a.put ((ops[i]?).bind (·.dst)) undef) (.inRegion ops rest :: k)) cs w) := by
 rw [← rt_finish]
 exact step_lone_go (by
  have h' := h
  simp only [rt, Frame.at] at *
  simp [stepG, stepG.exec, h'])
theorem rstepG_op {i : Nat} {rest : List Nat} {o : Oper} (ho : ops[i]? = some o) (hw : Region.wanted o (yielded ops a.tmps) = true) (hd : b.roundOf = none ∨ ∀ c, o.op ≠ .defer c) :
    stepG P true { frame := rt b a (.inRegion ops (i :: rest) :: k), callers := cs, status := .running, dying := none } w =
      stepG.apply P true (rt b a (.inRegion ops (i :: rest) :: k)) cs none (execOp a.eval o) w := by
  have he := rt_eval' b a (.inRegion ops (i :: rest) :: k)
  simp only [rt, Frame.at] at he
  simp only [stepG, stepG.exec, stepG.oper, Frame.oper?, rt, Frame.at, ho, hw, he, Option.map_some, Option.getD_some, if_true]
  split
  · next h1 h2 => rcases hd with hd | hd
                  · rw [hd] at h1; cases h1
                  · exact absurd h2 (hd _)
  · rfl
end moves
def Next.isDefer : Next → Bool
 | .defer _ => true
 | _ => false
theorem not_defer {P : Program} {ρ : Operand → Value} {o : Oper} {w w' : World} {n : Next} (hr : (execOp ρ o).run P w = .ok n w') (hn : Eng.Next.isDefer n = false) (c : Call) : o.op ≠ .defer c := by
 intro h
 simp only [execOp, h, Sem.run_bind] at hr
 cases hq : (resolve ρ c o.type).run P w with
 | ok d w1 => rw [hq] at hr; simp [Result.andThen] at hr; obtain ⟨rfl, _⟩ := hr; cases hn
 | halt h w1 => rw [hq] at hr; simp [Result.andThen] at hr
structure Goal (P : Program) where
 ds : List Deferred
 ok : Frame → List Frame → Machine → Prop
 back : ∀ b cs m m1, Steps P m m1 → ok b cs m1 → ok b cs m
def nrm {P : Program} (R : Ending → World → Prop) : Goal P where
 ds := []
 ok b cs m := b.kind = .normal → b.roundOf = none → ∃ e w' fr, R e w' ∧ Comes P m (lone fr cs w') e ∧ fr.fn = b.fn ∧ fr.leaving P w' e
 back b cs m m1 hs h hk hq := by
  obtain ⟨e, w', fr, hr, hc, hl⟩ := h hk hq
  exact ⟨e, w', fr, hr, Comes.of_steps hs hc, hl⟩
def dfr {P : Program} (ds : List Deferred) (R : Ending → World → Prop) : Goal P := { (nrm (P := P) R) with ds := ds }
def At (P : Program) (f : FuncId) (k : List Item) (t : Array Value) (w : World) (R : Goal P) : Prop :=
 ∀ (b : Frame) (cs : List Frame), b.fn = f → R.ok b cs (lone (rt b ⟨t, R.ds⟩ k) cs w)
theorem At.calls {P : Program} {f : FuncId} {fn : Func} {c : Code} {args : Array Value} {w : World} {R : Ending → World → Prop}
  (hf : P.funcs[f]? = some fn) (hb : fn.body = some c)
  (h : At P f [.code c] (args ++ Array.replicate (fn.ntmps - args.size) undef) w (nrm R)) : Calls P f args w R := by
 intro cs
 have henter : Frame.enter P f args .normal =
   ({ (default : Frame) with fn := f, kind := .normal } : Frame).at { tmps := args ++ Array.replicate (fn.ntmps - args.size) undef, defers := [] } [.code c] := by
  simp [Frame.enter, Frame.at, hf, hb]
 rw [henter]
 have h1 := h { (default : Frame) with fn := f, kind := .normal } cs rfl rfl rfl
 rw [rt_none rfl] at h1
 exact h1
theorem At.step {P : Program} {f : FuncId} {k k' : List Item} {t t' : Array Value} {w w' : World} {R : Goal P}
  (hs : ∀ (b : Frame) (cs : List Frame), b.fn = f → Go.step P (lone (rt b ⟨t, R.ds⟩ k) cs w) = .next (lone (rt b ⟨t', R.ds⟩ k') cs w'))
  (h : At P f k' t' w' R) : At P f k t w R :=
 fun b cs hb => R.back _ _ _ _ (.one (hs b cs hb)) (h b cs hb)
theorem At.value {P : Program} {f : FuncId} {k : List Item} {t : Array Value} {w w' : World} {R : Goal P} {ops : Array Oper} {i : Nat} {rest : List Nat} {o : Oper} {v : Value}
  (ho : ops[i]? = some o) (hw : Region.wanted o (yielded ops t) = true) (hr : (execOp (Act.mk t []).eval o).run P w = .ok (.value v) w')
  (h : At P f (.inRegion ops rest :: k) ((Act.mk t []).put o.dst v).tmps w' R) : At P f (.inRegion ops (i :: rest) :: k) t w R := by
 refine At.step (fun b cs _ => ?_) h
 have hg := rstepG_op (P := P) (b := b) (a := ⟨t, R.ds⟩) (k := k) (cs := cs) (w := w) (rest := rest) ho hw (.inr (not_defer hr rfl))
 have hfin : (rt b ⟨t, R.ds⟩ (.inRegion ops (i :: rest) :: k)).finish v = rt b ((Act.mk t R.ds).put o.dst v) (.inRegion ops rest :: k) := by rw [rt_finish, ho]; rfl
 rw [← put_eta]
 have hr' : (execOp (Act.mk t R.ds).eval o).run P w = .ok (.value v) w' := hr
 refine step_lone_go ?_
 rw [hg, ← hfin]; simp [stepG.apply, hr']
theorem At.skipv {P : Program} {f : FuncId} {k : List Item} {t : Array Value} {w w' : World} {R : Goal P} {ops : Array Oper} {i : Nat} {rest : List Nat} {o : Oper}
  (ho : ops[i]? = some o) (hw : Region.wanted o (yielded ops t) = true) (hr : (execOp (Act.mk t []).eval o).run P w = .ok .skip w')
  (h : At P f (.inRegion ops rest :: k) ((Act.mk t []).put o.dst undef).tmps w' R) : At P f (.inRegion ops (i :: rest) :: k) t w R := by
 refine At.step (fun b cs _ => ?_) h
 have hg := rstepG_op (P := P) (b := b) (a := ⟨t, R.ds⟩) (k := k) (cs := cs) (w := w) (rest := rest) ho hw (.inr (not_defer hr rfl))
 have hfin : (rt b ⟨t, R.ds⟩ (.inRegion ops (i :: rest) :: k)).finish undef = rt b ((Act.mk t R.ds).put o.dst undef) (.inRegion ops rest :: k) := by rw [rt_finish, ho]; rfl
 rw [← put_eta]
 have hr' : (execOp (Act.mk t R.ds).eval o).run P w = .ok .skip w' := hr
 refine step_lone_go ?_
 rw [hg, ← hfin]; simp [stepG.apply, hr']
theorem At.unwanted {P : Program} {f : FuncId} {k : List Item} {t : Array Value} {w : World} {R : Goal P} {ops : Array Oper} {i : Nat} {rest : List Nat} {o : Oper}
  (ho : ops[i]? = some o) (hw : Region.wanted o (yielded ops t) = false)
  (h : At P f (.inRegion ops rest :: k) ((Act.mk t []).put o.dst undef).tmps w R) : At P f (.inRegion ops (i :: rest) :: k) t w R := by
 refine At.step (fun b cs _ => ?_) h
 rw [← put_eta]
 have hs := rstep_op_skip (P := P) (b := b) (a := ⟨t, R.ds⟩) (k := k) (cs := cs) (w := w) (ops := ops) (i := i) (rest := rest) (by simp [ho]; simpa using hw)
 simpa only [ho, Option.bind_some] using hs
theorem At.enter {P : Program} {f : FuncId} {k : List Item} {t : Array Value} {w w' : World} {R : Goal P} {ops : Array Oper} {i : Nat} {rest : List Nat} {o : Oper} {g : FuncId} {args : Array Value}
  (ho : ops[i]? = some o) (hw : Region.wanted o (yielded ops t) = true) (hr : (execOp (Act.mk t []).eval o).run P w = .ok (.enter g args) w')
  (h : Calls P g args w' fun e w'' => ∃ v, e = .returned v ∧ At P f (.inRegion ops rest :: k) ((Act.mk t []).put o.dst v).tmps w'' R) : At P f (.inRegion ops (i :: rest) :: k) t w R := by
 intro b cs hb
 have hg := rstepG_op (P := P) (b := b) (a := ⟨t, R.ds⟩) (k := k) (cs := cs) (w := w) (rest := rest) ho hw (.inr (not_defer hr rfl))
 have hr' : (execOp (Act.mk t R.ds).eval o).run P w = .ok (.enter g args) w' := hr
 obtain ⟨e, w'', fr, ⟨v, rfl, hR⟩, hsteps, _, hleave⟩ := h (rt b ⟨t, R.ds⟩ (.inRegion ops (i :: rest) :: k) :: cs)
 have henter : Go.step P (lone (rt b ⟨t, R.ds⟩ (.inRegion ops (i :: rest) :: k)) cs w) =
   .next (lone (Frame.enter P g args .normal) (rt b ⟨t, R.ds⟩ (.inRegion ops (i :: rest) :: k) :: cs) w') :=
  step_lone_go (by rw [hg]; simp [stepG.apply, hr', rt, Frame.at])
 have hfin : (rt b ⟨t, R.ds⟩ (.inRegion ops (i :: rest) :: k)).finish v = rt b ⟨((Act.mk t []).put o.dst v).tmps, R.ds⟩ (.inRegion ops rest :: k) := by
  rw [rt_finish, ho]
  show rt b ((Act.mk t R.ds).put o.dst v) _ = _
  rw [put_eta]
 refine R.back _ _ _ _ (.head henter (Steps.trans hsteps (.one (step_leave_returned hleave)))) ?_
 rw [hfin]; exact hR b cs hb
theorem At.ret {P : Program} {f : FuncId} {fn : Func} {k : List Item} {t : Array Value} {w : World} {R : Ending → World → Prop} {v : Value}
  (hf : P.funcs[f]? = some fn) (hv : (results fn t).run P w = .ok v w) (h : R (.returned v) w) : At P f (.code .ret :: k) t w (nrm R) := by
 intro b cs hb hk hq
 exact ⟨.returned v, w, { b.at ⟨t, []⟩ (.code .ret :: k) with mode := .returning }, h, by rw [rt_none hq]; exact .one step_ret, rfl, rfl, rfl, hk, fn, by rw [← hf, ← hb]; rfl, hv⟩
theorem At.fin {P : Program} {f : FuncId} {fn : Func} {t : Array Value} {w : World} {R : Ending → World → Prop} {v : Value}
  (hf : P.funcs[f]? = some fn) (hv : (results fn t).run P w = .ok v w) (h : R (.returned v) w) : At P f [] t w (nrm R) := by
 intro b cs hb hk hq
 exact ⟨.returned v, w, { b.at ⟨t, []⟩ [] with mode := .returning }, h, by rw [rt_none hq]; exact .one step_end, rfl, rfl, rfl, hk, fn, by rw [← hf, ← hb]; rfl, hv⟩
abbrev Env := List (Nat × Value)
def get? : Env → Nat → Option Value
 | [], _ => none
 | (j, v) :: r, i => bif Nat.beq j i then some v else get? r i
def ev (e : Env) : Operand → Option Value
 | .tmp t => get? e t
 | .const v => some v
 | .global g => some (.pointer (some ⟨g, 0, none⟩))
 | .func f => some (.func (.func f) #[] #[])
def rho (e : Env) (x : Operand) : Value := match ev e x with | some v => v | none => undef
def allSome : List (Option Value) → Bool
 | [] => true
 | some _ :: r => allSome r
 | none :: _ => false
def known (e : Env) (o : Op) : Bool := allSome (o.operands.toList.map (ev e))
def putE (e : Env) : Option Tmp → Value → Env
 | some d, v => (d, v) :: e
 | none, _ => e
def dstOk (nt : Nat) : Option Tmp → Bool
 | some d => Nat.ble (d + 1) nt
 | none => true
structure Knows (nt : Nat) (e : Env) (t : Array Value) : Prop where
 size : t.size = nt
 slot : ∀ i v, get? e i = some v → t[i]? = some v
theorem Knows.ev {nt : Nat} {e : Env} {t : Array Value} (h : Knows nt e t) {x : Operand} {v : Value} (hx : ev e x = some v) (ds : List Deferred) : (Act.mk t ds).eval x = v := by
 cases x with
 | tmp i => simp only [Eng.ev] at hx; simp [Act.eval, Array.getD_eq_getD_getElem?, h.slot i v hx]
 | const u => simp only [Eng.ev, Option.some.injEq] at hx; exact hx
 | global g => simp only [Eng.ev, Option.some.injEq] at hx; exact hx
 | func f => simp only [Eng.ev, Option.some.injEq] at hx; exact hx
theorem allSome_spec : ∀ (l : List (Option Value)), allSome l = true → ∀ x ∈ l, x.isSome = true
 | [], _, _, hx => by simp at hx
 | some v :: r, h, x, hx => by
  simp only [allSome] at h
  cases hx with
  | head => rfl
  | tail _ hm => exact allSome_spec r h x hm
 | none :: r, h, _, _ => by simp [allSome] at h
theorem Knows.rho {nt : Nat} {e : Env} {t : Array Value} (h : Knows nt e t) {o : Op} (hk : known e o = true) (ds : List Deferred) :
  ∀ x ∈ o.operands.toList, (Act.mk t ds).eval x = rho e x := by
 intro x hx
 have := allSome_spec _ hk (Eng.ev e x) (List.mem_map.2 ⟨x, hx, rfl⟩)
 obtain ⟨v, hv⟩ := Option.isSome_iff_exists.1 this
 rw [h.ev hv, Eng.rho, hv]
theorem Knows.put {nt : Nat} {e : Env} {t : Array Value} (h : Knows nt e t) {d : Option Tmp} (hd : dstOk nt d = true) (v : Value) (ds : List Deferred) :
  Knows nt (putE e d v) ((Act.mk t ds).put d v).tmps := by
 cases d with
 | none => exact h
 | some d =>
  have hlt : d < t.size := by rw [h.size]; exact Nat.le_of_ble_eq_true hd
  refine ⟨by simp [Act.put, h.size], fun i u hu => ?_⟩
  simp only [putE, get?] at hu
  simp only [Act.put]
  rw [Array.getElem?_setIfInBounds]
  cases hb : Nat.beq d i with
  | true =>
   have : d = i := Nat.eq_of_beq_eq_true hb
   subst this
   simp only [hb, cond_true, Option.some.injEq] at hu
   simp [hlt, hu]
  | false =>
   have hne : d ≠ i := fun e => by subst e; simp at hb
   simp only [hb, cond_false] at hu
   rw [if_neg hne]
   exact h.slot i u hu
def plainOp : Op → Bool
 | .select .. | .go _ | .send .. | .recv .. => false
 | _ => true
theorem resolve_congr (ρ ρ' : Operand → Value) (c : Call) (t : TypeId) (h : ∀ x ∈ c.operands.toList, ρ x = ρ' x) : resolve ρ c t = resolve ρ' c t := by
 have ha : c.args.map ρ = c.args.map ρ' := by
  apply Array.map_congr_left
  intro x hx
  apply h
  simp only [Call.operands, Array.toList_append, List.mem_append]
  exact .inr (by simpa using hx)
 cases hc : c.callee with
 | value f =>
  have hf : ρ f = ρ' f := h f (by simp [Call.operands, hc])
  simp only [resolve, hc, ha, hf]
 | invoke r n =>
  have hf : ρ r = ρ' r := h r (by simp [Call.operands, hc])
  simp only [resolve, hc, ha, hf]
 | builtin b => simp only [resolve, hc, ha]
theorem execOp_congr (ρ ρ' : Operand → Value) (o : Oper) (hp : plainOp o.op = true) (h : ∀ x ∈ o.op.operands.toList, ρ x = ρ' x) : execOp ρ o = execOp ρ' o := by
 obtain ⟨dst, op, type, pos, after, guard⟩ := o
 cases op <;> simp only [plainOp, Bool.false_eq_true] at hp <;> simp only [Op.operands] at h <;> simp only [execOp]
 case build t parts =>
  have : (parts.map fun (i, x) => (i, ρ x)) = (parts.map fun (i, x) => (i, ρ' x)) := by
   apply Array.map_congr_left
   rintro ⟨i, x⟩ hx
   exact congrArg _ (h x (by simp; exact ⟨i, by simpa using hx⟩))
  rw [this]
 case buildSlice t n parts =>
  have : (parts.map fun (i, x) => (i, ρ x)) = (parts.map fun (i, x) => (i, ρ' x)) := by
   apply Array.map_congr_left
   rintro ⟨i, x⟩ hx
   exact congrArg _ (h x (by simp; exact ⟨i, by simpa using hx⟩))
  rw [this]
 case makeFunc fn a b =>
  have e1 : a.map ρ = a.map ρ' := Array.map_congr_left fun x hx => h x (by simp; exact .inl (by simpa using hx))
  have e2 : b.map ρ = b.map ρ' := Array.map_congr_left fun x hx => h x (by simp; exact .inr (by simpa using hx))
  rw [e1, e2]
 case makeMap t r => cases r with
  | none => rfl
  | some r => simp only [Option.map_some]; rw [h r (by simp)]
 case slice T x lo hi mx =>
  have e0 : ρ x = ρ' x := h x (by simp)
  have e1 : lo.map ρ = lo.map ρ' := by cases lo with | none => rfl | some y => simp only [Option.map_some]; rw [h y (by simp)]
  have e2 : hi.map ρ = hi.map ρ' := by cases hi with | none => rfl | some y => simp only [Option.map_some]; rw [h y (by simp)]
  have e3 : mx.map ρ = mx.map ρ' := by cases mx with | none => rfl | some y => simp only [Option.map_some]; rw [h y (by simp)]
  rw [e0, e1, e2, e3]
 case call c => rw [resolve_congr ρ ρ' c type h]
 case defer c => rw [resolve_congr ρ ρ' c type h]
 all_goals first
  | rfl
  | (rw [h _ (List.Mem.head _), h _ (List.Mem.tail _ (List.Mem.head _)), h _ (List.Mem.tail _ (List.Mem.tail _ (List.Mem.head _)))]; done)
  | (rw [h _ (List.Mem.head _), h _ (List.Mem.tail _ (List.Mem.head _))]; done)
  | (rw [h _ (List.Mem.head _)]; done)
abbrev SHeap := List (Nat × Obj)
structure Kept (S : List Nat) (w0 W : World) : Prop where
 os : W.os = w0.os
 tape : W.tape = w0.tape
 output : W.output = w0.output
 size : w0.heap.size ≤ W.heap.size
 block : ∀ k, k < w0.heap.size → k ∉ S → W.heap[k]? = w0.heap[k]?
structure Mem (L : SHeap) (S : List Nat) (w0 W : World) : Prop where
 nodup : (L.map (·.1)).Nodup
 here : ∀ p ∈ L, W.heap[p.1]? = some p.2
 own : ∀ p ∈ L, w0.heap.size ≤ p.1 ∨ p.1 ∈ S
 kept : Kept S w0 W
theorem Kept.refl (S : List Nat) (w : World) : Kept S w w := ⟨rfl, rfl, rfl, Nat.le_refl _, fun _ _ _ => rfl⟩
theorem Kept.trans {S : List Nat} {a b c : World} (h : Kept S a b) (k : Kept S b c) : Kept S a c :=
 ⟨k.os.trans h.os, k.tape.trans h.tape, k.output.trans h.output, Nat.le_trans h.size k.size, fun i hi hs => (k.block i (Nat.lt_of_lt_of_le hi h.size) hs).trans (h.block i hi hs)⟩
theorem Kept.below {w W : World} (h : Kept [] w W) : Below w.heap.size w W := ⟨h.os, h.tape, h.output, h.size, fun k hk => h.block k hk (by simp)⟩
theorem Kept.of_below {w W : World} (h : Below w.heap.size w W) (S : List Nat) : Kept S w W := ⟨h.os, h.tape, h.output, h.size, fun k hk _ => h.block k hk⟩
theorem Mem.start (S : List Nat) (w : World) : Mem [] S w w := ⟨by simp, by simp, by simp, Kept.refl S w⟩
theorem Mem.lt {L : SHeap} {S : List Nat} {w0 W : World} (h : Mem L S w0 W) {p : Nat × Obj} (hp : p ∈ L) : p.1 < W.heap.size := by
 have := h.here p hp
 rcases Nat.lt_or_ge p.1 W.heap.size with h | h
 ·exact h
 ·rw [Array.getElem?_eq_none h] at this; cases this
theorem Mem.after {L : SHeap} {S : List Nat} {w0 W W' : World} (h : Mem L S w0 W) (hb : Below W.heap.size W W') : Mem L S w0 W' :=
 ⟨h.nodup, fun p hp => (hb.block p.1 (h.lt hp)).trans (h.here p hp), h.own, h.kept.trans (Kept.of_below hb S)⟩
theorem Mem.alloc {L : SHeap} {S : List Nat} {w0 W : World} (h : Mem L S w0 W) (o : Obj) : Mem (L ++ [(W.heap.size, o)]) S w0 { W with heap := W.heap.push o } := by
 refine ⟨?_, ?_, ?_, ?_⟩
 ·rw [List.map_append, List.nodup_append]
  refine ⟨h.nodup, by simp, ?_⟩
  intro a ha b hb
  obtain ⟨p, hp, rfl⟩ := List.mem_map.1 ha
  simp at hb
  have := h.lt hp
  omega
 ·intro p hp
  rcases List.mem_append.1 hp with hp | hp
  ·have := h.lt hp
   show (W.heap.push o)[p.1]? = _
   rw [Array.getElem?_push, if_neg (by omega)]
   exact h.here p hp
  ·simp at hp
   subst hp
   show (W.heap.push o)[W.heap.size]? = _
   simp
 ·intro p hp
  rcases List.mem_append.1 hp with hp | hp
  ·exact h.own p hp
  ·simp at hp
   subst hp
   exact .inl h.kept.size
 ·refine h.kept.trans ⟨rfl, rfl, rfl, by simp, fun k hk _ => ?_⟩
  show (W.heap.push o)[k]? = _
  rw [Array.getElem?_push, if_neg (by omega)]
theorem nodup_unique {L : SHeap} (h : (L.map (·.1)).Nodup) {p q : Nat × Obj} (hp : p ∈ L) (hq : q ∈ L) (e : p.1 = q.1) : p = q := by
 induction L with
 | nil => cases hp
 | cons x r ih =>
  simp only [List.map_cons, List.nodup_cons, List.mem_map, not_exists, not_and] at h
  cases hp with
  | head => cases hq with
   | head => rfl
   | tail _ hq => exact absurd e.symm (h.1 q hq)
  | tail _ hp => cases hq with
   | head => exact absurd e (h.1 p hp)
   | tail _ hq => exact ih h.2 hp hq
theorem Mem.setObj {L : SHeap} {S : List Nat} {w0 W : World} (h : Mem L S w0 W) {j : Nat} {B : Nat} {o : Obj} (hj : L[j]? = some (B, o)) (o' : Obj)
  {W' : World} (hos : W'.os = W.os) (ht : W'.tape = W.tape) (ho : W'.output = W.output) (hh : W'.heap = W.heap.setIfInBounds B o') : Mem (L.set j (B, o')) S w0 W' := by
 have hm : (B, o) ∈ L := List.mem_of_getElem? hj
 have hB := h.lt hm
 have hjl : j < L.length := (List.getElem?_eq_some_iff.1 hj).1
 have hfst : (L.set j (B, o')).map (·.1) = L.map (·.1) := by
  rw [List.map_set]
  apply List.ext_getElem?
  intro i
  rw [List.getElem?_set]
  split
  ·next e =>
   subst e
   simp only [List.length_map, hjl, if_true]
   rw [List.getElem?_map, hj]; rfl
  ·rfl
 refine ⟨by rw [hfst]; exact h.nodup, ?_, ?_, ?_⟩
 ·intro p hp
  rw [hh, Array.getElem?_setIfInBounds]
  rcases List.mem_or_eq_of_mem_set hp with hp' | hp'
  ·by_cases e : B = p.1
   ·have := nodup_unique h.nodup hm hp' e
    subst this

    have hnd : ((L.set j (B, o')).map (·.1)).Nodup := by rw [hfst]; exact h.nodup
    have h2 : (B, o') ∈ L.set j (B, o') := List.mem_iff_getElem?.2 ⟨j, by rw [List.getElem?_set]; simp [hjl]⟩
    have := nodup_unique hnd hp h2 rfl
    rw [this]; simp [hB]
   ·rw [if_neg e]; exact h.here p hp'
  ·subst hp'; simp [hB]
 ·intro p hp
  rcases List.mem_or_eq_of_mem_set hp with hp' | hp'
  ·exact h.own p hp'
  ·subst hp'; exact h.own (B, o) hm
 ·refine ⟨hos.trans h.kept.os, ht.trans h.kept.tape, ho.trans h.kept.output, by rw [hh]; simp; exact h.kept.size, fun k hk hs => ?_⟩
  rw [hh, Array.getElem?_setIfInBounds]
  rw [if_neg]
  ·exact h.kept.block k hk hs
  ·intro e
   subst e
   rcases h.own _ hm with h' | h'
   ·simp at h'; omega
   ·exact hs h'
def AtE (P : Program) (f nt : Nat) (k : List Item) (e : Env) (L : SHeap) (S : List Nat) (w0 : World) (R : Goal P) : Prop :=
 ∀ t W, Knows nt e t → Mem L S w0 W → At P f k t W R
def wantedE (ops : Array Oper) (e : Env) (o : Oper) : Option Bool :=
 match o.guard with
 | none => some true
 | some (j, want) =>
  match ops[j]? with
  | none => some false
  | some oj =>
   match oj.dst with
   | none => some false
   | some d =>
    match get? e d with
    | some (.bool b) => match b, want with | true, true => some true | false, false => some true | true, false => some false | false, true => some false
    | some (.tuple _) => some false
    | _ => none
theorem Knows.wanted {nt : Nat} {e : Env} {t : Array Value} (h : Knows nt e t) {ops : Array Oper} {o : Oper} {b : Bool} (hw : wantedE ops e o = some b) :
  Region.wanted o (yielded ops t) = b := by
 unfold wantedE at hw
 unfold Region.wanted
 split at hw
 ·next hg => rw [hg]; simpa using hw
 ·next j want hg =>
  rw [hg]
  simp only
  unfold yielded
  split at hw
  ·next ho => rw [ho]; simp at hw; subst hw; rfl
  ·next oj ho =>
   rw [ho]
   simp only [Option.bind_some]
   split at hw
   ·next hd => rw [hd]; simp at hw; subst hw; rfl
   ·next d hd =>
    rw [hd]
    simp only [Option.bind_some]
    split at hw
    ·next b' hget =>
     rw [h.slot d _ hget]
     cases b' <;> cases want <;> simp at hw <;> subst hw <;> rfl
    ·next vs hget =>
     rw [h.slot d _ hget]
     simp at hw; subst hw; rfl
    ·cases hw
def cur (nt : Nat) (k : List Item) (e : Env) : Option Oper :=
 match k with
 | .inRegion ops (i :: _) :: _ =>
  match ops[i]? with
  | some o => match wantedE ops e o with
   | some true => bif known e o.op && (plainOp o.op && dstOk nt o.dst) then some o else none
   | _ => none
  | none => none
 | _ => none
def nextK : List Item → List Item
 | .inRegion ops (_ :: rest) :: k => .inRegion ops rest :: k
 | k => k
theorem cur_spec {nt : Nat} {k : List Item} {e : Env} {o : Oper} (h : cur nt k e = some o) :
  ∃ ops i rest k', k = .inRegion ops (i :: rest) :: k' ∧ ops[i]? = some o ∧ wantedE ops e o = some true ∧ known e o.op = true ∧ plainOp o.op = true ∧ dstOk nt o.dst = true := by
 unfold cur at h
 split at h
 ·next ops i rest k' =>
  split at h
  ·next o' ho =>
   split at h
   ·next hw =>
    cases hb : (known e o'.op && (plainOp o'.op && dstOk nt o'.dst)) with
    | true =>
     rw [hb] at h
     simp only [cond_true, Option.some.injEq] at h
     subst h
     simp only [Bool.and_eq_true] at hb
     exact ⟨_, _, _, _, rfl, ho, hw, hb.1, hb.2.1, hb.2.2⟩
    | false => rw [hb] at h; simp at h
   ·cases h
  ·cases h
 ·cases h
theorem AtE.op {P : Program} {f nt : Nat} {k : List Item} {e : Env} {L : SHeap} {S : List Nat} {w0 : World} {R : Goal P} {o : Oper}
  (hc : cur nt k e = some o)
  (h : ∀ W, Mem L S w0 W → ∃ v W', (execOp (rho e) o).run P W = .ok (.value v) W' ∧ ∀ t, Knows nt (putE e o.dst v) t → At P f (nextK k) t W' R) : AtE P f nt k e L S w0 R := by
 intro t W hk hm
 obtain ⟨ops, i, rest, k', rfl, ho, hw, hkn, hp, hd⟩ := cur_spec hc
 obtain ⟨v, W', hr, hnext⟩ := h W hm
 rw [← execOp_congr (Act.mk t []).eval (rho e) o hp (hk.rho hkn [])] at hr
 exact At.value ho (hk.wanted hw) hr (hnext _ (hk.put hd v []))
theorem AtE.opSkip {P : Program} {f nt : Nat} {k : List Item} {e : Env} {L : SHeap} {S : List Nat} {w0 : World} {R : Goal P} {o : Oper}
  (hc : cur nt k e = some o)
  (h : ∀ W, Mem L S w0 W → ∃ W', (execOp (rho e) o).run P W = .ok .skip W' ∧ ∀ t, Knows nt (putE e o.dst undef) t → At P f (nextK k) t W' R) : AtE P f nt k e L S w0 R := by
 intro t W hk hm
 obtain ⟨ops, i, rest, k', rfl, ho, hw, hkn, hp, hd⟩ := cur_spec hc
 obtain ⟨W', hr, hnext⟩ := h W hm
 rw [← execOp_congr (Act.mk t []).eval (rho e) o hp (hk.rho hkn [])] at hr
 exact At.skipv ho (hk.wanted hw) hr (hnext _ (hk.put hd undef []))
def one (P : Program) (nt : Nat) (k : List Item) (e : Env) (w : World) : Option (List Item × Env × World) :=
 match k with
 | .code .skip :: k => some (k, e, w)
 | .code (.label _) :: k => some (k, e, w)
 | .inBlock _ :: k => some (k, e, w)
 | .code (.seq x y) :: k => some (.code x :: .code y :: k, e, w)
 | .code (.cond c x y) :: k => match ev e c with
  | some (.bool b) => match b with
   | true => some (.code x :: k, e, w)
   | false => some (.code y :: k, e, w)
  | _ => none
 | .code (.block id c) :: k => some (.code c :: .inBlock id :: k, e, w)
 | .code (.scope c) :: k => some (.code c :: .inScope c :: k, e, w)
 | .inScope _ :: k => some (k, e, w)
 | .code (.loop c) :: k => some (.code c :: .inLoop c :: k, e, w)
 | .inLoop c :: k => some (.code c :: .inLoop c :: k, e, w)
 | .code (.exit id) :: k => match exitTo id k with
  | some k' => some (k', e, w)
  | none => none
 | .code (.region _ ops draw) :: k => match draw with
  | false => some (.inRegion ops (List.range ops.size) :: k, e, w)
  | true => none
 | .inRegion _ [] :: k => some (k, e, w)
 | .inRegion ops (i :: rest) :: k => match ops[i]? with
  | none => some (.inRegion ops rest :: k, e, w)
  | some o => match wantedE ops e o with
   | none => none
   | some false => bif dstOk nt o.dst then some (.inRegion ops rest :: k, putE e o.dst undef, w) else none
   | some true => bif known e o.op && (plainOp o.op && dstOk nt o.dst) then
     match (execOp (rho e) o).run P w with
     | .ok (.value v) w' => some (.inRegion ops rest :: k, putE e o.dst v, w')
     | .ok .skip w' => some (.inRegion ops rest :: k, putE e o.dst undef, w')
     | _ => none
    else none
 | _ => none
theorem one_sound {P : Program} {f nt : Nat} {k k' : List Item} {e e' : Env} {w w' : World} {t : Array Value} {R : Goal P}
  (h : one P nt k e w = some (k', e', w')) (hk : Knows nt e t) (hnext : ∀ t', Knows nt e' t' → At P f k' t' w' R) : At P f k t w R := by
 unfold one at h
 split at h
 ·simp at h; obtain ⟨rfl, rfl, rfl⟩ := h; exact At.step (fun _ _ _ => rstep_skip) (hnext t hk)
 ·simp at h; obtain ⟨rfl, rfl, rfl⟩ := h; exact At.step (fun _ _ _ => rstep_label) (hnext t hk)
 ·simp at h; obtain ⟨rfl, rfl, rfl⟩ := h; exact At.step (fun _ _ _ => rstep_inBlock) (hnext t hk)
 ·simp at h; obtain ⟨rfl, rfl, rfl⟩ := h; exact At.step (fun _ _ _ => rstep_seq) (hnext t hk)
 ·next c x y k =>
  split at h
  ·next b hb =>
   have hc := hk.ev hb []
   cases b
   ·simp at h; obtain ⟨rfl, rfl, rfl⟩ := h; exact At.step (fun _ _ _ => rstep_cond (t := false) hc) (hnext t hk)
   ·simp at h; obtain ⟨rfl, rfl, rfl⟩ := h; exact At.step (fun _ _ _ => rstep_cond (t := true) hc) (hnext t hk)
  ·cases h
 ·simp at h; obtain ⟨rfl, rfl, rfl⟩ := h; exact At.step (fun _ _ _ => rstep_block) (hnext t hk)
 ·simp at h; obtain ⟨rfl, rfl, rfl⟩ := h; exact At.step (fun _ _ _ => rstep_scope) (hnext t hk)
 ·simp at h; obtain ⟨rfl, rfl, rfl⟩ := h; exact At.step (fun _ _ _ => rstep_inScope) (hnext t hk)
 ·simp at h; obtain ⟨rfl, rfl, rfl⟩ := h; exact At.step (fun _ _ _ => rstep_loop) (hnext t hk)
 ·simp at h; obtain ⟨rfl, rfl, rfl⟩ := h; exact At.step (fun _ _ _ => rstep_inLoop) (hnext t hk)
 ·next id k =>
  split at h
  ·next k2 hx => simp at h; obtain ⟨rfl, rfl, rfl⟩ := h; exact At.step (fun _ _ _ => rstep_exit hx) (hnext t hk)
  ·cases h
 ·next id ops draw k =>
  cases draw
  ·simp at h; obtain ⟨rfl, rfl, rfl⟩ := h; exact At.step (fun _ _ _ => rstep_region) (hnext t hk)
  ·simp at h
 ·simp at h; obtain ⟨rfl, rfl, rfl⟩ := h; exact At.step (fun _ _ _ => rstep_region_end) (hnext t hk)
 ·next ops i rest k =>
  split at h
  ·next ho =>
   simp at h; obtain ⟨rfl, rfl, rfl⟩ := h
   refine At.step (fun b cs _ => ?_) (hnext t hk)
   have hs := rstep_op_skip (P := P) (b := b) (a := ⟨t, R.ds⟩) (k := k) (cs := cs) (w := w) (ops := ops) (i := i) (rest := rest) (by simp [ho])
   simpa only [ho, Option.bind_none, Act.put] using hs
  ·next o ho =>
   split at h
   ·cases h
   ·next hw =>
    cases hd : dstOk nt o.dst with
    | true =>
     simp [hd] at h; obtain ⟨rfl, rfl, rfl⟩ := h
     exact At.unwanted ho (hk.wanted hw) (hnext _ (hk.put hd undef []))
    | false => simp [hd] at h
   ·next hw =>
    cases hb : (known e o.op && (plainOp o.op && dstOk nt o.dst)) with
    | false => rw [hb] at h; simp at h
    | true =>
     rw [hb] at h
     simp only [Bool.and_eq_true] at hb
     simp only [cond_true] at h
     have hcg := execOp_congr (Act.mk t []).eval (rho e) o hb.2.1 (hk.rho hb.1 [])
     split at h
     ·next v w2 hr =>
      simp at h; obtain ⟨rfl, rfl, rfl⟩ := h
      exact At.value ho (hk.wanted hw) (by rw [hcg]; exact hr) (hnext _ (hk.put hb.2.2 v []))
     ·next w2 hr =>
      simp at h; obtain ⟨rfl, rfl, rfl⟩ := h
      exact At.skipv ho (hk.wanted hw) (by rw [hcg]; exact hr) (hnext _ (hk.put hb.2.2 undef []))
     ·cases h
 ·cases h
def run (P : Program) (nt : Nat) : Nat → List Item → Env → World → Option (List Item × Env × World)
 | 0, k, e, w => some (k, e, w)
 | n + 1, k, e, w => match one P nt k e w with
  | some (k', e', w') => run P nt n k' e' w'
  | none => none
theorem run_sound {P : Program} {f nt : Nat} {R : Goal P} : ∀ (n : Nat) {k k' : List Item} {e e' : Env} {w w' : World} {t : Array Value}
  (_ : run P nt n k e w = some (k', e', w')) (_ : Knows nt e t) (_ : ∀ t', Knows nt e' t' → At P f k' t' w' R), At P f k t w R
 | 0, _, _, _, _, _, _, t, h, hk, hnext => by
  simp [run] at h; obtain ⟨rfl, rfl, rfl⟩ := h; exact hnext t hk
 | n + 1, _, _, _, _, _, _, t, h, hk, hnext => by
  simp only [run] at h
  split at h
  ·next k2 e2 w2 h1 => exact one_sound h1 hk fun t' hk' => run_sound n h hk' hnext
  ·cases h
def dw : World := default
def kN (P : Program) (nt n : Nat) (k : List Item) (e : Env) : List Item := match run P nt n k e dw with | some (k', _, _) => k' | none => []
def eN (P : Program) (nt n : Nat) (k : List Item) (e : Env) : Env := match run P nt n k e dw with | some (_, e', _) => e' | none => []
theorem AtE.run {P : Program} {f nt : Nat} {k : List Item} {e : Env} {L : SHeap} {S : List Nat} {w0 : World} {R : Goal P} (n : Nat)
  (h : ∀ W, Eng.run P nt n k e W = some (kN P nt n k e, eN P nt n k e, W)) (hnext : AtE P f nt (kN P nt n k e) (eN P nt n k e) L S w0 R) : AtE P f nt k e L S w0 R :=
 fun _ W hk hm => run_sound n (h W) hk fun t' hk' => hnext t' W hk' hm
section
variable {P : Program} {f nt : Nat} {k : List Item} {e : Env} {L : SHeap} {S : List Nat} {w0 : World} {R : Goal P}
theorem AtE.push {i : Nat} {v : Value} (h : get? e i = some v) (hn : AtE P f nt k ((i, v) :: e) L S w0 R) : AtE P f nt k e L S w0 R := by
 intro t W hk hm
 refine hn t W ⟨hk.size, fun j u hj => ?_⟩ hm
 simp only [get?] at hj
 cases hb : Nat.beq i j with
 | true =>
  have : i = j := Nat.eq_of_beq_eq_true hb
  subst this
  rw [hb] at hj; simp only [cond_true, Option.some.injEq] at hj
  subst hj; exact hk.slot i v h
 | false => rw [hb] at hj; exact hk.slot j u hj
def restrict (e : Env) : List Nat → Option Env
 | [] => some []
 | i :: r => match get? e i with
  | none => none
  | some v => match restrict e r with
   | none => none
   | some e' => some ((i, v) :: e')
theorem restrict_get {e : Env} : ∀ {is : List Nat} {e' : Env}, restrict e is = some e' → ∀ i v, get? e' i = some v → get? e i = some v
 | [], e', h, i, v, hv => by simp [restrict] at h; subst h; simp [get?] at hv
 | j :: r, e', h, i, v, hv => by
  simp only [restrict] at h
  split at h
  ·cases h
  ·next u hu =>
   split at h
   ·cases h
   ·next e2 h2 =>
    simp at h; subst h
    simp only [get?] at hv
    cases hb : Nat.beq j i with
    | true =>
     have : j = i := Nat.eq_of_beq_eq_true hb
     subst this
     rw [hb] at hv; simp only [cond_true, Option.some.injEq] at hv
     subst hv; exact hu
    | false => rw [hb] at hv; exact restrict_get h2 i v hv
def selL (L : SHeap) : List Nat → SHeap
 | [] => []
 | i :: r => match L[i]? with
  | some x => x :: selL L r
  | none => selL L r
def notIn (i : Nat) : List Nat → Bool
 | [] => true
 | j :: r => bif Nat.beq i j then false else notIn i r
def nodupB : List Nat → Bool
 | [] => true
 | i :: r => bif notIn i r then nodupB r else false
theorem notIn_spec {i : Nat} : ∀ {l : List Nat}, notIn i l = true → i ∉ l
 | [], _ => by simp
 | j :: r, h => by
  simp only [notIn] at h
  cases hb : Nat.beq i j with
  | true => rw [hb] at h; simp at h
  | false =>
   rw [hb] at h
   intro hm
   cases hm with
   | head => simp at hb
   | tail _ hm => exact notIn_spec (by simpa using h) hm
theorem nodupB_spec : ∀ {l : List Nat}, nodupB l = true → l.Nodup
 | [], _ => List.nodup_nil
 | i :: r, h => by
  simp only [nodupB] at h
  cases hn : notIn i r with
  | false => rw [hn] at h; simp at h
  | true => rw [hn] at h; exact List.nodup_cons.2 ⟨notIn_spec hn, nodupB_spec (by simpa using h)⟩
theorem selL_mem : ∀ {is : List Nat} {x : Nat × Obj}, x ∈ selL L is → ∃ i ∈ is, L[i]? = some x
 | [], _, h => by simp [selL] at h
 | i :: r, x, h => by
  simp only [selL] at h
  split at h
  ·next y hy =>
   cases h with
   | head => exact ⟨i, by simp, hy⟩
   | tail _ h => obtain ⟨j, hj, hx⟩ := selL_mem h; exact ⟨j, by simp [hj], hx⟩
  ·obtain ⟨j, hj, hx⟩ := selL_mem h; exact ⟨j, by simp [hj], hx⟩
theorem Mem.sel {W : World} (hm : Mem L S w0 W) {is : List Nat} (h : is.Nodup) : Mem (selL L is) S w0 W := by
 have hidx : ∀ (i j : Nat) (x y : Nat × Obj), L[i]? = some x → L[j]? = some y → x.1 = y.1 → i = j := by
  intro i j x y hi hj he
  have hil := (List.getElem?_eq_some_iff.1 hi).1
  have hjl := (List.getElem?_eq_some_iff.1 hj).1
  have h1 : (L.map (·.1))[i]? = some x.1 := by rw [List.getElem?_map, hi]; rfl
  have h2 : (L.map (·.1))[j]? = some x.1 := by rw [List.getElem?_map, hj]; simp [he]
  have hil' : i < (L.map (·.1)).length := by simpa using hil
  have hjl' : j < (L.map (·.1)).length := by simpa using hjl
  rw [List.getElem?_eq_getElem hil'] at h1
  rw [List.getElem?_eq_getElem hjl'] at h2
  have heq : (L.map (·.1))[i] = (L.map (·.1))[j] := (Option.some.inj h1).trans (Option.some.inj h2).symm
  have hpw := List.pairwise_iff_getElem.1 hm.nodup
  rcases Nat.lt_trichotomy i j with h | h | h
  ·exact absurd heq (hpw i j hil' hjl' h)
  ·exact h
  ·exact absurd heq.symm (hpw j i hjl' hil' h)
 refine ⟨?_, fun p hp => ?_, fun p hp => ?_, hm.kept⟩
 ·induction is with
  | nil => simp [selL]
  | cons i r ih =>
   simp only [selL]
   have hr := ih (List.nodup_cons.1 h).2
   split
   ·next x hx =>
    rw [List.map_cons, List.nodup_cons]
    refine ⟨fun hmem => ?_, hr⟩
    obtain ⟨y, hy, he⟩ := List.mem_map.1 hmem
    obtain ⟨j, hj, hyj⟩ := selL_mem hy
    have := hidx i j x y hx hyj he.symm
    subst this
    exact (List.nodup_cons.1 h).1 hj
   ·exact hr
 ·obtain ⟨i, _, hx⟩ := selL_mem hp; exact hm.here p (List.mem_of_getElem? hx)
 ·obtain ⟨i, _, hx⟩ := selL_mem hp; exact hm.own p (List.mem_of_getElem? hx)
theorem AtE.cut (is : List Nat) {k' : List Item} {e' : Env} {L' : SHeap} (hn : AtE P f nt k' e' L' S w0 R) (h : (k, restrict e (e'.map (·.1)), selL L is, nodupB is) = (k', some e', L', true)) : AtE P f nt k e L S w0 R := by
 simp only [Prod.mk.injEq] at h
 obtain ⟨rfl, h, rfl, hnd⟩ := h
 intro t W hk hm
 exact hn t W ⟨hk.size, fun i v hv => hk.slot i v (restrict_get h i v hv)⟩ (hm.sel (nodupB_spec hnd))
theorem AtE.split (i : Nat) {b : Bool} (h : get? e i = some (.bool b)) (h1 : b = true → AtE P f nt k ((i, .bool true) :: e) L S w0 R)
  (h0 : b = false → AtE P f nt k ((i, .bool false) :: e) L S w0 R) : AtE P f nt k e L S w0 R := by
 cases b
 ·exact AtE.push h (h0 rfl)
 ·exact AtE.push h (h1 rfl)
theorem AtE.splitP (i : Nat) {p : Prop} [Decidable p] (h : get? e i = some (.bool (decide p))) (h1 : p → AtE P f nt k ((i, .bool true) :: e) L S w0 R)
  (h0 : ¬ p → AtE P f nt k ((i, .bool false) :: e) L S w0 R) : AtE P f nt k e L S w0 R :=
 AtE.split i h (fun hb => h1 (of_decide_eq_true hb)) (fun hb => h0 (of_decide_eq_false hb))
theorem AtE.splitN (i : Nat) {p : Prop} [Decidable p] (h : get? e i = some (.bool (!decide p))) (h1 : ¬ p → AtE P f nt k ((i, .bool true) :: e) L S w0 R)
  (h0 : p → AtE P f nt k ((i, .bool false) :: e) L S w0 R) : AtE P f nt k e L S w0 R :=
 AtE.split i h (fun hb => h1 (of_decide_eq_false (by simpa using hb))) (fun hb => h0 (of_decide_eq_true (by simpa using hb)))
theorem toList_loop (a : ByteArray) : ∀ (n i : Nat) (r : List UInt8), a.size - i = n → ByteArray.toList.loop a i r = r.reverse ++ a.data.toList.drop i
 | 0, i, r, h => by
  unfold ByteArray.toList.loop
  have : ¬ i < a.size := by omega
  rw [if_neg this]
  have h2 : a.data.toList.length ≤ i := by simp; have : a.size = a.data.size := rfl; omega
  rw [List.drop_eq_nil_of_le h2]; simp
 | n + 1, i, r, h => by
  unfold ByteArray.toList.loop
  have hi : i < a.size := by omega
  rw [if_pos hi]
  rw [toList_loop a n (i + 1) _ (by omega)]
  have hlen : i < a.data.toList.length := by simpa using hi
  rw [List.drop_eq_getElem_cons hlen]
  have : a.get! i = a.data.toList[i] := by
   show a.data[i]! = _
   rw [getElem!_pos a.data i hi]; simp
  rw [this]; simp
theorem toList_eq (a : ByteArray) : a.toList = a.data.toList := by
 unfold ByteArray.toList
 rw [toList_loop a a.size 0 [] (by omega)]; simp
theorem strEq_iff (x y : ByteArray) : (x.toList == y.toList) = true ↔ x = y := by
 rw [toList_eq, toList_eq, beq_iff_eq]
 constructor
 ·intro h; exact ByteArray.ext (Array.toList_inj.1 h)
 ·rintro rfl; rfl
theorem AtE.splitS (i : Nat) {x y : ByteArray} (h : get? e i = some (.bool (x.toList == y.toList))) (h1 : x = y → AtE P f nt k ((i, .bool true) :: e) L S w0 R)
  (h0 : ¬ x = y → AtE P f nt k ((i, .bool false) :: e) L S w0 R) : AtE P f nt k e L S w0 R :=
 AtE.split i h (fun hb => h1 ((strEq_iff x y).1 hb)) (fun hb => h0 (fun he => by rw [(strEq_iff x y).2 he] at hb; cases hb))
theorem AtE.splitT (i : Nat) {x y : ByteArray} (h : get? e i = some (.bool (!(x.toList == y.toList)))) (h1 : ¬ x = y → AtE P f nt k ((i, .bool true) :: e) L S w0 R)
  (h0 : x = y → AtE P f nt k ((i, .bool false) :: e) L S w0 R) : AtE P f nt k e L S w0 R :=
 AtE.split i h (fun hb => h1 (fun he => by rw [(strEq_iff x y).2 he] at hb; cases hb)) (fun hb => h0 ((strEq_iff x y).1 (by simpa using hb)))
theorem AtE.letI (i : Nat) {kd : IntKind} {n : Int} (h : get? e i = some (.int kd n)) (hn : ∀ x, x = n → AtE P f nt k ((i, .int kd x) :: e) L S w0 R) : AtE P f nt k e L S w0 R :=
 AtE.push h (hn n rfl)
theorem AtE.letS (i : Nat) {n : ByteArray} (h : get? e i = some (.string n)) (hn : ∀ x, x = n → AtE P f nt k ((i, .string x) :: e) L S w0 R) : AtE P f nt k e L S w0 R :=
 AtE.push h (hn n rfl)
def curO (nt : Nat) (k : List Item) (e : Env) : Oper := match cur nt k e with | some o => o | none => default
def curDst (nt : Nat) (k : List Item) (e : Env) : Option Tmp := match cur nt k e with | some o => o.dst | none => none
theorem AtE.opV {o : Oper} {v : Value} (hc : cur nt k e = some o) (hr : ∀ W, Mem L S w0 W → (execOp (rho e) o).run P W = .ok (.value v) W)
  (hn : AtE P f nt (nextK k) (putE e (curDst nt k e) v) L S w0 R) : AtE P f nt k e L S w0 R := by
 refine AtE.op hc fun W hm => ⟨v, W, hr W hm, fun t hk => hn t W ?_ hm⟩
 simpa only [curDst, hc] using hk
def OpV (P : Program) (nt : Nat) (k : List Item) (e : Env) (L : SHeap) (S : List Nat) (w0 : World) (v : Value) : Prop := ∃ o, cur nt k e = some o ∧ ∀ W, Mem L S w0 W → (execOp (rho e) o).run P W = .ok (.value v) W
theorem OpV.E {v : Value} (h : OpV P nt k e L S w0 v) (hn : AtE P f nt (nextK k) (putE e (curDst nt k e) v) L S w0 R) : AtE P f nt k e L S w0 R := let ⟨_, h1, h2⟩ := h; AtE.opV h1 h2 hn
theorem AtE.opK {o : Oper} {L' : SHeap} (hc : cur nt k e = some o) (hr : ∀ W, Mem L S w0 W → ∃ W', (execOp (rho e) o).run P W = .ok .skip W' ∧ Mem L' S w0 W')
  (hn : AtE P f nt (nextK k) (putE e (curDst nt k e) undef) L' S w0 R) : AtE P f nt k e L S w0 R := by
 refine AtE.opSkip hc fun W hm => ?_
 obtain ⟨W', h1, h2⟩ := hr W hm
 exact ⟨W', h1, fun t hk => hn t W' (by simpa only [curDst, hc] using hk) h2⟩
theorem run_lift {s : Sem Value} {v : Value} {W W' : World} (h : s.run P W = .ok v W') : (do pure (Next.value (← s)) : Sem Next).run P W = .ok (.value v) W' := by
 rw [Sem.run_bind, h]; rfl
def bat (s : ByteArray) (i : Int) : Int := (((s.data.toList)[i.toNat]?).getD 0).toNat
def asIndex (P : Program) (nt : Nat) (k : List Item) (e : Env) : Option (Option TypeDesc × Value × Value) :=
 match cur nt k e with
 | some o => match o.op with
  | .index T x i => some (P.underlying T, rho e x, rho e i)
  | _ => none
 | none => none
theorem AtE.indexS {s : ByteArray} {kd : IntKind} {i : Int} (h : asIndex P nt k e = some (some .string, .string s, .int kd i)) (hb : 0 ≤ i ∧ i < s.size)
  (hn : AtE P f nt (nextK k) (putE e (curDst nt k e) (.int .u8 (bat s i))) L S w0 R) : AtE P f nt k e L S w0 R := by
 unfold asIndex at h
 split at h
 ·next o hc =>
  split at h
  ·next T x ix ho =>
   simp only [Option.some.injEq, Prod.mk.injEq] at h
   obtain ⟨hT, hx, hi⟩ := h
   refine AtE.opV hc (fun W _ => ?_) hn
   simp only [execOp, ho, hx, hi]
   refine run_lift ?_
   rw [run_index_string _ _ _ _ _ hT, dif_pos hb]
   have hlen : i.toNat < s.data.toList.length := by have : s.size = s.data.size := rfl; simp; omega
   have : (s[i.toNat]'(by omega)) = ((s.data.toList)[i.toNat]?).getD 0 := by
    rw [List.getElem?_eq_getElem hlen]; simp [ByteArray.getElem_eq_getElem_data]
   rw [this]; rfl
  ·cases h
 ·cases h
def asSlice (P : Program) (nt : Nat) (k : List Item) (e : Env) : Option (Option TypeDesc × Value × Option Value × Option Value × Option Value) :=
 match cur nt k e with
 | some o => match o.op with
  | .slice T x lo hi mx => some (P.underlying T, rho e x, lo.map (rho e), hi.map (rho e), mx.map (rho e))
  | _ => none
 | none => none
theorem OpV.sliceS {s : ByteArray} {lo hi : Option Value} (h : asSlice P nt k e = some (some .string, .string s, lo, hi, none)) {a b : Int}
  (hlo : (∃ kd, lo = some (.int kd a)) ∨ (lo = none ∧ a = 0)) (hhi : (∃ kd, hi = some (.int kd b)) ∨ (hi = none ∧ b = s.size)) (hb : 0 ≤ a ∧ a ≤ b ∧ b ≤ s.size) : OpV P nt k e L S w0 (.string (s.extract a.toNat b.toNat)) := by
 unfold asSlice at h
 split at h
 ·next o hc =>
  split at h
  ·next T x l2 h2 m2 ho =>
   simp only [Option.some.injEq, Prod.mk.injEq] at h
   obtain ⟨hT, hx, hl, hh, hm⟩ := h
   refine ⟨_, hc, fun W _ => ?_⟩
   simp only [execOp, ho, hx, hl, hh, hm]
   refine run_lift ?_
   rw [run_sliceAt_string _ _ _ _ _ _ hT]
   rcases hlo with ⟨kd, rfl⟩ | ⟨rfl, rfl⟩ <;> rcases hhi with ⟨kd', rfl⟩ | ⟨rfl, rfl⟩
   ·exact run_slice_string _ _ _ _ _ _ _ hT hb.1 hb.2.1 hb.2.2
   ·rw [run_slice_string_from_if _ _ _ _ _ hT, if_pos ⟨hb.1, hb.2.1⟩]; simp
   ·rw [run_slice_string_to_if _ _ _ _ _ hT, if_pos ⟨hb.2.1, hb.2.2⟩]; rfl
   ·rw [run_slice_string_all _ _ _ hT]; simp
  ·cases h
 ·cases h
theorem AtE.sliceS {s : ByteArray} {lo hi : Option Value} (h : asSlice P nt k e = some (some .string, .string s, lo, hi, none)) {a b : Int}
  (hlo : (∃ kd, lo = some (.int kd a)) ∨ (lo = none ∧ a = 0)) (hhi : (∃ kd, hi = some (.int kd b)) ∨ (hi = none ∧ b = s.size)) (hb : 0 ≤ a ∧ a ≤ b ∧ b ≤ s.size) (hn : AtE P f nt (nextK k) (putE e (curDst nt k e) (.string (s.extract a.toNat b.toNat))) L S w0 R) : AtE P f nt k e L S w0 R := (OpV.sliceS h hlo hhi hb).E hn
def asBin (nt : Nat) (k : List Item) (e : Env) : Option (BinOp × Value × Value) :=
 match cur nt k e with
 | some o => match o.op with
  | .binOp op _ x y _ => some (op, rho e x, rho e y)
  | _ => none
 | none => none
theorem asBin_spec {op : BinOp} {a b : Value} (h : asBin nt k e = some (op, a, b)) : ∃ o T x y U, cur nt k e = some o ∧ o.op = .binOp op T x y U ∧ rho e x = a ∧ rho e y = b := by
 unfold asBin at h
 split at h
 ·next o hc =>
  split at h
  ·next op' T x y U ho =>
   simp only [Option.some.injEq, Prod.mk.injEq] at h
   obtain ⟨rfl, hx, hy⟩ := h
   exact ⟨o, T, x, y, U, hc, ho, hx, hy⟩
  ·cases h
 ·cases h
theorem eqGuard_none {op : BinOp} (T : TypeId) (x y : Operand) (a b : Value) (W : World) (h : op ≠ .eql ∧ op ≠ .neq) : (eqGuard op T x y a b).run P W = .ok () W := by
 cases op <;> simp_all [eqGuard]
theorem AtE.concat {x y : ByteArray} (h : asBin nt k e = some (.add, .string x, .string y)) (hb : x.size + y.size ≤ 9223372036854775807)
  (hn : AtE P f nt (nextK k) (putE e (curDst nt k e) (.string (x ++ y))) L S w0 R) : AtE P f nt k e L S w0 R := by
 obtain ⟨o, T, a, b, U, hc, ho, ha, hb'⟩ := asBin_spec h
 refine AtE.opV hc (fun W _ => ?_) hn
 simp only [execOp, ho, ha, hb']
 refine run_lift ?_
 rw [Sem.run_bind, eqGuard_none _ _ _ _ _ _ (by simp)]
 simp only [Result.andThen, binOp, Op.stringOp]
 rw [if_neg (by show ¬ (((x.size + y.size : Nat) : Int) > 9223372036854775807); omega)]
 rfl
theorem AtE.shl {kd kc : IntKind} {x y : Int} (h : asBin nt k e = some (.shl, .int kd x, .int kc y)) (hb : 0 ≤ y)
  (hn : AtE P f nt (nextK k) (putE e (curDst nt k e) (.int kd (kd.wrap (x * 2 ^ (min y.toNat kd.bits))))) L S w0 R) : AtE P f nt k e L S w0 R := by
 obtain ⟨o, T, a, b, U, hc, ho, ha, hb'⟩ := asBin_spec h
 refine AtE.opV hc (fun W _ => ?_) hn
 simp only [execOp, ho, ha, hb']
 refine run_lift ?_
 rw [Sem.run_bind, eqGuard_none _ _ _ _ _ _ (by simp)]
 simp only [Result.andThen, binOp, Op.shift]
 rw [if_neg (by omega)]
 rfl
theorem AtE.rem {kd : IntKind} {x y : Int} (h : asBin nt k e = some (.rem, .int kd x, .int kd y)) (hb : y ≠ 0)
  (hn : AtE P f nt (nextK k) (putE e (curDst nt k e) (.int kd (x.tmod y))) L S w0 R) : AtE P f nt k e L S w0 R := by
 obtain ⟨o, T, a, b, U, hc, ho, ha, hb'⟩ := asBin_spec h
 refine AtE.opV hc (fun W _ => ?_) hn
 simp only [execOp, ho, ha, hb']
 refine run_lift ?_
 rw [Sem.run_bind, eqGuard_none _ _ _ _ _ _ (by simp)]
 simp [Result.andThen, binOp, Op.intDiv, hb]
def CallH (P : Program) (g : FuncId) (args : Array Value) (L : SHeap) (S : List Nat) (w0 : World) (K : Value → SHeap → Prop) : Prop :=
 ∀ W, Mem L S w0 W → Calls P g args W fun e W' => ∃ v L', e = .returned v ∧ Mem L' S w0 W' ∧ K v L'
theorem AtE.call (g : FuncId) (args : Array Value) {L1 : SHeap} {K : Value → SHeap → Prop} (hr : ∀ W, (execOp (rho e) (curO nt k e)).run P W = .ok (.enter g args) W)
  (hc : (cur nt k e, L) = (some (curO nt k e), L1)) (h : CallH P g args L1 S w0 K)
  (hn : ∀ v L', K v L' → AtE P f nt (nextK k) (putE e (curDst nt k e) v) L' S w0 R) : AtE P f nt k e L S w0 R := by
 intro t W hk hm
 simp only [Prod.mk.injEq] at hc
 obtain ⟨hc, rfl⟩ := hc
 obtain ⟨ops, i, rest, k', rfl, ho, hw, hkn, hp, hd⟩ := cur_spec hc
 have hr' := hr W
 rw [← execOp_congr (Act.mk t []).eval (rho e) _ hp (hk.rho hkn [])] at hr'
 refine At.enter ho (hk.wanted hw) hr' ((h W hm).mono fun en W' hh => ?_)
 obtain ⟨v, L', he, hm', hK⟩ := hh
 refine ⟨v, he, hn v L' hK _ W' ?_ hm'⟩
 have := hk.put hd v []
 simpa only [curDst, hc] using this
def PureC (P : Program) (g : FuncId) (args : Array Value) (v : Value) : Prop :=
 ∀ W, Calls P g args W fun e W' => e = .returned v ∧ Below W.heap.size W W'
theorem CallH.pure {g : FuncId} {args : Array Value} {v : Value} {K : Value → SHeap → Prop} (h : PureC P g args v) (hK : K v L) : CallH P g args L S w0 K :=
 fun W hm => (h W).mono fun _ _ hh => ⟨v, L, hh.1, hm.after hh.2, hK⟩
def Fin (R : Ending → World → Prop) (L : SHeap) (S : List Nat) (w0 : World) (v : Value) : Prop := ∀ W, Mem L S w0 W → R (.returned v) W
def retV (e : Env) (rs : List ResultVar) : Option Value :=
 match rs with
 | [] => some (.tuple #[])
 | [.tmp a] => get? e a
 | [.tmp a, .tmp b] => match get? e a with
  | some x => match get? e b with
   | some y => some (.tuple #[x, y])
   | none => none
  | none => none
 | [.tmp a, .tmp b, .tmp c] => match get? e a with
  | some x => match get? e b with
   | some y => match get? e c with
    | some z => some (.tuple #[x, y, z])
    | none => none
   | none => none
  | none => none
 | _ => none
theorem Knows.getD {t : Array Value} (hk : Knows nt e t) {i : Nat} {v : Value} (h : get? e i = some v) : t.getD i undef = v := by
 rw [Array.getD_eq_getD_getElem?, hk.slot i v h]; rfl
theorem results_run {fn : Func} {t : Array Value} (hk : Knows nt e t) {v : Value} (h : retV e fn.results.toList = some v) (W : World) : (results fn t).run P W = .ok v W := by
 have hr : fn.results = fn.results.toList.toArray := by simp
 unfold retV at h
 split at h
 ·next h0 => rw [h0] at hr; simp at h; subst h; exact results_none hr _ _ _
 ·next a h0 => rw [h0] at hr; rw [results_tmp hr, hk.getD h]
 ·next a b h0 =>
  rw [h0] at hr
  split at h
  ·next x hx =>
   split at h
   ·next y hy => simp at h; subst h; rw [results_tmp2 hr, hk.getD hx, hk.getD hy]
   ·cases h
  ·cases h
 ·next a b c h0 =>
  rw [h0] at hr
  split at h
  ·next x hx =>
   split at h
   ·next y hy =>
    split at h
    ·next z hz => simp at h; subst h; rw [results_tmp3 hr, hk.getD hx, hk.getD hy, hk.getD hz]
    ·cases h
   ·cases h
  ·cases h
 ·cases h
def isRet : List Item → Bool
 | .code .ret :: _ => true
 | [] => true
 | _ => false
theorem AtE.ret {R : Ending → World → Prop} {fn : Func} {v : Value} {L1 : SHeap} (hf : P.funcs[f]? = some fn) (hv : (isRet k, retV e fn.results.toList, L) = (true, some v, L1)) (h : Fin R L1 S w0 v) : AtE P f nt k e L S w0 (nrm R) := by
 simp only [Prod.mk.injEq] at hv
 obtain ⟨h1, hv, rfl⟩ := hv
 intro t W hk hm
 unfold isRet at h1
 split at h1
 ·exact At.ret hf (results_run hk hv W) (h W hm)
 ·exact At.fin hf (results_run hk hv W) (h W hm)
 ·cases h1
def ior (k : IntKind) (x y : Int) : Int := k.wrap ((BitVec.ofInt k.bits x ||| BitVec.ofInt k.bits y).toNat : Int)
def ixor (k : IntKind) (x y : Int) : Int := k.wrap ((BitVec.ofInt k.bits x ^^^ BitVec.ofInt k.bits y).toNat : Int)
def inot (k : IntKind) (x : Int) : Int := ixor k (if k.signed then -1 else k.max) x
def sub : Code → List Nat → Code
 | c, [] => c
 | .seq a b, i :: r => match i with | 0 => sub a r | _ => sub b r
 | .cond _ a b, i :: r => match i with | 0 => sub a r | _ => sub b r
 | .block _ b, _ :: r => sub b r
 | .loop b, _ :: r => sub b r
 | .scope b, _ :: r => sub b r
 | .rangeFunc _ _ a b, i :: r => match i with | 0 => sub a r | _ => sub b r
 | c, _ => c
def body (fn : Func) : Code := match fn.body with | some c => c | none => .skip
def argsE : Nat → List Value → Env
 | _, [] => []
 | i, v :: r => (i, v) :: argsE (i + 1) r
theorem argsE_get : ∀ (vs : List Value) (i j : Nat) (v : Value), get? (argsE i vs) j = some v → i ≤ j ∧ vs[j - i]? = some v
 | [], _, _, _, h => by simp [argsE, get?] at h
 | u :: r, i, j, v, h => by
  simp only [argsE, get?] at h
  cases hb : Nat.beq i j with
  | true =>
   have : i = j := Nat.eq_of_beq_eq_true hb
   subst this
   rw [hb] at h; simp at h; subst h; simp
  | false =>
   rw [hb] at h
   have hne : i ≠ j := fun e => by subst e; simp at hb
   obtain ⟨h1, h2⟩ := argsE_get r (i + 1) j v h
   refine ⟨by omega, ?_⟩
   have : j - i = (j - (i + 1)) + 1 := by omega
   rw [this]; simpa using h2
theorem AtE.calls {fn : Func} {args : List Value} {L : SHeap} {S : List Nat} {w0 W : World} {R : Ending → World → Prop} (hf : P.funcs[f]? = some fn) (hb : (fn.body.isSome, fn.ntmps, Nat.ble args.length nt) = (true, nt, true)) (hm : Mem L S w0 W)
  (h : AtE P f nt [.code (body fn)] (argsE 0 args) L S w0 (nrm R)) : Calls P f ⟨args⟩ W R := by
 simp only [Prod.mk.injEq] at hb
 obtain ⟨h1, h2, h3⟩ := hb
 obtain ⟨c, hc⟩ := Option.isSome_iff_exists.1 h1
 refine At.calls hf hc ?_
 have hbd : body fn = c := by simp [body, hc]
 rw [← hbd]
 have hle : args.length ≤ nt := Nat.le_of_ble_eq_true h3
 refine h _ W ⟨?_, ?_⟩ hm
 ·simp [h2]; omega
 ·intro i v hv
  obtain ⟨_, hv⟩ := argsE_get args 0 i v hv
  simp only [Nat.sub_zero] at hv
  have hi : i < args.length := (List.getElem?_eq_some_iff.1 hv).1
  rw [Array.getElem?_append_left (by simpa using hi)]
  simpa using hv
end
section
variable {P : Program} {f nt : Nat} {k : List Item} {e : Env} {L : SHeap} {S : List Nat} {w0 : World} {R : Goal P}
def blkL (L : SHeap) (j : Nat) : Nat := match L[j]? with | some (B, _) => B | none => 0
def cellsL (L : SHeap) (j : Nat) : List Value := match L[j]? with | some (_, .cells c _ _) => c.toList | _ => []
def elemL (L : SHeap) (j : Nat) : TypeId := match L[j]? with | some (_, .cells _ t _) => t | _ => 0
def fzL (L : SHeap) (j : Nat) : Nat × Nat := match L[j]? with | some (_, .cells _ _ fz) => fz | _ => (0, 0)
def isCellsL (L : SHeap) (j : Nat) : Bool := match L[j]? with | some (_, .cells _ _ _) => true | _ => false
def setL (L : SHeap) (j : Nat) (c : List Value) : SHeap := L.set j (blkL L j, .cells ⟨c⟩ (elemL L j) (fzL L j))
theorem isCellsL_spec {L : SHeap} {j : Nat} (h : isCellsL L j = true) : L[j]? = some (blkL L j, .cells ⟨cellsL L j⟩ (elemL L j) (fzL L j)) := by
 unfold isCellsL at h
 split at h
 ·next B c t fz hj => simp [blkL, cellsL, elemL, fzL, hj]
 ·cases h
theorem Mem.heapAt {W : World} (hm : Mem L S w0 W) {j : Nat} (h : isCellsL L j = true) : W.heap[blkL L j]? = some (.cells ⟨cellsL L j⟩ (elemL L j) (fzL L j)) :=
 hm.here _ (List.mem_of_getElem? (isCellsL_spec h))
theorem addr_add (b o j : Nat) : (⟨b, o, none⟩ : Addr).add j = ⟨b, o + j, none⟩ := by unfold Addr.add; split <;> simp_all
def aggD : TypeDesc → Bool
 | .struct _ | .array _ _ => true
 | _ => false
def valAt (P : Program) (T : TypeId) (c : List Value) (off : Nat) : Option Value :=
 match P.underlying T with
 | none => none
 | some d => match aggD d with
  | true => match P.info? T with
   | some i => bif Nat.ble (off + i.size) c.length then some (.agg ⟨(c.drop off).take i.size⟩) else none
   | none => none
  | false => c[off]?
theorem cell_of_heap {W : World} {B : Nat} {c : List Value} {t : TypeId} {fz : Nat × Nat} (h : W.heap[B]? = some (.cells ⟨c⟩ t fz)) (off : Nat) : W.cell? ⟨B, off, none⟩ = c[off]? := by
 simp [World.cell?, h]
theorem load_run {W : World} {B off : Nat} {c : List Value} {t : TypeId} {fz : Nat × Nat} {T : TypeId} {v : Value} (h : W.heap[B]? = some (.cells ⟨c⟩ t fz)) (hv : valAt P T c off = some v) :
  (Instr.loadAt T (.pointer (some ⟨B, off, none⟩))).run P W = .ok v W := by
 unfold valAt at hv
 split at hv
 ·cases hv
 ·next d hd =>
  split at hv
  ·next ha =>
   split at hv
   ·next i hi =>
    cases hb : Nat.ble (off + i.size) c.length with
    | false => rw [hb] at hv; simp at hv
    | true =>
     have hle := Nat.le_of_ble_eq_true hb
     rw [hb] at hv; simp only [cond_true, Option.some.injEq] at hv
     subst hv
     have := run_loadAt_mid (P := P) W B off T ((c.drop off).take i.size) d (fun j u hj => ?_) hd (by cases d <;> simp_all [aggD]) (by simp [hi]; omega)
     ·simpa using this
     ·rw [cell_of_heap h]
      rw [List.getElem?_take] at hj
      split at hj
      ·rw [List.getElem?_drop] at hj; exact hj
      ·cases hj
   ·cases hv
  ·next ha =>
   have hagg : (isAgg T).run P W = .ok false W := by
    unfold isAgg
    rw [Sem.run_bind, run_underlying hd W]
    cases d <;> simp_all [aggD]
   simp only [Instr.loadAt, Instr.sureAddr, Sem.run_bind, Sem.run_pure, Result.andThen_ok, loadVar, hagg]
   simp [run_load, cell_of_heap h, hv]
def asLoad (nt : Nat) (k : List Item) (e : Env) : Option (TypeId × Value) :=
 match cur nt k e with
 | some o => match o.op with
  | .load T x => some (T, rho e x)
  | _ => none
 | none => none
theorem asLoad_spec {T : TypeId} {a : Value} (h : asLoad nt k e = some (T, a)) : ∃ o x, cur nt k e = some o ∧ o.op = .load T x ∧ rho e x = a := by
 unfold asLoad at h
 split at h
 ·next o hc =>
  split at h
  ·next T' x ho => simp only [Option.some.injEq, Prod.mk.injEq] at h; obtain ⟨rfl, hx⟩ := h; exact ⟨o, x, hc, ho, hx⟩
  ·cases h
 ·cases h
theorem OpV.load (j off : Nat) {T : TypeId} {v : Value} (h : (asLoad nt k e, isCellsL L j, valAt P T (cellsL L j) off) = (some (T, .pointer (some ⟨blkL L j, off, none⟩)), true, some v)) : OpV P nt k e L S w0 v := by
 simp only [Prod.mk.injEq] at h
 obtain ⟨h1, h2, h3⟩ := h
 obtain ⟨o, x, hc, ho, hx⟩ := asLoad_spec h1
 refine ⟨_, hc, fun W hm => ?_⟩
 simp only [execOp, ho, hx]
 exact run_lift (load_run (hm.heapAt h2) h3)
theorem AtE.load (j off : Nat) {T : TypeId} {v : Value} (h : (asLoad nt k e, isCellsL L j, valAt P T (cellsL L j) off) = (some (T, .pointer (some ⟨blkL L j, off, none⟩)), true, some v)) (hn : AtE P f nt (nextK k) (putE e (curDst nt k e) v) L S w0 R) : AtE P f nt k e L S w0 R := (OpV.load j off h).E hn
theorem OpV.loadS (j : Nat) {off : Nat} {T : TypeId} {v : Value} {c : List Value} (h : (asLoad nt k e, isCellsL L j, cellsL L j) = (some (T, .pointer (some ⟨blkL L j, off, none⟩)), true, c)) (h3 : valAt P T c off = some v) : OpV P nt k e L S w0 v := by
 simp only [Prod.mk.injEq] at h
 obtain ⟨h1, h2, h4⟩ := h
 obtain ⟨o, x, hc, ho, hx⟩ := asLoad_spec h1
 refine ⟨_, hc, fun W hm => ?_⟩
 simp only [execOp, ho, hx]
 exact run_lift (load_run (hm.heapAt h2) (h4 ▸ h3))
theorem AtE.loadS (j : Nat) {off : Nat} {T : TypeId} {v : Value} {c : List Value} (h : (asLoad nt k e, isCellsL L j, cellsL L j) = (some (T, .pointer (some ⟨blkL L j, off, none⟩)), true, c)) (h3 : valAt P T c off = some v) (hn : AtE P f nt (nextK k) (putE e (curDst nt k e) v) L S w0 R) : AtE P f nt k e L S w0 R := (OpV.loadS j h h3).E hn
theorem valAt_one {T : TypeId} {c : List Value} {off : Nat} {v : Value} (h : c[off]? = some v) (hT : (P.underlying T).map aggD = some false) : valAt P T c off = some v := by
 unfold valAt
 cases hd : P.underlying T with
 | none => rw [hd] at hT; cases hT
 | some d =>
  rw [hd] at hT; simp at hT
  simp [hT, h]
theorem valAt_agg {T : TypeId} {c : List Value} {off n : Nat} {vs : List Value} (h : (c.drop off).take n = vs) (hl : off + n ≤ c.length) (hT : (P.underlying T).map aggD = some true) (hi : (P.info? T).map (·.size) = some n) : valAt P T c off = some (.agg ⟨vs⟩) := by
 unfold valAt
 cases hd : P.underlying T with
 | none => rw [hd] at hT; cases hT
 | some d =>
  rw [hd] at hT; simp at hT
  cases hq : P.info? T with
  | none => rw [hq] at hi; cases hi
  | some i =>
   rw [hq] at hi; simp at hi
   have : Nat.ble (off + n) c.length = true := Nat.ble_eq_true_of_le hl
   simp [hT, this, hi, h]
def blkW (w : World) (b : Nat) : Option (List Value) := match w.heap[b]? with | some (.cells c _ _) => some c.toList | _ => none
theorem OpV.loadW {b off : Nat} {T : TypeId} {v : Value} {c : List Value} (h : asLoad nt k e = some (T, .pointer (some ⟨b, off, none⟩))) (hb : b ∉ S) (hc : blkW w0 b = some c) (hv : valAt P T c off = some v) : OpV P nt k e L S w0 v := by
 obtain ⟨o, x, hcu, ho, hx⟩ := asLoad_spec h
 refine ⟨_, hcu, fun W hm => ?_⟩
 simp only [execOp, ho, hx]
 refine run_lift ?_
 unfold blkW at hc
 split at hc
 ·next c' t fz hh =>
  simp at hc; subst hc
  have hlt : b < w0.heap.size := by
   rcases Nat.lt_or_ge b w0.heap.size with h | h
   ·exact h
   ·rw [Array.getElem?_eq_none h] at hh; cases hh
  refine load_run (t := t) (fz := fz) ?_ hv
  rw [hm.kept.block b hlt hb, hh]
 ·cases hc
theorem AtE.loadW {b off : Nat} {T : TypeId} {v : Value} {c : List Value} (h : asLoad nt k e = some (T, .pointer (some ⟨b, off, none⟩))) (hb : b ∉ S) (hc : blkW w0 b = some c) (hv : valAt P T c off = some v) (hn : AtE P f nt (nextK k) (putE e (curDst nt k e) v) L S w0 R) : AtE P f nt k e L S w0 R := (OpV.loadW h hb hc hv).E hn
def asStore (nt : Nat) (k : List Item) (e : Env) : Option (TypeId × Value × Value) :=
 match cur nt k e with
 | some o => match o.op with
  | .store T x v => some (T, rho e x, rho e v)
  | _ => none
 | none => none
theorem asStore_spec {T : TypeId} {a v : Value} (h : asStore nt k e = some (T, a, v)) : ∃ o x y, cur nt k e = some o ∧ o.op = .store T x y ∧ rho e x = a ∧ rho e y = v := by
 unfold asStore at h
 split at h
 ·next o hc =>
  split at h
  ·next T' x y ho => simp only [Option.some.injEq, Prod.mk.injEq] at h; obtain ⟨rfl, hx, hy⟩ := h; exact ⟨o, x, y, hc, ho, hx, hy⟩
  ·cases h
 ·cases h
def allOne : List Value → Bool
 | [] => true
 | v :: r => bif v.oneCell' then allOne r else false
theorem allOne_spec : ∀ {l : List Value}, allOne l = true → ∀ v ∈ l, v.oneCell' = true
 | [], _, _, h => by cases h
 | v :: r, h, x, hx => by
  simp only [allOne] at h
  cases hv : v.oneCell' with
  | false => rw [hv] at h; simp at h
  | true =>
   rw [hv] at h
   cases hx with
   | head => exact hv
   | tail _ hm => exact allOne_spec (by simpa using h) x hm
def putC (P : Program) (T : TypeId) (c : List Value) (off : Nat) (v : Value) : Option (List Value) :=
 match P.info? T with
 | none => none
 | some i => bif (Nat.beq v.cells.toList.length i.size && Nat.ble (off + i.size) c.length) && allOne v.cells.toList then some (c.take off ++ v.cells.toList ++ c.drop (off + v.cells.toList.length)) else none
theorem World.setRow_heap' (W : World) (B : Nat) (c c' : Array Value) (t : TypeId) (fz : Nat × Nat) (h : W.heap[B]? = some (.cells c t fz)) : (W.setRow B c').heap = W.heap.setIfInBounds B (.cells c' t fz) := by
 apply Array.ext_getElem?
 intro i
 simp only [World.setRow, Array.getElem?_modify, Array.getElem?_setIfInBounds]
 split
 ·next hi =>
  subst hi
  have : B < W.heap.size := (Array.getElem?_eq_some_iff.1 h).1
  rw [h]; simp [this]
 ·rfl
theorem store_run {W : World} {B off : Nat} {c c' : List Value} {t : TypeId} {T : TypeId} {v : Value} (h : W.heap[B]? = some (.cells ⟨c⟩ t (0, 0))) (hv : putC P T c off v = some c') :
  (Instr.storeAt T (.pointer (some ⟨B, off, none⟩)) v).run P W = .ok () (W.setRow B ⟨c'⟩) := by
 unfold putC at hv
 split at hv
 ·cases hv
 ·next i hi =>
  cases hb : (Nat.beq v.cells.toList.length i.size && Nat.ble (off + i.size) c.length) && allOne v.cells.toList with
  | false => rw [hb] at hv; simp at hv
  | true =>
   rw [hb] at hv
   simp only [cond_true, Option.some.injEq] at hv
   subst hv
   simp only [Bool.and_eq_true] at hb
   obtain ⟨⟨h1, h2⟩, h3⟩ := hb
   have h1 := Nat.eq_of_beq_eq_true h1
   have h2 := Nat.le_of_ble_eq_true h2
   have hs := run_storeCells_at P B off t v.cells.toList 0 ⟨c⟩ W h (by simp; simp at h1; omega) (allOne_spec h3)
   simp only [Instr.storeAt, Instr.sureAddr, Sem.run_bind, Sem.run_pure, Result.andThen_ok, storeVar, sizeOf, typeInfo, run_program, hi]
   have hne : ¬ (v.cells.size ≠ i.size) := by simpa using h1
   simp only [hne, if_false]
   rw [hs]; simp
theorem Mem.setRow {W : World} (hm : Mem L S w0 W) {j : Nat} (h : isCellsL L j = true) (c' : List Value) : Mem (setL L j c') S w0 (W.setRow (blkL L j) ⟨c'⟩) :=
 Mem.setObj hm (isCellsL_spec h) _ rfl rfl rfl (World.setRow_heap' W _ _ _ _ _ (hm.heapAt h))
def putOk (P : Program) (T : TypeId) (c : List Value) (off : Nat) (v : Value) : Bool := match putC P T c off v with | some _ => true | none => false
def putD (P : Program) (T : TypeId) (c : List Value) (off : Nat) (v : Value) : List Value := match putC P T c off v with | some c' => c' | none => []
theorem AtE.store (j off : Nat) {T : TypeId} {v : Value} (h : (asStore nt k e, isCellsL L j, fzL L j, putOk P T (cellsL L j) off v) = (some (T, .pointer (some ⟨blkL L j, off, none⟩), v), true, (0, 0), true))
  (hn : AtE P f nt (nextK k) (putE e (curDst nt k e) undef) (setL L j (putD P T (cellsL L j) off v)) S w0 R) : AtE P f nt k e L S w0 R := by
 simp only [Prod.mk.injEq] at h
 obtain ⟨h1, h2, h3, h4⟩ := h
 obtain ⟨o, x, y, hc, ho, hx, hy⟩ := asStore_spec h1
 cases hp : putC P T (cellsL L j) off v with
 | none => simp [putOk, hp] at h4
 | some c' =>
  have hd : putD P T (cellsL L j) off v = c' := by simp [putD, hp]
  rw [hd] at hn
  refine AtE.opK hc (fun W hm => ⟨W.setRow (blkL L j) ⟨c'⟩, ?_, hm.setRow h2 c'⟩) hn
  simp only [execOp, ho, hx, hy]
  have hh := hm.heapAt h2
  rw [h3] at hh
  rw [Sem.run_bind, store_run hh hp]; rfl
theorem setCell_setRow {W : World} {B off : Nat} {c : List Value} {t : TypeId} {fz : Nat × Nat} {v : Value} (h : W.heap[B]? = some (.cells ⟨c⟩ t fz)) : W.setCell ⟨B, off, none⟩ v = W.setRow B ⟨c.set off v⟩ := by
 unfold World.setCell World.setRow
 congr 1
 apply Array.ext_getElem?
 intro i
 simp only [Array.getElem?_modify]
 split
 ·next hi => subst hi; rw [h]; simp
 ·rfl
theorem AtE.storeS (j : Nat) {off lo hi : Nat} {T : TypeId} {v : Value} {c : List Value} (h : (asStore nt k e, isCellsL L j, v.oneCell', (P.info? T).map (·.size), cellsL L j, fzL L j) = (some (T, .pointer (some ⟨blkL L j, off, none⟩), v), true, true, some 1, c, (lo, hi)))
  (hb : off < c.length) (hfz : off < lo ∨ hi ≤ off)
  (hn : AtE P f nt (nextK k) (putE e (curDst nt k e) undef) (setL L j (c.set off v)) S w0 R) : AtE P f nt k e L S w0 R := by
 simp only [Prod.mk.injEq] at h
 obtain ⟨h1, h2, h3, h4, h5, h6⟩ := h
 obtain ⟨o, x, y, hc, ho, hx, hy⟩ := asStore_spec h1
 refine AtE.opK hc (fun W hm => ⟨W.setRow (blkL L j) ⟨c.set off v⟩, ?_, hm.setRow h2 _⟩) hn
 have hh := hm.heapAt h2
 rw [h5, h6] at hh
 cases hq : P.info? T with
 | none => rw [hq] at h4; cases h4
 | some i =>
  rw [hq] at h4; simp at h4
  have hcs : v.cells = #[v] := by cases v <;> simp_all [Value.cells, Value.oneCell']
  have hcell : W.cell? ⟨blkL L j, off, none⟩ = some (c[off]) := by rw [cell_of_heap hh, List.getElem?_eq_getElem hb]
  have hfr : W.frozen? ⟨blkL L j, off, none⟩ = false := by
   simp only [World.frozen?, hh]
   rcases hfz with h | h
   ·simp; intro h'; omega
   ·simp; intro h'; omega
  simp only [execOp, ho, hx, hy, Sem.run_bind, Instr.storeAt, Instr.sureAddr, Sem.run_pure, Result.andThen_ok, storeVar, sizeOf, typeInfo, run_program, hq, hcs]
  simp only [h4, List.size_toArray, List.length_cons, List.length_nil, Nat.zero_add, ne_eq, not_true, if_false, storeCells]
  simp only [Sem.run_bind, Addr.add_zero', run_store P W _ v _ h3, hcell, hfr, Bool.false_eq_true, if_false, Result.andThen_ok, Sem.run_pure]
  rw [setCell_setRow hh]
theorem AtE.new (mk : Nat → Value) (o : Obj) (h : ∀ W, (execOp (rho e) (curO nt k e)).run P W = .ok (.value (mk W.heap.size)) { W with heap := W.heap.push o }) (hc : cur nt k e = some (curO nt k e))
  (hn : ∀ B, AtE P f nt (nextK k) (putE e (curDst nt k e) (mk B)) (L ++ [(B, o)]) S w0 R) : AtE P f nt k e L S w0 R := by
 refine AtE.op hc fun W hm => ⟨mk W.heap.size, _, h W, fun t hk => hn W.heap.size t _ ?_ (hm.alloc o)⟩
 simpa only [curDst, hc] using hk
def asIndexAddr (P : Program) (nt : Nat) (k : List Item) (e : Env) : Option (Option TypeDesc × Value × Value) :=
 match cur nt k e with
 | some o => match o.op with
  | .indexAddr T x i => some (P.underlying T, rho e x, rho e i)
  | _ => none
 | none => none
theorem asIndexAddr_spec {d : Option TypeDesc} {a i : Value} (h : asIndexAddr P nt k e = some (d, a, i)) : ∃ o T x y, cur nt k e = some o ∧ o.op = .indexAddr T x y ∧ P.underlying T = d ∧ rho e x = a ∧ rho e y = i := by
 unfold asIndexAddr at h
 split at h
 ·next o hc =>
  split at h
  ·next T x y ho => simp only [Option.some.injEq, Prod.mk.injEq] at h; obtain ⟨hd, hx, hy⟩ := h; exact ⟨o, T, x, y, hc, ho, hd, hx, hy⟩
  ·cases h
 ·cases h
theorem OpV.indexAddrL {E : TypeId} {b o len cap sz o' : Nat} {kd : IntKind} {i : Int} (h : (asIndexAddr P nt k e, (P.info? E).map (·.size)) = (some (some (.slice E), .slice (some ⟨b, o, none⟩) len cap, .int kd i), some sz))
  (hb : 0 ≤ i ∧ i < len) (ho : o' = o + i.toNat * sz) : OpV P nt k e L S w0 (.pointer (some ⟨b, o', none⟩)) := by
 simp only [Prod.mk.injEq] at h
 obtain ⟨h1, h2⟩ := h
 obtain ⟨op, T, x, y, hc, hop, hd, hx, hy⟩ := asIndexAddr_spec h1
 cases hq : P.info? E with
 | none => rw [hq] at h2; cases h2
 | some ii =>
  rw [hq] at h2; simp at h2
  refine ⟨_, hc, fun W hm => ?_⟩
  simp only [execOp, hop, hx, hy]
  refine run_lift ?_
  simp only [Instr.indexAt, asIntOf, Sem.run_bind, Sem.run_pure, Result.andThen_ok, run_underlying hd, hb, and_self, if_true, sizeOf, typeInfo, run_program, hq, addr_add, h2, ← ho]
theorem AtE.indexAddrL {E : TypeId} {b o len cap sz o' : Nat} {kd : IntKind} {i : Int} (h : (asIndexAddr P nt k e, (P.info? E).map (·.size)) = (some (some (.slice E), .slice (some ⟨b, o, none⟩) len cap, .int kd i), some sz))
  (hb : 0 ≤ i ∧ i < len) (ho : o' = o + i.toNat * sz) (hn : AtE P f nt (nextK k) (putE e (curDst nt k e) (.pointer (some ⟨b, o', none⟩))) L S w0 R) : AtE P f nt k e L S w0 R := (OpV.indexAddrL h hb ho).E hn
theorem AtE.indexAddrA {E : TypeId} {n b o sz o' : Nat} {kd : IntKind} {i : Int} (h : (asIndexAddr P nt k e, (P.info? E).map (·.size)) = (some (some (.array n E), .pointer (some ⟨b, o, none⟩), .int kd i), some sz))
  (hb : 0 ≤ i ∧ i < n) (ho : o' = o + i.toNat * sz) (hn : AtE P f nt (nextK k) (putE e (curDst nt k e) (.pointer (some ⟨b, o', none⟩))) L S w0 R) : AtE P f nt k e L S w0 R := by
 simp only [Prod.mk.injEq] at h
 obtain ⟨h1, h2⟩ := h
 obtain ⟨op, T, x, y, hc, hop, hd, hx, hy⟩ := asIndexAddr_spec h1
 cases hq : P.info? E with
 | none => rw [hq] at h2; cases h2
 | some ii =>
  rw [hq] at h2; simp at h2
  refine AtE.opV hc (fun W hm => ?_) hn
  simp only [execOp, hop, hx, hy]
  refine run_lift ?_
  simp only [Instr.indexAt, asIntOf, Instr.sureAddr, Sem.run_bind, Sem.run_pure, Result.andThen_ok, run_underlying hd, hb, and_self, if_true, sizeOf, typeInfo, run_program, hq, addr_add, h2, ← ho]
theorem AtE.sliceL {E : TypeId} {b o len cap sz o' l' c' : Nat} {lo hi : Option Value} {x y : Int} (h : (asSlice P nt k e, (P.info? E).map (·.size)) = (some (some (.slice E), .slice (some ⟨b, o, none⟩) len cap, lo, hi, none), some sz))
  (hlo : (∃ kd, lo = some (.int kd x)) ∨ (lo = none ∧ x = 0)) (hhi : (∃ kd, hi = some (.int kd y)) ∨ (hi = none ∧ y = len ∧ len ≤ cap)) (hb : 0 ≤ x ∧ x ≤ y ∧ y ≤ cap)
  (ho : o' = if x.toNat = cap then o else o + x.toNat * sz) (hl : l' = y.toNat - x.toNat) (hcap : c' = cap - x.toNat)
  (hn : AtE P f nt (nextK k) (putE e (curDst nt k e) (.slice (some ⟨b, o', none⟩) l' c')) L S w0 R) : AtE P f nt k e L S w0 R := by
 simp only [Prod.mk.injEq] at h
 obtain ⟨h1, h2⟩ := h
 unfold asSlice at h1
 split at h1
 ·next op hc =>
  split at h1
  ·next T x' l2 h2' m2 hop =>
   simp only [Option.some.injEq, Prod.mk.injEq] at h1
   obtain ⟨hT, hx, hl2, hh2, hm2⟩ := h1
   cases hq : P.info? E with
   | none => rw [hq] at h2; cases h2
   | some ii =>
    rw [hq] at h2; simp at h2
    refine AtE.opV hc (fun W hm => ?_) hn
    simp only [execOp, hop, hx, hl2, hh2, hm2]
    refine run_lift ?_
    have key : (Instr.sliceBounds true len cap lo hi none).run P W = .ok (x.toNat, y.toNat, cap) W := by
     have hy : (y.toNat : Int) = y := Int.toNat_of_nonneg (by omega)
     have b1 : ∀ kd code, (Instr.sliceBound (.int kd y) cap code).run P W = .ok y.toNat W := fun kd code => run_sliceBound W kd y cap code (by omega) hb.2.2
     have b2 : ∀ kd code, (Instr.sliceBound (.int kd x) y.toNat code).run P W = .ok x.toNat W := fun kd code => run_sliceBound W kd x y.toNat code hb.1 (by omega)
     rcases hlo with ⟨kd, rfl⟩ | ⟨rfl, rfl⟩ <;> rcases hhi with ⟨kd', rfl⟩ | ⟨rfl, rfl, _⟩
     ·simp only [Instr.sliceBounds, Sem.run_bind, Sem.run_pure, Result.andThen_ok, b1, b2]
     ·simp only [Instr.sliceBounds, Sem.run_bind, Sem.run_pure, Result.andThen_ok]
      have := b2 kd .sliceB
      simp only [Int.toNat_natCast] at this
      simp [this]
     ·simp only [Instr.sliceBounds, Sem.run_bind, Sem.run_pure, Result.andThen_ok, b1]; rfl
     ·simp only [Instr.sliceBounds, Sem.run_bind, Sem.run_pure, Result.andThen_ok]; simp
    simp only [Instr.sliceAt, Sem.run_bind, run_underlying hT, Result.andThen_ok, Instr.slice, key, sizeOf, typeInfo, run_program, hq, Sem.run_pure]
    simp only [Option.map_some, addr_add, h2]
    rw [ho, hl, hcap]
    congr 1
    by_cases hcx : cap = x.toNat
    ·simp [hcx]
    ·have : ¬ x.toNat = cap := fun h => hcx h.symm
     simp [hcx, this]
  ·cases h1
 ·cases h1
end
section
variable {P : Program} {f nt : Nat} {k : List Item} {e : Env} {L : SHeap} {S : List Nat} {w0 : World} {R : Goal P}
def bytesL (l : List UInt8) : List Value := l.map fun b => Value.int .u8 (b.toNat : Int)
def asConv (P : Program) (nt : Nat) (k : List Item) (e : Env) : Option (Option TypeDesc × Option TypeDesc × Value) :=
 match cur nt k e with
 | some o => match o.op with
  | .convert s d x => some (P.underlying s, P.underlying d, rho e x)
  | _ => none
 | none => none
theorem asConv_spec {a b : Option TypeDesc} {v : Value} (h : asConv P nt k e = some (a, b, v)) : ∃ o s d x, cur nt k e = some o ∧ o.op = .convert s d x ∧ P.underlying s = a ∧ P.underlying d = b ∧ rho e x = v := by
 unfold asConv at h
 split at h
 ·next o hc =>
  split at h
  ·next s d x ho => simp only [Option.some.injEq, Prod.mk.injEq] at h; obtain ⟨h1, h2, h3⟩ := h; exact ⟨o, s, d, x, hc, ho, h1, h2, h3⟩
  ·cases h
 ·cases h
theorem foldl_push (l : List UInt8) : ∀ (r : ByteArray), (l.map fun b => (b.toNat : Int)).foldl (fun r n => r.push (UInt8.ofNat n.toNat)) r = ⟨(r.data.toList ++ l).toArray⟩ := by
 induction l with
 | nil => intro r; simp
 | cons b l ih =>
  intro r
  simp only [List.map_cons, List.foldl_cons]
  rw [ih]
  congr 1
  have : UInt8.ofNat (Int.toNat (b.toNat : Int)) = b := by simp
  rw [this]
  simp
theorem AtE.toString (j : Nat) {E : TypeId} {o len cap : Nat} {c : List Value} {l : List UInt8}
  (h : (asConv P nt k e, P.underlying E, isCellsL L j, cellsL L j) = (some (some (.slice E), some .string, .slice (some ⟨blkL L j, o, none⟩) len cap), some (.int .u8), true, c))
  (hl : (c.drop o).take len = bytesL l ∧ l.length = len)
  (hn : AtE P f nt (nextK k) (putE e (curDst nt k e) (.string ⟨l.toArray⟩)) L S w0 R) : AtE P f nt k e L S w0 R := by
 simp only [Prod.mk.injEq] at h
 obtain ⟨h1, h2, h3, h4⟩ := h
 obtain ⟨op, ts, td, x, hc, ho, hs, hd, hx⟩ := asConv_spec h1
 refine AtE.opV hc (fun W hm => ?_) hn
 have hh := hm.heapAt h3
 rw [h4] at hh
 simp only [execOp, ho, hx]
 refine run_lift ?_
 simp only [convert, Sem.run_bind, run_underlying hs, run_underlying hd, Result.andThen_ok, run_underlying h2]
 have hld : (loadCells ⟨blkL L j, o, none⟩ len).run P W = .ok ((l.map fun b => (b.toNat : Int)).map (Value.int .u8)).toArray W := by
  have := run_loadCells_list (P := P) (w := W) ⟨blkL L j, o, none⟩ (bytesL l) (fun i u hi => ?_)
  ·have e1 : (bytesL l).length = len := by simp [bytesL, hl.2]
   rw [e1] at this
   rw [this]; simp [bytesL, Function.comp_def]
  ·rw [addr_add, cell_of_heap hh]
   rw [← hl.1, List.getElem?_take] at hi
   split at hi
   ·rw [List.getElem?_drop] at hi; exact hi
   ·cases hi
 rw [run_bytesToString W _ _ _ _ hld, foldl_push]
 rfl
def asMake (P : Program) (nt : Nat) (k : List Item) (e : Env) : Option (Option TypeDesc × Value × Value) :=
 match cur nt k e with
 | some o => match o.op with
  | .makeSlice T l c => some (P.underlying T, rho e l, rho e c)
  | _ => none
 | none => none
def infoZ (P : Program) (E : TypeId) : Option (Option Value × Nat × Nat) := (P.info? E).map fun i => (i.zero, i.size, i.bytes)
theorem madeCells_one (z : Value) (n : Nat) : madeCells #[z] n = ⟨List.replicate n z⟩ := by
 apply Array.toList_inj.1
 simp [madeCells]
 apply List.ext_getElem?
 intro i
 simp only [List.getElem?_map, List.getElem?_replicate]
 by_cases h : i < n
 ·simp [h, Nat.mod_one]
 ·simp [h]
theorem AtE.make {E : TypeId} {kl kc : IntKind} {n m : Int} {z : Value} {bytes : Nat}
  (h : (asMake P nt k e, infoZ P E, z.cells) = (some (some (.slice E), .int kl n, .int kc m), some (some z, 1, bytes), #[z]))
  (hb : 0 ≤ n ∧ n ≤ m ∧ (bytes : Int) * m ≤ 281474976710656 ∧ m ≤ 9223372036854775807)
  (hn : ∀ B, AtE P f nt (nextK k) (putE e (curDst nt k e) (.slice (some ⟨B, 0, none⟩) n.toNat m.toNat)) (L ++ [(B, .cells ⟨List.replicate m.toNat z⟩ E)]) S w0 R) : AtE P f nt k e L S w0 R := by
 simp only [Prod.mk.injEq] at h
 obtain ⟨h1, h2, h3⟩ := h
 unfold asMake at h1
 split at h1
 ·next o hc =>
  split at h1
  ·next T l c ho =>
   simp only [Option.some.injEq, Prod.mk.injEq] at h1
   obtain ⟨hT, hl, hcc⟩ := h1
   unfold infoZ at h2
   cases hq : P.info? E with
   | none => rw [hq] at h2; cases h2
   | some i =>
    rw [hq] at h2
    simp only [Option.map_some, Option.some.injEq, Prod.mk.injEq] at h2
    obtain ⟨hz, hsz, hby⟩ := h2
    refine AtE.op hc fun W hm => ⟨.slice (some ⟨W.heap.size, 0, none⟩) n.toNat m.toNat, _, ?_, fun t hk => hn W.heap.size t _ (by simpa only [curDst, hc] using hk) (hm.alloc (.cells ⟨List.replicate m.toNat z⟩ E))⟩
    simp only [execOp, ho, hl, hcc]
    refine run_lift ?_
    rw [run_make W T E i z hT hq hz kl kc n m hb.1 hb.2.1 (by rw [hby]; exact hb.2.2.1) hb.2.2.2]
    rw [h3, hsz, Nat.mul_one, madeCells_one]; rfl
  ·cases h1
 ·cases h1
def asBuiltin (nt : Nat) (k : List Item) (e : Env) : Option (Builtin × List Value × List TypeId) :=
 match cur nt k e with
 | some o => match o.op with
  | .call c => match c.callee with
   | .builtin b => some (b, c.args.toList.map (rho e), c.argTypes.toList)
   | _ => none
  | _ => none
 | none => none
theorem asBuiltin_spec {b : Builtin} {as : List Value} {ts : List TypeId} (h : asBuiltin nt k e = some (b, as, ts)) :
  ∃ o c, cur nt k e = some o ∧ o.op = .call c ∧ c.callee = .builtin b ∧ c.args.map (rho e) = ⟨as⟩ ∧ c.argTypes = ⟨ts⟩ := by
 unfold asBuiltin at h
 split at h
 ·next o hc =>
  split at h
  ·next c ho =>
   split at h
   ·next b' hb =>
    simp only [Option.some.injEq, Prod.mk.injEq] at h
    obtain ⟨rfl, h1, h2⟩ := h
    refine ⟨o, c, hc, ho, hb, ?_, ?_⟩
    ·apply Array.toList_inj.1; simpa using h1
    ·apply Array.toList_inj.1; simpa using h2
   ·cases h
  ·cases h
 ·cases h
theorem run_builtin {o : Oper} {c : Call} {b : Builtin} {as : List Value} {ts : List TypeId} (ho : o.op = .call c) (hb : c.callee = .builtin b) (ha : c.args.map (rho e) = ⟨as⟩) (ht : c.argTypes = ⟨ts⟩)
  (h : b ≠ .print ∧ b ≠ .println) (W : World) : (execOp (rho e) o).run P W = (Go.builtin b ⟨ts⟩ o.type #[] ⟨as⟩).run P W := by
 simp only [execOp, ho, resolve, hb, ha, ht, Sem.run_bind, Sem.run_pure, Result.andThen_ok, invoke]
 cases b <;> simp_all [Go.builtin]
theorem Mem.drop {W : World} (hm : Mem L S w0 W) (j : Nat) : Mem (L.eraseIdx j) S w0 W :=
 ⟨(List.Sublist.map _ (List.eraseIdx_sublist L j)).nodup hm.nodup, fun p hp => hm.here p (List.mem_of_mem_eraseIdx hp), fun p hp => hm.own p (List.mem_of_mem_eraseIdx hp), hm.kept⟩
theorem Mem.perm {L' : SHeap} {W : World} (hm : Mem L S w0 W) (hp : L'.Perm L) : Mem L' S w0 W :=
 ⟨(hp.map _).nodup_iff.2 hm.nodup, fun p h => hm.here p (hp.mem_iff.1 h), fun p h => hm.own p (hp.mem_iff.1 h), hm.kept⟩
theorem Mem.drew {W : World} (hm : Mem L S w0 W) : Mem L S w0 W.drew :=
 ⟨hm.nodup, hm.here, hm.own, ⟨hm.kept.os, hm.kept.tape, hm.kept.output, hm.kept.size, hm.kept.block⟩⟩
def Src (L : SHeap) (S : List Nat) (w0 : World) (a : Addr) (news : List Value) : Prop := ∀ W, Mem L S w0 W → ∀ j u, news[j]? = some u → W.cell? (a.add j) = some u
theorem Src.own {j o n : Nat} {c : List Value} (h : (isCellsL L j, cellsL L j) = (true, c)) : Src L S w0 ⟨blkL L j, o, none⟩ ((c.drop o).take n) := by
 simp only [Prod.mk.injEq] at h
 obtain ⟨h1, h2⟩ := h
 intro W hm i u hi
 have hh := hm.heapAt h1
 rw [h2] at hh
 rw [addr_add, cell_of_heap hh]
 rw [List.getElem?_take] at hi
 split at hi
 ·rw [List.getElem?_drop] at hi; exact hi
 ·cases hi
theorem Src.nil (a : Addr) : Src L S w0 a [] := fun _ _ j u h => by simp at h
theorem zeroCells_len (z : Array Value) (n : Nat) : (Builtin.zeroCells z n).toList.length = n * z.size := by simp [Builtin.zeroCells]
theorem app_nil (T E : TypeId) (z : Value) (sz bytes : Nat) (hT : P.underlying T = some (.slice E)) (hinfo : infoZ P E = some (some z, sz, bytes)) (hzs : z.cells.size = sz)
  (a : Addr) (m c : Nat) (news : List Value) (hl : news.length = m * sz) (hs : Src L S w0 a news) (h0 : 0 < m) (h63 : m ≤ 9223372036854775807) (hb : m * bytes ≤ 140737488355328) (ty : TypeId) (W : World) (hm : Mem L S w0 W) :
  ∃ B cap r W', (Builtin.append_ #[T, T] ty #[.slice none 0 0, .slice (some a) m c]).run P W = .ok (.slice (some ⟨B, 0, none⟩) m cap) W' ∧ m ≤ cap ∧ (news ++ r).length = cap * sz ∧
   Mem (L ++ [(B, .cells ⟨news ++ r⟩ E)]) S w0 W' := by
 unfold infoZ at hinfo
 cases hq : P.info? E with
 | none => rw [hq] at hinfo; cases hinfo
 | some i =>
  rw [hq] at hinfo
  simp only [Option.map_some, Option.some.injEq, Prod.mk.injEq] at hinfo
  obtain ⟨hz, hsz, hby⟩ := hinfo
  have hr := run_append_nil (P := P) W T ty E i z hT hq hz a m c news (by rw [hsz]; exact hl) (hs W hm) h0 (by omega) (by rw [hby]; omega)
  refine ⟨W.heap.size, grownCap W m 0 E, (Builtin.zeroCells z.cells (grownCap W m 0 E - m)).toList, _, hr, grownCap_ge W m 0 E, ?_, ?_⟩
  ·rw [List.length_append, zeroCells_len, hl, hzs, ← Nat.add_mul]
   congr 1
   have := grownCap_ge W m 0 E
   omega
  ·have := hm.drew.alloc (.cells ⟨news ++ (Builtin.zeroCells z.cells (grownCap W m 0 E - m)).toList⟩ E)
   have he : (news.toArray ++ Builtin.zeroCells z.cells (grownCap W m 0 E - m)) = ⟨news ++ (Builtin.zeroCells z.cells (grownCap W m 0 E - m)).toList⟩ := by
    apply Array.toList_inj.1; simp
   rw [he]; exact this
theorem app_own (j : Nat) (T E : TypeId) (z : Value) (sz bytes : Nat) (hT : P.underlying T = some (.slice E)) (hinfo : infoZ P E = some (some z, sz, bytes)) (hzs : z.cells.size = sz)
  (n cap : Nat) (cs : List Value) (hj : isCellsL L j = true) (hcs : cellsL L j = cs) (hel : elemL L j = E) (hfz : fzL L j = (0, 0)) (hn : n ≤ cap) (hlen : cs.length = cap * sz)
  (a : Addr) (m c : Nat) (news : List Value) (hl : news.length = m * sz) (hs : Src L S w0 a news) (h1 : ∀ u ∈ news, u.oneCell' = true) (h63 : n + m ≤ 9223372036854775807) (hb : (n + m) * bytes ≤ 140737488355328)
  (ty : TypeId) (W : World) (hm : Mem L S w0 W) :
  ∃ B cap' r W', (Builtin.append_ #[T, T] ty #[.slice (some ⟨blkL L j, 0, none⟩) n cap, .slice (some a) m c]).run P W = .ok (.slice (some ⟨B, 0, none⟩) (n + m) cap') W' ∧ n + m ≤ cap' ∧
   (cs.take (n * sz) ++ news ++ r).length = cap' * sz ∧ Mem (L.eraseIdx j ++ [(B, .cells ⟨cs.take (n * sz) ++ news ++ r⟩ E)]) S w0 W' := by
 have hh := hm.heapAt hj
 rw [hcs, hel, hfz] at hh
 have hjl : L[j]? = some (blkL L j, .cells ⟨cs⟩ E (0, 0)) := by rw [isCellsL_spec hj, hcs, hel, hfz]
 have hjlt : j < L.length := (List.getElem?_eq_some_iff.1 hjl).1
 have hnle : n * sz ≤ cs.length := by rw [hlen]; exact Nat.mul_le_mul_right _ hn
 unfold infoZ at hinfo
 cases hq : P.info? E with
 | none => rw [hq] at hinfo; cases hinfo
 | some i =>
  rw [hq] at hinfo
  simp only [Option.map_some, Option.some.injEq, Prod.mk.injEq] at hinfo
  obtain ⟨hz, hsz, hby⟩ := hinfo
  by_cases hroom : n + m ≤ cap
  ·have hr := run_append_room (P := P) W T ty E i hT hq (blkL L j) n cap ⟨cs⟩ hh a m c news (by rw [hsz]; exact hl) (hs W hm) h1 hroom (by
    rw [hsz, hl]; simp only [List.size_toArray, hlen]; rw [← Nat.add_mul]; exact Nat.mul_le_mul_right _ hroom)
   rw [hsz] at hr
   refine ⟨blkL L j, cap, cs.drop (n * sz + news.length), _, hr, hroom, ?_, ?_⟩
   ·simp only [List.length_append, List.length_take, List.length_drop, hl, hlen]
    have : (n + m) * sz ≤ cap * sz := Nat.mul_le_mul_right _ hroom
    rw [Nat.add_mul] at this
    have hmin : min (n * sz) (cap * sz) = n * sz := Nat.min_eq_left (by omega)
    omega
   ·have h2 := hm.setRow hj (cs.take (n * sz) ++ news ++ cs.drop (n * sz + news.length))
    have he : (cs.toArray.toList.take (n * sz) ++ news ++ cs.toArray.toList.drop (n * sz + news.length)).toArray = ⟨cs.take (n * sz) ++ news ++ cs.drop (n * sz + news.length)⟩ := rfl
    rw [he]
    refine h2.perm ?_
    unfold setL
    rw [hel, hfz]

    have key : ∀ (l : SHeap) (i : Nat) (x : Nat × Obj), i < l.length → (l.eraseIdx i ++ [x]).Perm (l.set i x) := by
     intro l
     induction l with
     | nil => intro i x h; simp at h
     | cons y l ih =>
      intro i x h
      cases i with
      | zero =>
       simp only [List.eraseIdx_cons_zero, List.set_cons_zero]
       exact (List.perm_append_comm (l₁ := l) (l₂ := [x]))
      | succ i =>
       simp only [List.eraseIdx_cons_succ, List.set_cons_succ, List.cons_append]
       exact (ih i x (by simpa using h)).cons y
    exact key L j _ hjlt
  ·have holds : ∀ q u, (cs.take (n * sz))[q]? = some u → W.cell? ((⟨blkL L j, 0, none⟩ : Addr).add q) = some u := by
    intro q u hu
    rw [addr_add, cell_of_heap hh, Nat.zero_add]
    rw [List.getElem?_take] at hu
    split at hu
    ·exact hu
    ·cases hu
   have hlt : (cs.take (n * sz)).length = n * i.size := by rw [List.length_take, hsz]; exact Nat.min_eq_left hnle
   have hr := run_append_grow (P := P) W T ty E i z hT hq hz ⟨blkL L j, 0, none⟩ n cap (cs.take (n * sz)) hlt holds a m c news (by rw [hsz]; exact hl) (hs W hm) (by omega) (by omega) (growslice_fits (by omega) (by rw [hby]; exact hb))
   refine ⟨W.heap.size, grownCap W (n + m) cap E, (Builtin.zeroCells z.cells (grownCap W (n + m) cap E - (n + m))).toList, _, hr, grownCap_ge W (n + m) cap E, ?_, ?_⟩
   ·rw [List.length_append, List.length_append, zeroCells_len, hl, hzs, hlt, hsz, ← Nat.add_mul, ← Nat.add_mul]
    congr 1
    have := grownCap_ge W (n + m) cap E
    omega
   ·have := (hm.drop j).drew.alloc (.cells ⟨cs.take (n * sz) ++ news ++ (Builtin.zeroCells z.cells (grownCap W (n + m) cap E - (n + m))).toList⟩ E)
    have he : ((cs.take (n * sz)).toArray ++ news.toArray ++ Builtin.zeroCells z.cells (grownCap W (n + m) cap E - (n + m))) = ⟨cs.take (n * sz) ++ news ++ (Builtin.zeroCells z.cells (grownCap W (n + m) cap E - (n + m))).toList⟩ := by
     apply Array.toList_inj.1; simp
    rw [he]; exact this
theorem AtE.opB {o : Oper} {c : Call} {b : Builtin} {as : List Value} {ts : List TypeId} (hc : cur nt k e = some o) (ho : o.op = .call c) (hb : c.callee = .builtin b) (ha : c.args.map (rho e) = ⟨as⟩) (ht : c.argTypes = ⟨ts⟩) (hp : b ≠ .print ∧ b ≠ .println)
  (h : ∀ W, Mem L S w0 W → ∃ v W', (Go.builtin b ⟨ts⟩ o.type #[] ⟨as⟩).run P W = .ok (.value v) W' ∧ ∀ t, Knows nt (putE e (curDst nt k e) v) t → At P f (nextK k) t W' R) : AtE P f nt k e L S w0 R := by
 refine AtE.op hc fun W hm => ?_
 obtain ⟨v, W', h1, h2⟩ := h W hm
 refine ⟨v, W', ?_, fun t hk => h2 t (by simpa only [curDst, hc] using hk)⟩
 rw [run_builtin ho hb ha ht hp W]; exact h1
theorem AtE.appendN {T E : TypeId} {z : Value} {sz bytes : Nat} {a : Addr} {m c : Nat} (news : List Value)
  (h : (asBuiltin nt k e, P.underlying T, infoZ P E, z.cells.size) = (some (.append, [.slice none 0 0, .slice (some a) m c], [T, T]), some (.slice E), some (some z, sz, bytes), sz))
  (hs : Src L S w0 a news) (hl : news.length = m * sz) (h0 : 0 < m) (hb : m ≤ 9223372036854775807 ∧ m * bytes ≤ 140737488355328)
  (hn : ∀ B cap r, m ≤ cap → (news ++ r).length = cap * sz → AtE P f nt (nextK k) (putE e (curDst nt k e) (.slice (some ⟨B, 0, none⟩) m cap)) (L ++ [(B, .cells ⟨news ++ r⟩ E)]) S w0 R) : AtE P f nt k e L S w0 R := by
 simp only [Prod.mk.injEq] at h
 obtain ⟨h1, h2, h3, h4⟩ := h
 obtain ⟨o, cl, hc, ho, hcb, ha, ht⟩ := asBuiltin_spec h1
 refine AtE.opB hc ho hcb ha ht (by simp) fun W hm => ?_
 obtain ⟨B, cap, r, W', hr, hcap, hlen, hm'⟩ := app_nil T E z sz bytes h2 h3 h4 a m c news hl hs h0 hb.1 hb.2 o.type W hm
 exact ⟨_, W', run_lift hr, fun t hk => hn B cap r hcap hlen t W' hk hm'⟩
theorem AtE.appendO (j : Nat) {T E : TypeId} {z : Value} {sz bytes n cap : Nat} {a : Addr} {m c : Nat} {cs : List Value} (news : List Value)
  (h : (asBuiltin nt k e, P.underlying T, infoZ P E, z.cells.size, isCellsL L j, cellsL L j, elemL L j, fzL L j) =
   (some (.append, [.slice (some ⟨blkL L j, 0, none⟩) n cap, .slice (some a) m c], [T, T]), some (.slice E), some (some z, sz, bytes), sz, true, cs, E, (0, 0)))
  (hs : Src L S w0 a news) (hl : news.length = m * sz) (h1 : ∀ u ∈ news, u.oneCell' = true) (hlen : n ≤ cap ∧ cs.length = cap * sz) (hb : n + m ≤ 9223372036854775807 ∧ (n + m) * bytes ≤ 140737488355328)
  (hn : ∀ B cap' r, n + m ≤ cap' → (cs.take (n * sz) ++ news ++ r).length = cap' * sz → AtE P f nt (nextK k) (putE e (curDst nt k e) (.slice (some ⟨B, 0, none⟩) (n + m) cap')) (L.eraseIdx j ++ [(B, .cells ⟨cs.take (n * sz) ++ news ++ r⟩ E)]) S w0 R) :
  AtE P f nt k e L S w0 R := by
 simp only [Prod.mk.injEq] at h
 obtain ⟨h1', h2, h3, h4, h5, h6, h7, h8⟩ := h
 obtain ⟨o, cl, hc, ho, hcb, ha, ht⟩ := asBuiltin_spec h1'
 refine AtE.opB hc ho hcb ha ht (by simp) fun W hm => ?_
 obtain ⟨B, cap', r, W', hr, hcap, hlen', hm'⟩ := app_own j T E z sz bytes h2 h3 h4 n cap cs h5 h6 h7 h8 hlen.1 hlen.2 a m c news hl hs h1 hb.1 hb.2 o.type W hm
 exact ⟨_, W', run_lift hr, fun t hk => hn B cap' r hcap hlen' t W' hk hm'⟩
def over (c : List Value) (o : Nat) (cs : List Value) : List Value := c.take o ++ cs ++ c.drop (o + cs.length)
theorem over_length {c : List Value} {o : Nat} {cs : List Value} (h : o + cs.length ≤ c.length) : (over c o cs).length = c.length := by simp [over]; omega
theorem bytesL_one (l : List UInt8) : ∀ u ∈ bytesL l, u.oneCell' = true := by
 intro u hu
 obtain ⟨b, _, rfl⟩ := List.mem_map.1 hu
 rfl
theorem AtE.copyS (j : Nat) {T E U : TypeId} {o dl dc : Nat} {s : ByteArray} {c : List Value}
  (h : (asBuiltin nt k e, P.underlying T, (P.info? E).map (·.size), P.underlying E, isCellsL L j, cellsL L j, fzL L j) =
   (some (.copy, [.slice (some ⟨blkL L j, o, none⟩) dl dc, .string s], [T, U]), some (.slice E), some 1, some (.int .u8), true, c, (0, 0)))
  (hfit : o + dl ≤ c.length)
  (hn : AtE P f nt (nextK k) (putE e (curDst nt k e) (.int .i64 ((min s.size dl : Nat) : Int))) (setL L j (over c o (bytesL (s.data.toList.take dl)))) S w0 R) : AtE P f nt k e L S w0 R := by
 simp only [Prod.mk.injEq] at h
 obtain ⟨h1, h2, h3, h4, h5, h6, h7⟩ := h
 obtain ⟨op, cl, hc, ho, hcb, ha, ht⟩ := asBuiltin_spec h1
 refine AtE.opB hc ho hcb ha ht (by simp) fun W hm => ?_
 have hh := hm.heapAt h5
 rw [h6, h7] at hh
 refine ⟨_, W.setRow (blkL L j) ⟨over c o (bytesL (s.data.toList.take dl))⟩, run_lift (v := .int .i64 ((min s.size dl : Nat) : Int)) ?_, fun t hk => hn t _ hk (hm.setRow h5 _)⟩
 have hsl : s.data.toList.length = s.size := by simp
 have hlen : (bytesL (s.data.toList.take dl)).length ≤ dl := by simp only [bytesL, List.length_map, List.length_take]; omega
 have hst := run_storeCells_at P (blkL L j) o (elemL L j) (bytesL (s.data.toList.take dl)) 0 ⟨c⟩ W hh (by simp only [Nat.add_zero, List.size_toArray]; omega) (bytesL_one _)
 cases hq : P.info? E with
 | none => rw [hq] at h3; cases h3
 | some i =>
  rw [hq] at h3; simp at h3
  have hcells : List.take (min s.size dl) (List.map (fun b => Value.int .u8 (b.toNat : Int)) s.data.toList) = bytesL (s.data.toList.take dl) := by
   simp only [bytesL, List.map_take]
   rcases Nat.le_total s.size dl with hle | hle
   ·rw [Nat.min_eq_left hle, List.take_of_length_le (by simp), List.take_of_length_le (by simp; omega)]
   ·rw [Nat.min_eq_right hle]
  have hmin : ∀ x y : Nat, Nat.min x y = min x y := fun _ _ => rfl
  show (Builtin.copy_ #[T, U] op.type #[.slice (some ⟨blkL L j, o, none⟩) dl dc, .string s]).run P W = _
  simp [Builtin.copy_, run_underlying h2, Builtin.lenOf, sizeOf, typeInfo, hq, Builtin.firstCells, hmin]
  rw [hcells, hst]
  simp [over, goInt, Result.andThen]
theorem AtE.copyO (j : Nat) {T E : TypeId} {o dl dc n m : Nat} {a : Addr} {c : List Value} (cs : List Value)
  (h : (asBuiltin nt k e, P.underlying T, (P.info? E).map (·.size), isCellsL L j, cellsL L j, fzL L j) =
   (some (.copy, [.slice (some ⟨blkL L j, o, none⟩) dl dc, .slice (some a) n m], [T, T]), some (.slice E), some 1, true, c, (0, 0)))
  (hs : Src L S w0 a cs) (hl : cs.length = min n dl) (h1 : ∀ u ∈ cs, u.oneCell' = true) (hfit : o + cs.length ≤ c.length)
  (hn : AtE P f nt (nextK k) (putE e (curDst nt k e) (.int .i64 (cs.length : Int))) (setL L j (over c o cs)) S w0 R) : AtE P f nt k e L S w0 R := by
 simp only [Prod.mk.injEq] at h
 obtain ⟨h1', h2, h3, h5, h6, h7⟩ := h
 obtain ⟨op, cl, hc, ho, hcb, ha, ht⟩ := asBuiltin_spec h1'
 refine AtE.opB hc ho hcb ha ht (by simp) fun W hm => ?_
 have hh := hm.heapAt h5
 rw [h6, h7] at hh
 refine ⟨_, W.setRow (blkL L j) ⟨over c o cs⟩, run_lift (v := .int .i64 (cs.length : Int)) ?_, fun t hk => hn t _ hk (hm.setRow h5 _)⟩
 have := run_copy_row (P := P) W T T op.type E (blkL L j) o dl dc a n m ⟨c⟩ (elemL L j) cs h2 h3 hh (by rw [hl]) (hs W hm) (by simpa using hfit) h1
 rw [this]
 simp [goInt, over]
end
section
section
variable {P : Program} {f : FuncId} {ops : Array Oper} {R : Goal P} {C : World → Prop}
def wpAnyLQ (P : Program) (md : Region.Mode) (ops : Array Oper) (C : World → Prop) (n : Nat) (L : Array Bool → Act → Prop) : Nat → Array Bool → Act → Prop
 | 0, listed, a => L listed a
 | f + 1, listed, a =>
  Region.ready md ops listed ≠ [] ∧ ∀ i ∈ Region.ready md ops listed, i < n ∧ qOp P ops C i (wpAnyLQ P md ops C n L f (listed.setIfInBounds i true)) a
theorem wpAnyLQ_first {md : Region.Mode} {n i : Nat} {oi : Oper} {v : Value} {L : Array Bool → Act → Prop} (hi : ops[i]? = some oi) (hsel : ∀ (j : Nat) (o : Oper) cs b, ops[j]? = some o → o.op ≠ .select cs b)
  (hs : n < ops.size → Region.sinkB md ops n = true ∧ Region.chainB md ops n = true) (hin : i < n)
  (hdone : ∀ listed a, L listed a → ∀ j ∈ Region.ready md ops listed, n ≤ j) :
  ∀ (f : Nat) (listed : Array Bool) (a : Act), HeadInv md ops n listed →
   (∀ j oj, ops[j]? = some oj → j ≠ i → listed.getD j true = false → (∀ e ∈ oj.after, Region.binds md e = true → e.on ≠ i) → oi.apart ops oj = true) →
   i ∈ Region.ready md ops listed → YieldsIn P ops C oi v a →
   wpAnyLQ P md ops C n L f (listed.setIfInBounds i true) (a.put oi.dst v) → wpAnyLQ P md ops C n L (f + 1) listed a := by
 have hlt : ∀ listed, HeadInv md ops n listed → listed.getD i true = false → ∀ j ∈ Region.ready md ops listed, j < n := by
  intro listed inv hun j hj
  rcases Nat.lt_or_ge j n with h | h
  ·exact h
  ·obtain ⟨_, oj, hoj, _⟩ := mem_ready.1 hj
   have hjs : j < ops.size := (Array.getElem?_eq_some_iff.1 hoj).1
   have hn : n < ops.size := by omega
   exact absurd hj (tail_waits (hs hn).1 (hs hn).2 hn inv _ i rfl hin hun j h)
 intro f
 induction f with
 | zero =>
  intro listed a inv _ hr hy H
  have hun := (mem_ready.1 hr).1
  refine ⟨fun h => (by rw [h] at hr; cases hr), fun j hj => ?_⟩
  have hjn := hlt listed inv hun j hj
  refine ⟨hjn, ?_⟩
  by_cases hji : j = i
  ·subst hji; exact hy.qOp hi H
  ·have := hdone _ _ H j (ready_mono hj hji)
   omega
 | succ f ih =>
  intro listed a inv hfree hr hy H
  have hun := (mem_ready.1 hr).1
  refine ⟨fun h => (by rw [h] at hr; cases hr), fun j hj => ?_⟩
  have hjn := hlt listed inv hun j hj
  refine ⟨hjn, ?_⟩
  by_cases hji : j = i
  ·subst hji; exact hy.qOp hi H
  ·have h1 := (H.2 j (ready_mono hj hji)).2
   obtain ⟨hjun, oj, hoj, hall⟩ := mem_ready.1 hj
   have hnot : ∀ e ∈ oj.after, Region.binds md e = true → e.on ≠ i := fun e he hb heq => by
    have h1 := hall e he hb
    rw [heq, getD_both hun] at h1
    cases h1
   have h2 := qOp_put hoj (hfree j oj hoj hji hjun hnot) (fun cs b => hsel i oi cs b hi) (fun cs b => hsel j oj cs b hoj) hy h1
   have hfree' : ∀ k ok, ops[k]? = some ok → k ≠ i → (listed.setIfInBounds j true).getD k true = false →
     (∀ e ∈ ok.after, Region.binds md e = true → e.on ≠ i) → oi.apart ops ok = true := fun k ok hk hki hun hno => by
    refine hfree k ok hk hki ?_ hno
    by_cases hjk : j = k
    ·subst hjk; exact hjun
    ·rw [getD_set_ne true hjk] at hun; exact hun
   refine qOp_mono (fun a' h3 => ih (listed.setIfInBounds j true) a' (inv.set hj hjn) hfree' (ready_mono hr (Ne.symm hji)) h3.1 ?_) h2
   rw [Array.setIfInBounds_comm _ _ hji]
   exact h3.2
theorem wpAnyLQ_lex {md : Region.Mode} {n g : Nat} {Lq : Act → Prop} (hsel : Region.noSelect ops = true) (hs : n < ops.size → Region.sinkB md ops n = true ∧ Region.chainB md ops n = true) :
  ∀ (l : List Oper) (k : Nat) (listed : Array Bool) (a : Act), (∀ j, j < l.length → l[j]? = ops[k + j]?) → k + l.length = n → HeadInv md ops n listed →
  Region.lexHead md ops g l.length k listed = true → wpQuiet P ops C Lq l a →
  wpAnyLQ P md ops C n (fun listed' a' => Region.seqB md ops g n listed' = true ∧ Lq a') l.length listed a
 | [], k, listed, a, _, hk, _, hB, h => by
  have : k = n := by simpa using hk
  subst this
  exact ⟨by simpa [Region.lexHead] using hB, h⟩
 | o :: l, k, listed, a, hl, hk, inv, hB, h => by
  have h0 : ops[k]? = some o := by simpa using (hl 0 (by simp)).symm
  simp only [List.length_cons, Region.lexHead, Bool.and_eq_true] at hB
  obtain ⟨⟨hr, hf⟩, hB'⟩ := hB
  have hkn : k < n := by simp only [List.length_cons] at hk; omega
  have hr' : k ∈ Region.ready md ops listed := by simpa using hr
  have hst : qOp P ops C k (wpQuiet P ops C Lq l) a := by unfold qOp; simp only [h0]; exact h
  obtain ⟨v, hy, hK⟩ := yieldsIn_of_qOp h0 hst
  exact wpAnyLQ_first h0 (Region.noSelect_spec hsel) hs hkn (fun listed' a' hL => seqB_ready hL.1) l.length listed a inv (Region.free_spec h0 hf) hr' hy
   (wpAnyLQ_lex hsel hs l (k + 1) _ _ (fun j hj => by have := hl (j + 1) (by simp; omega); simpa [Nat.add_assoc, Nat.add_comm 1 j] using this) (by simp only [List.length_cons] at hk; omega) (inv.set hr' hkn) hB' hK)
theorem put_defers {a : Act} {d : Option Tmp} {v : Value} (h : a.defers = []) : (a.put d v).defers = [] := by cases d <;> exact h
theorem At.ofQ {i : Nat} {rest : List Nat} {k : List Item} {a : Act} {K : Act → Prop} (ha : a.defers = []) (hq : qOp P ops C i K a) {w : World} (hw : C w)
  (hK : ∀ a' w', a'.defers = [] → C w' → K a' → At P f (.inRegion ops rest :: k) a'.tmps w' R) : At P f (.inRegion ops (i :: rest) :: k) a.tmps w R := by
 obtain ⟨t, ds⟩ := a
 simp only at ha
 subst ha
 unfold qOp at hq
 split at hq
 ·next ho =>
  refine At.step (fun b cs _ => ?_) (hK _ w rfl hw hq)
  have hs := rstep_op_skip (P := P) (b := b) (a := ⟨t, R.ds⟩) (k := k) (cs := cs) (w := w) (ops := ops) (i := i) (rest := rest) (by simp [ho])
  simpa only [ho, Option.bind_none, Act.put] using hs
 ·next o ho =>
  split at hq
  ·next hwt =>
   obtain ⟨v, hv, hn⟩ := hq
   have h3 := hv w hw
   unfold Oper.quietAt at h3
   cases hr : (execOp (Act.mk t []).eval o).run P w with
   | halt x w' => rw [hr] at h3; exact h3.elim
   | ok nx w' =>
    rw [hr] at h3
    cases nx <;> simp only [Oper.quietUpon] at h3
    case value u =>
     obtain ⟨rfl, rfl⟩ := h3
     exact At.value ho hwt hr (hK _ _ (put_defers rfl) hw hn)
    case skip =>
     obtain ⟨rfl, rfl⟩ := h3
     exact At.skipv ho hwt hr (hK _ _ (put_defers rfl) hw hn)
    case enter g args =>
     obtain ⟨rfl, hc⟩ := h3
     refine At.enter ho hwt hr (hc.mono fun e w'' he => ?_)
     exact ⟨v, he.1, hK _ _ (put_defers rfl) he.2 hn⟩
  ·next hwt => exact At.unwanted ho (by simpa using hwt) (hK _ _ (put_defers rfl) hw hq)
theorem go_cons (md : Region.Mode) (fuel t : Nat) (listed : Array Bool) : Region.linearise.go md ops (fuel + 1) t listed [] =
  match (Region.ready md ops listed)[t % (Region.ready md ops listed).length]? with
  | some i => i :: Region.linearise.go md ops fuel (t / (Region.ready md ops listed).length) (listed.setIfInBounds i true) []
  | none => [] := by
 show (match (Region.ready md ops listed)[t % (Region.ready md ops listed).length]? with
   | some i => Region.linearise.go md ops fuel (t / (Region.ready md ops listed).length) (listed.setIfInBounds i true) [i]
   | none => [].reverse) = _
 split
 ·rw [linearise_go_acc]; rfl
 ·rfl
theorem go_seq {md : Region.Mode} : ∀ (g n t : Nat) (listed : Array Bool), Region.seqB md ops g n listed = true → Region.linearise.go md ops g t listed [] = List.range' n g
 | 0, _, _, _, _ => by simp [Region.linearise.go]
 | g + 1, n, t, listed, h => by
  simp only [Region.seqB, Bool.and_eq_true, decide_eq_true_eq] at h
  rw [go_cons, h.1]
  simp only [List.length_singleton, Nat.mod_one, List.getElem?_cons_zero, Nat.div_one]
  rw [go_seq g (n + 1) t _ h.2]
  rfl
theorem At.ofLQ {md : Region.Mode} {n g : Nat} {Lq : Act → Prop} {k : List Item}
  (hL : ∀ a w, a.defers = [] → C w → Lq a → At P f (.inRegion ops (List.range' n g) :: k) a.tmps w R) :
  ∀ (m : Nat) (listed : Array Bool) (a : Act) (w : World) (t : Nat), a.defers = [] → C w →
   wpAnyLQ P md ops C n (fun listed' a' => Region.seqB md ops g n listed' = true ∧ Lq a') m listed a →
   At P f (.inRegion ops (Region.linearise.go md ops (m + g) t listed []) :: k) a.tmps w R
 | 0, listed, a, w, t, ha, hw, h => by
  rw [Nat.zero_add, go_seq g n t listed h.1]
  exact hL a w ha hw h.2
 | m + 1, listed, a, w, t, ha, hw, h => by
  rw [show m + 1 + g = (m + g) + 1 by omega, go_cons]
  have hpos : 0 < (Region.ready md ops listed).length := by
   cases hr : Region.ready md ops listed with
   | nil => exact absurd hr h.1
   | cons x xs => simp
  have hlt : t % (Region.ready md ops listed).length < (Region.ready md ops listed).length := Nat.mod_lt _ hpos
  rw [List.getElem?_eq_getElem hlt]
  have hi := h.2 _ (List.getElem_mem hlt)
  exact At.ofQ ha hi.2 hw (fun a' w' ha' hw' hK => At.ofLQ hL m _ a' w' _ ha' hw' hK)
def drawB (ops : Array Oper) (n : Nat) : Bool :=
 Region.noSelect ops && Nat.ble n ops.size && (Nat.beq n ops.size || (Region.sinkB .any ops n && Region.chainB .any ops n)) && Region.lexHead .any ops (ops.size - n) n 0 (Array.replicate ops.size false)
theorem At.draw {id : Nat} {k : List Item} {t : Array Value} {w : World} (n : Nat) (hm : P.follows .mixedOrders = true) (hB : drawB ops n = true) (hC : C { w with drawn := w.drawn + 1 })
  (h : wpQuiet P ops C (fun a => a.defers = [] → ∀ w', C w' → At P f (.inRegion ops (List.range' n (ops.size - n)) :: k) a.tmps w' R) (ops.toList.take n) ⟨t, []⟩) :
  At P f (.code (.region id ops true) :: k) t w R := by
 simp only [drawB, Bool.and_eq_true, Bool.or_eq_true] at hB
 obtain ⟨⟨⟨hsel, hn⟩, hs⟩, hlex⟩ := hB
 have hn := Nat.le_of_ble_eq_true hn
 have hs' : n < ops.size → Region.sinkB .any ops n = true ∧ Region.chainB .any ops n = true := fun hlt => by
  rcases hs with hs | hs
  ·have := Nat.eq_of_beq_eq_true hs; omega
  ·exact hs
 have htl : (ops.toList.take n).length = n := by simp; omega
 have inv0 : HeadInv .any ops n (Array.replicate ops.size false) :=
  ⟨by simp, fun j oj _ hl => (by rw [getD_replicate_false] at hl; cases hl), fun t _ ht => getD_in (by simpa using ht) (getD_replicate_false _ _)⟩
 have H := wpAnyLQ_lex (md := .any) (g := ops.size - n) hsel hs' (ops.toList.take n) 0 _ _ (fun j hj => by
  have hj' : j < n := by rw [htl] at hj; exact hj
  simp [hj']) (by simpa using htl) inv0 (by rw [htl]; exact hlex) h
 have hsch : ∀ τ, Region.schedule (P.follows .mixedOrders) ops τ = Region.linearise.go .any ops ops.size τ (Array.replicate ops.size false) [] := fun τ => by
  simp only [Region.schedule, hm, Bool.true_or, if_true]; rfl
 refine At.step (k' := .inRegion ops (Region.schedule (P.follows .mixedOrders) ops (w.tape w.drawn (.order f id))) :: k) (t' := t) (w' := { w with drawn := w.drawn + 1 })
  (fun b cs hb => by have := rstep_region_draw (P := P) (b := b) (a := ⟨t, R.ds⟩) (k := k) (cs := cs) (w := w) (id := id) (ops := ops); rw [hb] at this; exact this) ?_
 rw [hsch]
 rw [htl] at H
 have key := At.ofLQ (P := P) (f := f) (R := R) (C := C) (ops := ops) (md := .any) (n := n) (g := ops.size - n) (k := k)
  (Lq := fun a => a.defers = [] → ∀ w', C w' → At P f (.inRegion ops (List.range' n (ops.size - n)) :: k) a.tmps w' R)
  (fun a w ha hw hl => hl ha w hw) n (Array.replicate ops.size false) ⟨t, []⟩ { w with drawn := w.drawn + 1 } (w.tape w.drawn (.order f id)) rfl hC H
 rw [show n + (ops.size - n) = ops.size by omega] at key
 exact key
end
variable {P : Program} {f nt : Nat} {k : List Item} {e : Env} {L : SHeap} {S : List Nat} {w0 : World} {R : Goal P} {ops : Array Oper} {n : Nat} {kk : List Item}
def AtQ (P : Program) (f nt : Nat) (ops : Array Oper) (n : Nat) (kk : List Item) (k : List Item) (e : Env) (L : SHeap) (S : List Nat) (w0 : World) (R : Goal P) : Prop :=
 ∀ i, k = [.inRegion ops (List.range' i (n - i))] → i ≤ n → ∀ t, Knows nt e t →
  wpQuiet P ops (Mem L S w0) (fun a => a.defers = [] → ∀ w', Mem L S w0 w' → At P f (.inRegion ops (List.range' n (ops.size - n)) :: kk) a.tmps w' R) ((ops.toList.take n).drop i) ⟨t, []⟩
def qK (ops : Array Oper) (n : Nat) : List Item := [.inRegion ops (List.range' 0 n)]
def tailK (ops : Array Oper) (n : Nat) (kk : List Item) : List Item := .inRegion ops (List.range' n (ops.size - n)) :: kk
def regOps : List Item → Array Oper
 | .code (.region _ ops _) :: _ => ops
 | _ => #[]
def restK : List Item → List Item
 | _ :: k => k
 | [] => []
def isDraw : List Item → Bool
 | .code (.region _ _ true) :: _ => true
 | _ => false
theorem AtE.draw (n : Nat) (hk : (isDraw k, P.follows .mixedOrders, drawB (regOps k) n) = (true, true, true))
  (h : AtQ P f nt (regOps k) n (restK k) (qK (regOps k) n) e L S w0 R) : AtE P f nt k e L S w0 R := by
 simp only [Prod.mk.injEq] at hk
 obtain ⟨h1, h2, h3⟩ := hk
 unfold isDraw at h1
 split at h1
 ·next id ops k' =>
  intro t W hkn hm
  have := h 0 rfl (Nat.zero_le _) t hkn
  simp only [List.drop_zero] at this
  exact At.draw n h2 h3 ⟨hm.nodup, hm.here, hm.own, ⟨hm.kept.os, hm.kept.tape, hm.kept.output, hm.kept.size, hm.kept.block⟩⟩ this
 ·cases h1
theorem AtQ.done (h : k = [.inRegion ops []]) (hn : AtE P f nt (tailK ops n kk) e L S w0 R) : AtQ P f nt ops n kk k e L S w0 R := by
 intro i hi hle t hk
 rw [h] at hi
 simp only [List.cons.injEq, Item.inRegion.injEq, true_and, and_true] at hi
 have hl := congrArg List.length hi
 simp only [List.length_range', List.length_nil] at hl
 rw [List.drop_eq_nil_of_le (by simp; omega)]
 exact fun _ w' hm => hn t w' hk hm
theorem AtQ.push {i : Nat} {v : Value} (h : get? e i = some v) (hn : AtQ P f nt ops n kk k ((i, v) :: e) L S w0 R) : AtQ P f nt ops n kk k e L S w0 R := by
 intro j hj hle t hk
 refine hn j hj hle t ⟨hk.size, fun j u hj => ?_⟩
 simp only [get?] at hj
 cases hb : Nat.beq i j with
 | true =>
  have : i = j := Nat.eq_of_beq_eq_true hb
  subst this
  rw [hb] at hj; simp only [cond_true, Option.some.injEq] at hj
  subst hj; exact hk.slot i v h
 | false => rw [hb] at hj; exact hk.slot j u hj
theorem range_head {i n j : Nat} {rest : List Nat} (h : i :: rest = List.range' j (n - j)) : j = i ∧ j < n ∧ rest = List.range' (j + 1) (n - (j + 1)) := by
 rcases Nat.eq_zero_or_pos (n - j) with h0 | h0
 ·rw [h0] at h; cases h
 ·have h1 : n - j = (n - (j + 1)) + 1 := by omega
  rw [h1, List.range'_succ] at h
  exact ⟨(List.cons.inj h).1.symm, by omega, (List.cons.inj h).2⟩
theorem drop_head {i : Nat} {o : Oper} (ho : ops[i]? = some o) (hn : i < n) : (ops.toList.take n).drop i = o :: (ops.toList.take n).drop (i + 1) := by
 have hio : i < ops.toList.length := by have := (Array.getElem?_eq_some_iff.1 ho).1; simpa using this
 have hlt : i < (ops.toList.take n).length := by simp only [List.length_take]; omega
 rw [List.drop_eq_getElem_cons hlt]
 congr 1
 have h1 : (ops.toList.take n)[i]? = some o := by rw [List.getElem?_take, if_pos hn]; simpa using ho
 rw [List.getElem?_eq_getElem hlt] at h1
 exact Option.some.inj h1
theorem AtQ.opQ {o : Oper} {v : Value} (hc : cur nt k e = some o)
  (hr : ∀ W, Mem L S w0 W → (execOp (rho e) o).run P W = .ok (.value v) W ∨ ∃ g args, (execOp (rho e) o).run P W = .ok (.enter g args) W ∧ Calls P g args W fun en W' => en = .returned v ∧ Mem L S w0 W')
  (hn : AtQ P f nt ops n kk (nextK k) (putE e (curDst nt k e) v) L S w0 R) : AtQ P f nt ops n kk k e L S w0 R := by
 intro j hj hle t hk
 obtain ⟨ops', i, rest, k', rfl, ho, hw, hkn, hp, hd⟩ := cur_spec hc
 simp only [List.cons.injEq, Item.inRegion.injEq] at hj
 obtain ⟨⟨rfl, hj⟩, rfl⟩ := hj
 obtain ⟨rfl, hjn, hrest⟩ := range_head hj
 rw [drop_head ho hjn]
 have hcd : curDst nt (.inRegion ops' (j :: rest) :: []) e = o.dst := by simp only [curDst, hc]
 rw [hcd] at hn
 have hnext := hn (j + 1) (by simp only [nextK, hrest]) (by omega) _ (hk.put hd v [])
 show (if Region.wanted o (yielded ops' (Act.mk t []).tmps) then _ else _)
 rw [if_pos (hk.wanted hw)]
 refine ⟨v, fun W hm => ?_, by rw [put_eta]; exact hnext⟩
 unfold Oper.quietAt
 rw [execOp_congr (Act.mk t []).eval (rho e) o hp (hk.rho hkn [])]
 rcases hr W hm with h | ⟨g, args, h, hcalls⟩
 ·rw [h]; exact ⟨rfl, rfl⟩
 ·rw [h]; exact ⟨rfl, hcalls⟩
theorem AtQ.opV {o : Oper} {v : Value} (hc : cur nt k e = some o) (hr : ∀ W, Mem L S w0 W → (execOp (rho e) o).run P W = .ok (.value v) W)
  (hn : AtQ P f nt ops n kk (nextK k) (putE e (curDst nt k e) v) L S w0 R) : AtQ P f nt ops n kk k e L S w0 R :=
 AtQ.opQ hc (fun W hm => .inl (hr W hm)) hn
theorem OpV.Q {v : Value} (h : OpV P nt k e L S w0 v) (hn : AtQ P f nt ops n kk (nextK k) (putE e (curDst nt k e) v) L S w0 R) : AtQ P f nt ops n kk k e L S w0 R := let ⟨_, h1, h2⟩ := h; AtQ.opV h1 h2 hn
def vQ (P : Program) (nt : Nat) (k : List Item) (e : Env) : Value := match (execOp (rho e) (curO nt k e)).run P dw with | .ok (.value v) _ => v | _ => undef
theorem AtQ.pure (hc : cur nt k e = some (curO nt k e)) (h : ∀ W, (execOp (rho e) (curO nt k e)).run P W = .ok (.value (vQ P nt k e)) W)
  (hn : AtQ P f nt ops n kk (nextK k) (putE e (curDst nt k e) (vQ P nt k e)) L S w0 R) : AtQ P f nt ops n kk k e L S w0 R :=
 AtQ.opV hc (fun W _ => h W) hn
def skipO (nt : Nat) (k : List Item) (e : Env) : Option (Option Tmp) :=
 match k with
 | .inRegion ops (i :: _) :: _ => match ops[i]? with
  | some o => match wantedE ops e o with
   | some false => bif dstOk nt o.dst then some o.dst else none
   | _ => none
  | none => none
 | _ => none
def skipD (nt : Nat) (k : List Item) (e : Env) : Option Tmp := match skipO nt k e with | some d => d | none => none
theorem AtQ.skip (h : skipO nt k e = some (skipD nt k e)) (hn : AtQ P f nt ops n kk (nextK k) (putE e (skipD nt k e) undef) L S w0 R) : AtQ P f nt ops n kk k e L S w0 R := by
 intro j hj hle t hk
 generalize skipD nt k e = d at h hn
 unfold skipO at h
 split at h
 ·next ops' i rest k' =>
  split at h
  ·next o ho =>
   split at h
   ·next hw =>
    cases hd : dstOk nt o.dst with
    | false => simp [hd] at h
    | true =>
     simp only [hd, cond_true, Option.some.injEq] at h
     subst h
     simp only [List.cons.injEq, Item.inRegion.injEq] at hj
     obtain ⟨⟨rfl, hj⟩, rfl⟩ := hj
     obtain ⟨rfl, hjn, hrest⟩ := range_head hj
     rw [drop_head ho hjn]
     have hnext := hn (j + 1) (by simp only [nextK, hrest]) (by omega) _ (hk.put hd undef [])
     show (if Region.wanted o (yielded ops' (Act.mk t []).tmps) then _ else _)
     rw [if_neg (by rw [hk.wanted hw]; simp)]
     rw [put_eta]; exact hnext
   ·cases h
  ·cases h
 ·cases h
def QCall (P : Program) (g : FuncId) (args : Array Value) (L : SHeap) (S : List Nat) (w0 : World) (v : Value) : Prop :=
 ∀ W, Mem L S w0 W → Calls P g args W fun e W' => e = .returned v ∧ Mem L S w0 W'
theorem QCall.of {g : FuncId} {args : Array Value} {v : Value} (h : PureC P g args v) : QCall P g args L S w0 v := fun W hm => (h W).mono fun _ _ hh => ⟨hh.1, hm.after hh.2⟩
theorem AtQ.call (g : FuncId) (args : Array Value) {v : Value} {L1 : SHeap} (hr : ∀ W, (execOp (rho e) (curO nt k e)).run P W = .ok (.enter g args) W)
  (hc : (cur nt k e, L) = (some (curO nt k e), L1)) (h : QCall P g args L1 S w0 v)
  (hn : AtQ P f nt ops n kk (nextK k) (putE e (curDst nt k e) v) L S w0 R) : AtQ P f nt ops n kk k e L S w0 R := by
 simp only [Prod.mk.injEq] at hc
 obtain ⟨hc, rfl⟩ := hc
 exact AtQ.opQ hc (fun W hm => .inr ⟨g, args, hr W, h W hm⟩) hn
end
section
variable {P : Program} {f nt : Nat} {k : List Item} {e : Env} {L : SHeap} {S : List Nat} {w0 : World} {R : Goal P} {ops : Array Oper} {nq : Nat} {kk : List Item}
theorem AtQ.split (i : Nat) {b : Bool} (h : get? e i = some (.bool b)) (h1 : b = true → AtQ P f nt ops nq kk k ((i, .bool true) :: e) L S w0 R)
  (h0 : b = false → AtQ P f nt ops nq kk k ((i, .bool false) :: e) L S w0 R) : AtQ P f nt ops nq kk k e L S w0 R := by
 cases b
 ·exact AtQ.push h (h0 rfl)
 ·exact AtQ.push h (h1 rfl)
theorem AtQ.splitN (i : Nat) {p : Prop} [Decidable p] (h : get? e i = some (.bool (!decide p))) (h1 : ¬ p → AtQ P f nt ops nq kk k ((i, .bool true) :: e) L S w0 R)
  (h0 : p → AtQ P f nt ops nq kk k ((i, .bool false) :: e) L S w0 R) : AtQ P f nt ops nq kk k e L S w0 R :=
 AtQ.split i h (fun hb => h1 (of_decide_eq_false (by simpa using hb))) (fun hb => h0 (of_decide_eq_true (by simpa using hb)))
theorem AtQ.letI (i : Nat) {kd : IntKind} {n : Int} (h : get? e i = some (.int kd n)) (hn : ∀ x, x = n → AtQ P f nt ops nq kk k ((i, .int kd x) :: e) L S w0 R) : AtQ P f nt ops nq kk k e L S w0 R :=
 AtQ.push h (hn n rfl)
theorem AtQ.letS (i : Nat) {n : ByteArray} (h : get? e i = some (.string n)) (hn : ∀ x, x = n → AtQ P f nt ops nq kk k ((i, .string x) :: e) L S w0 R) : AtQ P f nt ops nq kk k e L S w0 R :=
 AtQ.push h (hn n rfl)
theorem AtQ.sliceS {s : ByteArray} {lo hi : Option Value} (h : asSlice P nt k e = some (some .string, .string s, lo, hi, none)) {a b : Int}
  (hlo : (∃ kd, lo = some (.int kd a)) ∨ (lo = none ∧ a = 0)) (hhi : (∃ kd, hi = some (.int kd b)) ∨ (hi = none ∧ b = s.size)) (hb : 0 ≤ a ∧ a ≤ b ∧ b ≤ s.size)
  (hn : AtQ P f nt ops nq kk (nextK k) (putE e (curDst nt k e) (.string (s.extract a.toNat b.toNat))) L S w0 R) : AtQ P f nt ops nq kk k e L S w0 R := (OpV.sliceS h hlo hhi hb).Q hn
theorem AtQ.load (j off : Nat) {T : TypeId} {v : Value} (h : (asLoad nt k e, isCellsL L j, valAt P T (cellsL L j) off) = (some (T, .pointer (some ⟨blkL L j, off, none⟩)), true, some v))
  (hn : AtQ P f nt ops nq kk (nextK k) (putE e (curDst nt k e) v) L S w0 R) : AtQ P f nt ops nq kk k e L S w0 R := (OpV.load j off h).Q hn
theorem AtQ.loadW {b off : Nat} {T : TypeId} {v : Value} {c : List Value} (h : asLoad nt k e = some (T, .pointer (some ⟨b, off, none⟩))) (hb : b ∉ S) (hc : blkW w0 b = some c) (hv : valAt P T c off = some v)
  (hn : AtQ P f nt ops nq kk (nextK k) (putE e (curDst nt k e) v) L S w0 R) : AtQ P f nt ops nq kk k e L S w0 R := (OpV.loadW h hb hc hv).Q hn
theorem AtQ.indexAddrL {E : TypeId} {b o len cap sz o' : Nat} {kd : IntKind} {i : Int} (h : (asIndexAddr P nt k e, (P.info? E).map (·.size)) = (some (some (.slice E), .slice (some ⟨b, o, none⟩) len cap, .int kd i), some sz))
  (hb : 0 ≤ i ∧ i < len) (ho : o' = o + i.toNat * sz) (hn : AtQ P f nt ops nq kk (nextK k) (putE e (curDst nt k e) (.pointer (some ⟨b, o', none⟩))) L S w0 R) : AtQ P f nt ops nq kk k e L S w0 R := (OpV.indexAddrL h hb ho).Q hn
end
section
variable {P : Program} {f nt : Nat} {k : List Item} {e : Env} {L : SHeap} {S : List Nat} {w0 : World} {R : Goal P}
def AtL (P : Program) (f nt : Nat) (ops : Array Oper) (fuel : Nat) (listed : Array Bool) (k : List Item) (e : Env) (L : SHeap) (S : List Nat) (w0 : World) (R : Goal P) : Prop :=
 ∀ t, AtE P f nt (.inRegion ops (Region.linearise.go .any ops fuel t listed []) :: k) e L S w0 R
def AllI (Φ : Nat → Prop) : List Nat → Prop
 | [] => True
 | i :: r => Φ i ∧ AllI Φ r
theorem AllI.get {Φ : Nat → Prop} : ∀ {l : List Nat}, AllI Φ l → ∀ i ∈ l, Φ i
 | _ :: _, h, _, .head _ => h.1
 | _ :: _, h, _, .tail _ hm => AllI.get h.2 _ hm
theorem AtL.step {ops : Array Oper} {fuel : Nat} {listed : Array Bool} (is : List Nat) (hr : (Region.ready .any ops listed, is.isEmpty) = (is, false))
  (h : AllI (fun i => ∀ t, AtE P f nt (.inRegion ops (i :: Region.linearise.go .any ops fuel t (listed.setIfInBounds i true) []) :: k) e L S w0 R) is) :
  AtL P f nt ops (fuel + 1) listed k e L S w0 R := by
 intro t
 simp only [Prod.mk.injEq] at hr
 obtain ⟨hr, hne⟩ := hr
 have hpos : 0 < is.length := by
  cases is with
  | nil => simp at hne
  | cons x xs => simp
 rw [go_cons, hr]
 have hlt : t % is.length < is.length := Nat.mod_lt _ hpos
 rw [List.getElem?_eq_getElem hlt]
 exact h.get _ (List.getElem_mem hlt) _
theorem AtE.drawAny {fuel : Nat} {listed : Array Bool} {ops0 : Array Oper} {k0 : List Item} (hk : (isDraw k, P.follows .mixedOrders, regOps k, restK k, (regOps k).size, Array.replicate (regOps k).size false) = (true, true, ops0, k0, fuel, listed))
  (h : AtL P f nt ops0 fuel listed k0 e L S w0 R) : AtE P f nt k e L S w0 R := by
 simp only [Prod.mk.injEq] at hk
 obtain ⟨h1, hm, rfl, rfl, rfl, rfl⟩ := hk
 unfold isDraw at h1
 split at h1
 ·next id ops k' =>
  intro t w hkn hmm
  have hsch : ∀ τ, Region.schedule (P.follows .mixedOrders) ops τ = Region.linearise.go .any ops ops.size τ (Array.replicate ops.size false) [] := fun τ => by
   simp only [Region.schedule, hm, Bool.true_or, if_true]; rfl
  refine At.step (k' := .inRegion ops (Region.schedule (P.follows .mixedOrders) ops (w.tape w.drawn (.order f id))) :: k') (t' := t) (w' := { w with drawn := w.drawn + 1 })
   (fun b cs hb => by have := rstep_region_draw (P := P) (b := b) (a := ⟨t, R.ds⟩) (k := k') (cs := cs) (w := w) (id := id) (ops := ops); rw [hb] at this; exact this) ?_
  rw [hsch]
  exact h _ _ _ hkn ⟨hmm.nodup, hmm.here, hmm.own, ⟨hmm.kept.os, hmm.kept.tape, hmm.kept.output, hmm.kept.size, hmm.kept.block⟩⟩
 ·cases h1
end
section
variable {P : Program} {f nt : Nat} {k : List Item} {e : Env} {L : SHeap} {S : List Nat} {w0 : World} {R : Goal P}
theorem AtE.front {x : Nat × Obj} (hn : AtE P f nt k e (x :: L) S w0 R) : AtE P f nt k e (L ++ [x]) S w0 R :=
 fun t W hk hm => hn t W hk (hm.perm (by simpa using (List.perm_append_comm (l₁ := [x]) (l₂ := L))))
def EffC (P : Program) (g : FuncId) (args : Array Value) (L0 : SHeap) (K : Value → SHeap → Prop) : Prop :=
 ∀ W, Mem L0 (L0.map (·.1)) W W → Calls P g args W fun e W' => ∃ v L', e = .returned v ∧ Mem L' (L0.map (·.1)) W W' ∧ K v L'
theorem CallH.eff {g : FuncId} {args : Array Value} {L0 L1 : SHeap} {K K' : Value → SHeap → Prop} (h : EffC P g args L0 K) (hp : (L0 ++ L1).Perm L) (hK : ∀ v L', K v L' → ∃ L2, (L' ++ L1).Perm L2 ∧ K' v L2) : CallH P g args L S w0 K' := by
 intro W hm
 have hm' : Mem (L0 ++ L1) S w0 W := hm.perm hp
 have hnd := hm'.nodup
 rw [List.map_append, List.nodup_append] at hnd
 obtain ⟨n0, n1, nd⟩ := hnd
 refine (h W ⟨n0, fun p hp => hm'.here p (List.mem_append_left _ hp), fun p hp => .inr (List.mem_map_of_mem hp), Kept.refl _ W⟩).mono ?_
 rintro e W' ⟨v, L', rfl, hL, hk⟩
 obtain ⟨L2, hp2, hk2⟩ := hK v L' hk
 refine ⟨v, L2, rfl, Mem.perm (L := L' ++ L1) ⟨?_, ?_, ?_, ?_⟩ hp2.symm, hk2⟩
 ·rw [List.map_append, List.nodup_append]
  refine ⟨hL.nodup, n1, ?_⟩
  intro a ha b hb hab
  subst hab
  obtain ⟨p, hp, rfl⟩ := List.mem_map.1 ha
  obtain ⟨q, hq, hqe⟩ := List.mem_map.1 hb
  rcases hL.own p hp with h1 | h1
  ·have := hm'.lt (List.mem_append_right L0 hq)
   omega
  ·exact nd _ h1 _ hb rfl
 ·intro p hp
  rcases List.mem_append.1 hp with hp | hp
  ·exact hL.here p hp
  ·rw [hL.kept.block p.1 (hm'.lt (List.mem_append_right _ hp)) (fun h0 => nd _ h0 _ (List.mem_map_of_mem hp) rfl)]
   exact hm'.here p (List.mem_append_right _ hp)
 ·intro p hp
  rcases List.mem_append.1 hp with hp | hp
  ·rcases hL.own p hp with h1 | h1
   ·exact .inl (Nat.le_trans hm'.kept.size h1)
   ·obtain ⟨q, hq, hqe⟩ := List.mem_map.1 h1
    have := hm'.own q (List.mem_append_left _ hq)
    rw [hqe] at this; exact this
  ·exact hm'.own p (List.mem_append_right _ hp)
 ·refine ⟨hL.kept.os.trans hm'.kept.os, hL.kept.tape.trans hm'.kept.tape, hL.kept.output.trans hm'.kept.output, Nat.le_trans hm'.kept.size hL.kept.size, fun i hi hs => ?_⟩
  rw [hL.kept.block i (Nat.lt_of_lt_of_le hi hm'.kept.size) (fun h0 => ?_)]
  ·exact hm'.kept.block i hi hs
  ·obtain ⟨q, hq, hqe⟩ := List.mem_map.1 h0
   rcases hm'.own q (List.mem_append_left _ hq) with h1 | h1
   ·rw [hqe] at h1; omega
   ·rw [hqe] at h1; exact hs h1
theorem AtE.retC {R : Ending → World → Prop} {fn : Func} {a : Tmp} {T : TypeId} {v : Value} {L1 : SHeap} (j off : Nat) (hf : P.funcs[f]? = some fn)
  (hv : (isRet k, fn.results.toList.length, get? e a, isCellsL L j, valAt P T (cellsL L j) off, L) = (true, 1, some (.pointer (some ⟨blkL L j, off, none⟩)), true, some v, L1)) (hr : fn.results = #[.cell a T])
  (h : Fin R L1 S w0 v) : AtE P f nt k e L S w0 (nrm R) := by
 simp only [Prod.mk.injEq] at hv
 obtain ⟨h1, _, h2, h3, h4, rfl⟩ := hv
 intro t W hk hm
 have hres : (results fn t).run P W = .ok v W := by
  have hld := load_run (P := P) (hm.heapAt h3) h4
  have ht := hk.getD h2
  have ht' : t[a]?.getD undef = .pointer (some ⟨blkL L j, off, none⟩) := by rw [← Array.getD_eq_getD_getElem?]; exact ht
  simp only [Instr.loadAt, Sem.run_bind, Instr.sureAddr, Sem.run_pure, Result.andThen] at hld
  simp [results, hr, ht', asAddr, hld]
 unfold isRet at h1
 split at h1
 ·exact At.ret hf hres (h W hm)
 ·exact At.fin hf hres (h W hm)
 ·cases h1
theorem Mem.selT {A T : SHeap} {W : World} (hm : Mem (A ++ T) S w0 W) {is : List Nat} (h : is.Nodup) : Mem (selL A is ++ T) S w0 W := by
 have hnd := hm.nodup
 rw [List.map_append, List.nodup_append] at hnd
 obtain ⟨n0, n1, nd⟩ := hnd
 have hA : Mem A S w0 W := ⟨n0, fun p hp => hm.here p (List.mem_append_left _ hp), fun p hp => hm.own p (List.mem_append_left _ hp), hm.kept⟩
 have hs := hA.sel h
 have sub : ∀ p ∈ selL A is, p ∈ A := fun p hp => by
  obtain ⟨i, _, hx⟩ := selL_mem hp; exact List.mem_of_getElem? hx
 refine ⟨?_, fun p hp => ?_, fun p hp => ?_, hm.kept⟩
 ·rw [List.map_append, List.nodup_append]
  refine ⟨hs.nodup, n1, fun a ha b hb hab => ?_⟩
  obtain ⟨p, hp, rfl⟩ := List.mem_map.1 ha
  exact nd _ (List.mem_map_of_mem (sub p hp)) _ hb hab
 ·rcases List.mem_append.1 hp with hp | hp
  ·exact hs.here p hp
  ·exact hm.here p (List.mem_append_right _ hp)
 ·rcases List.mem_append.1 hp with hp | hp
  ·exact hs.own p hp
  ·exact hm.own p (List.mem_append_right _ hp)
theorem AtE.cutT (is : List Nat) (m : Nat) {k' : List Item} {e' : Env} {L' : SHeap} (hn : AtE P f nt k' e' L' S w0 R) (h : (k, restrict e (e'.map (·.1)), selL (L.take m) is ++ L.drop m, nodupB is) = (k', some e', L', true)) : AtE P f nt k e L S w0 R := by
 simp only [Prod.mk.injEq] at h
 obtain ⟨rfl, h, rfl, hnd⟩ := h
 intro t W hk hm
 have hm' : Mem (L.take m ++ L.drop m) S w0 W := by rw [List.take_append_drop]; exact hm
 exact hn t W ⟨hk.size, fun i v hv => hk.slot i v (restrict_get h i v hv)⟩ (hm'.selT (nodupB_spec hnd))
def noughtL (zs : Array Value) (n : Nat) : List Value := (Builtin.zeroCells zs n).toList
theorem noughtL_len (zs : Array Value) (n : Nat) : (noughtL zs n).length = n * zs.size := by simp [noughtL, Builtin.zeroCells]
theorem noughtL_one {zs : Array Value} (h : ∀ u ∈ zs.toList, u.oneCell' = true) (n : Nat) : ∀ u ∈ noughtL zs n, u.oneCell' = true := by
 intro u hu
 simp only [noughtL, Builtin.zeroCells, Array.toList_map, Array.toList_range, List.mem_map, List.mem_range] at hu
 obtain ⟨i, hi, rfl⟩ := hu
 have hpos : 0 < zs.size := by
  rcases Nat.eq_zero_or_pos zs.size with h0 | h0
  ·rw [h0, Nat.mul_zero] at hi; omega
  ·exact h0
 have hlt : i % zs.size < zs.size := Nat.mod_lt _ hpos
 rw [getElem!_pos zs _ hlt]
 exact h _ (by simp)
theorem AtE.clearO (j : Nat) {T E : TypeId} {o n cap : Nat} {z : Value} {sz bytes : Nat} {c : List Value}
  (h : (asBuiltin nt k e, P.underlying T, infoZ P E, z.cells.size, isCellsL L j, cellsL L j, fzL L j) =
   (some (.clear, [.slice (some ⟨blkL L j, o, none⟩) n cap], [T]), some (.slice E), some (some z, sz, bytes), sz, true, c, (0, 0)))
  (h1 : (z.cells.toList.all fun u => u.oneCell') = true) (hfit : o + n * sz ≤ c.length)
  (hn : AtE P f nt (nextK k) (putE e (curDst nt k e) (.tuple #[])) (setL L j (over c o (noughtL z.cells n))) S w0 R) : AtE P f nt k e L S w0 R := by
 simp only [Prod.mk.injEq] at h
 obtain ⟨hb, h2, h3, h4, h5, h6, h7⟩ := h
 obtain ⟨op, cl, hc, ho, hcb, ha, ht⟩ := asBuiltin_spec hb
 refine AtE.opB hc ho hcb ha ht (by simp) fun W hm => ?_
 have hh := hm.heapAt h5
 rw [h6, h7] at hh
 refine ⟨_, W.setRow (blkL L j) ⟨over c o (noughtL z.cells n)⟩, run_lift (v := .tuple #[]) ?_, fun t hk => hn t _ hk (hm.setRow h5 _)⟩
 have hlen : (noughtL z.cells n).length = n * sz := by rw [noughtL_len, h4]
 have hst := run_storeCells_at P (blkL L j) o (elemL L j) (noughtL z.cells n) 0 ⟨c⟩ W hh (by simp only [Nat.add_zero, List.size_toArray]; omega) (noughtL_one (fun u hu => List.all_eq_true.1 h1 u hu) n)
 show (Builtin.clear_ #[T] op.type #[.slice (some ⟨blkL L j, o, none⟩) n cap]).run P W = _
 have hz : (zeroValue E).run P W = .ok z W := by
  unfold infoZ at h3
  cases hq : P.info? E with
  | none => rw [hq] at h3; cases h3
  | some i =>
   rw [hq] at h3; simp at h3
   simp [zeroValue, typeInfo, hq, h3.1]
 cases n with
 | zero =>
  have hov : over c o (noughtL z.cells 0) = c := by
   have : noughtL z.cells 0 = [] := by apply List.length_eq_zero_iff.1; rw [noughtL_len]; simp
   rw [this, over]; simp
  rw [hov]
  have hset : W.setRow (blkL L j) ⟨c⟩ = W := by
   have hheap : (W.heap.modify (blkL L j) fun x => match x with | Obj.cells _ elem frozen => Obj.cells ⟨c⟩ elem frozen | o => o) = W.heap := by
    apply Array.ext_getElem?
    intro i
    rw [Array.getElem?_modify]
    split
    ·next heq => subst heq; rw [hh]; rfl
    ·rfl
   have h9 : (W.setRow (blkL L j) ⟨c⟩).heap = W.heap := hheap
   show ({ W with heap := (W.setRow (blkL L j) ⟨c⟩).heap } : World) = W
   rw [h9]
  rw [hset]
  simp [Builtin.clear_, run_underlying h2]
 | succ n =>
  simp [Builtin.clear_, run_underlying h2, hz, Result.andThen]
  have hst' := hst
  simp only [Nat.add_zero, noughtL] at hst'
  rw [hst']
  simp [over, noughtL]
end
section
variable {P : Program} {f nt : Nat} {k : List Item} {e : Env} {L : SHeap} {S : List Nat} {w0 : World} {R : Goal P}
theorem AtE.norm {k' : List Item} {e' : Env} {L' : SHeap} (hn : AtE P f nt k' e' L' S w0 R) (h : (k, restrict e (e'.map (·.1)), L) = (k', some e', L')) : AtE P f nt k e L S w0 R := by
 simp only [Prod.mk.injEq] at h
 obtain ⟨rfl, h, rfl⟩ := h
 intro t W hk hm
 exact hn t W ⟨hk.size, fun i v hv => hk.slot i v (restrict_get h i v hv)⟩ hm
theorem AtE.sliceU {E : TypeId} {p : Option Addr} {len cap : Nat} {lo hi : Option Value} {y : Int} {sz : Nat} (h : (asSlice P nt k e, (P.info? E).map (·.size)) = (some (some (.slice E), .slice p len cap, lo, hi, none), some sz))
  (hlo : (∃ kd, lo = some (.int kd 0)) ∨ lo = none) (hhi : (∃ kd, hi = some (.int kd y)) ∨ (hi = none ∧ y = len ∧ len ≤ cap)) (hb : 0 ≤ y ∧ y ≤ cap)
  (hn : AtE P f nt (nextK k) (putE e (curDst nt k e) (.slice p y.toNat cap)) L S w0 R) : AtE P f nt k e L S w0 R := by
 simp only [Prod.mk.injEq] at h
 obtain ⟨h1, h2⟩ := h
 unfold asSlice at h1
 split at h1
 ·next op hc =>
  split at h1
  ·next T x' l2 h2' m2 hop =>
   simp only [Option.some.injEq, Prod.mk.injEq] at h1
   obtain ⟨hT, hx, hl2, hh2, hm2⟩ := h1
   cases hq : P.info? E with
   | none => rw [hq] at h2; cases h2
   | some ii =>
    rw [hq] at h2; simp at h2
    refine AtE.opV hc (fun W hm => ?_) hn
    simp only [execOp, hop, hx, hl2, hh2, hm2]
    refine run_lift ?_
    have key : (Instr.sliceBounds true len cap lo hi none).run P W = .ok (0, y.toNat, cap) W := by
     have hy : (y.toNat : Int) = y := Int.toNat_of_nonneg (by omega)
     have b1 : ∀ kd code, (Instr.sliceBound (.int kd y) cap code).run P W = .ok y.toNat W := fun kd code => run_sliceBound W kd y cap code (by omega) hb.2
     have b2 : ∀ kd code, (Instr.sliceBound (.int kd 0) y.toNat code).run P W = .ok 0 W := fun kd code => run_sliceBound W kd 0 y.toNat code (by omega) (by omega)
     have b3 : ∀ kd code, (Instr.sliceBound (.int kd 0) len code).run P W = .ok 0 W := fun kd code => run_sliceBound W kd 0 len code (by omega) (by omega)
     rcases hlo with ⟨kd, rfl⟩ | rfl <;> rcases hhi with ⟨kd', rfl⟩ | ⟨rfl, rfl, _⟩
     ·simp only [Instr.sliceBounds, Sem.run_bind, Sem.run_pure, Result.andThen_ok, b1, b2]
     ·simp [Instr.sliceBounds, b3, Result.andThen]
     ·simp only [Instr.sliceBounds, Sem.run_bind, Sem.run_pure, Result.andThen_ok, b1]
     ·simp [Instr.sliceBounds]
    simp only [Instr.sliceAt, Sem.run_bind, run_underlying hT, Result.andThen_ok, Instr.slice, key, sizeOf, typeInfo, run_program, hq, Sem.run_pure]
    have hp : (if cap = 0 then p else p.map (·.add (0 * ii.size))) = p := by
     split
     ·rfl
     ·cases p with
      | none => rfl
      | some a => simp [Addr.add]
    rw [hp]; simp
  ·cases h1
 ·cases h1
end
section
variable {P : Program} {f nt : Nat} {k : List Item} {e : Env} {L : SHeap} {S : List Nat} {w0 : World} {G : Goal P}
def RaiseE (P : Program) (f nt : Nat) (e : Env) (ch : List PanicEntry) (L : SHeap) (S : List Nat) (w0 : World) (G : Goal P) : Prop :=
 ∀ t W k, Knows nt e t → Mem L S w0 W → ∀ (b : Frame) (cs : List Frame), b.fn = f → G.ok b cs (lone { rt b ⟨t, G.ds⟩ k with mode := .panicking ch } cs W)
def CallP (P : Program) (g : FuncId) (args : Array Value) (L : SHeap) (S : List Nat) (w0 : World) (K : Value → SHeap → Prop) (K' : List PanicEntry → SHeap → Prop) : Prop :=
 ∀ W, Mem L S w0 W → Calls P g args W fun e W' => (∃ v L', e = .returned v ∧ Mem L' S w0 W' ∧ K v L') ∨ ∃ ch L', e = .panicked ch ∧ Mem L' S w0 W' ∧ K' ch L'
theorem CallP.of {g : FuncId} {args : Array Value} {K : Value → SHeap → Prop} {K' : List PanicEntry → SHeap → Prop} (h : CallH P g args L S w0 K) : CallP P g args L S w0 K K' :=
 fun W hm => (h W hm).mono fun _ _ hh => .inl hh
theorem At.enterP {t : Array Value} {w w' : World} {ops : Array Oper} {i : Nat} {rest : List Nat} {o : Oper} {g : FuncId} {args : Array Value} {k : List Item}
  (ho : ops[i]? = some o) (hw : Region.wanted o (yielded ops t) = true) (hr : (execOp (Act.mk t []).eval o).run P w = .ok (.enter g args) w')
  (h : Calls P g args w' fun e w'' => (∃ v, e = .returned v ∧ At P f (.inRegion ops rest :: k) ((Act.mk t []).put o.dst v).tmps w'' G) ∨
   ∃ ch, e = .panicked ch ∧ ∀ (b : Frame) (cs : List Frame), b.fn = f → G.ok b cs (lone { rt b ⟨t, G.ds⟩ (.inRegion ops (i :: rest) :: k) with mode := .panicking ch } cs w'')) :
  At P f (.inRegion ops (i :: rest) :: k) t w G := by
 intro b cs hb
 have hg := rstepG_op (P := P) (b := b) (a := ⟨t, G.ds⟩) (k := k) (cs := cs) (w := w) (rest := rest) ho hw (.inr (not_defer hr rfl))
 have hr' : (execOp (Act.mk t G.ds).eval o).run P w = .ok (.enter g args) w' := hr
 obtain ⟨e, w'', fr, hR, hsteps, _, hleave⟩ := h (rt b ⟨t, G.ds⟩ (.inRegion ops (i :: rest) :: k) :: cs)
 have henter : Go.step P (lone (rt b ⟨t, G.ds⟩ (.inRegion ops (i :: rest) :: k)) cs w) =
   .next (lone (Frame.enter P g args .normal) (rt b ⟨t, G.ds⟩ (.inRegion ops (i :: rest) :: k) :: cs) w') :=
  step_lone_go (by rw [hg]; simp [stepG.apply, hr', rt, Frame.at])
 rcases hR with ⟨v, rfl, hR⟩ | ⟨ch, rfl, hR⟩
 ·have hfin : (rt b ⟨t, G.ds⟩ (.inRegion ops (i :: rest) :: k)).finish v = rt b ⟨((Act.mk t []).put o.dst v).tmps, G.ds⟩ (.inRegion ops rest :: k) := by
   rw [rt_finish, ho]
   show rt b ((Act.mk t G.ds).put o.dst v) _ = _
   rw [put_eta]
  refine G.back _ _ _ _ (.head henter (Steps.trans hsteps (.one (step_leave_returned hleave)))) ?_
  rw [hfin]; exact hR b cs hb
 ·refine G.back _ _ _ _ (.head henter (Steps.trans hsteps (.one (step_leave_panicked hleave)))) ?_
  rw [rt_raise]; exact hR b cs hb
theorem AtE.callP (g : FuncId) (args : Array Value) {L1 : SHeap} {K : Value → SHeap → Prop} {K' : List PanicEntry → SHeap → Prop} (hr : ∀ W, (execOp (rho e) (curO nt k e)).run P W = .ok (.enter g args) W)
  (hc : (cur nt k e, L) = (some (curO nt k e), L1)) (h : CallP P g args L1 S w0 K K')
  (hn : ∀ v L', K v L' → AtE P f nt (nextK k) (putE e (curDst nt k e) v) L' S w0 G) (hp : ∀ ch L', K' ch L' → RaiseE P f nt e ch L' S w0 G) : AtE P f nt k e L S w0 G := by
 intro t W hk hm
 simp only [Prod.mk.injEq] at hc
 obtain ⟨hc, rfl⟩ := hc
 obtain ⟨ops, i, rest, k', rfl, ho, hw, hkn, hpl, hd⟩ := cur_spec hc
 have hr' := hr W
 rw [← execOp_congr (Act.mk t []).eval (rho e) _ hpl (hk.rho hkn [])] at hr'
 refine At.enterP ho (hk.wanted hw) hr' ((h W hm).mono fun en W' hh => ?_)
 rcases hh with ⟨v, L', he, hm', hK⟩ | ⟨ch, L', he, hm', hK⟩
 ·refine .inl ⟨v, he, hn v L' hK _ W' ?_ hm'⟩
  have := hk.put hd v []
  simpa only [curDst, hc] using this
 ·exact .inr ⟨ch, he, fun b cs hb => hp ch L' hK _ W' _ hk hm' b cs hb⟩
def asPanic (nt : Nat) (k : List Item) (e : Env) : Option Value :=
 match cur nt k e with
 | some o => match o.op with
  | .panic x => some (rho e x)
  | _ => none
 | none => none
theorem AtE.panic {t : TypeId} {v : Value} (h : asPanic nt k e = some (.iface t v)) (hn : RaiseE P f nt e [{ v := .iface t v, recovered := false }] L S w0 G) : AtE P f nt k e L S w0 G := by
 unfold asPanic at h
 split at h
 ·next o hc =>
  split at h
  ·next x ho =>
   simp only [Option.some.injEq] at h
   intro tm W hk hm b cs hb
   obtain ⟨ops, i, rest, k', rfl, hoi, hw, hkn, hpl, hd⟩ := cur_spec hc
   have hr : (execOp (rho e) o).run P W = .halt (.panic (.iface t v)) W := by
    simp only [execOp, ho, h]
    rfl
   rw [← execOp_congr (Act.mk tm []).eval (rho e) o hpl (hk.rho hkn [])] at hr
   have hr' : (execOp (Act.mk tm G.ds).eval o).run P W = .halt (.panic (.iface t v)) W := hr
   have hg := rstepG_op (P := P) (b := b) (a := ⟨tm, G.ds⟩) (k := k') (cs := cs) (w := W) (rest := rest) hoi (hk.wanted hw) (.inr fun c h => by rw [h] at ho; cases ho)
   refine G.back _ _ _ _ (.one (step_lone_go ?_)) (hn tm W (.inRegion ops (i :: rest) :: k') hk hm b cs hb)
   rw [hg, ← rt_raise]; simp [stepG.apply, hr']
  ·cases h
 ·cases h
def ResOk (P : Program) (fn : Func) (nt : Nat) (e : Env) (L : SHeap) (S : List Nat) (w0 : World) (v : Value) : Prop :=
 ∀ t W, Knows nt e t → Mem L S w0 W → (results fn t).run P W = .ok v W
theorem load_res {W : World} (hm : Mem L S w0 W) {j off : Nat} {T : TypeId} {v : Value} (h3 : isCellsL L j = true) (h4 : valAt P T (cellsL L j) off = some v) :
  (loadVar T ⟨blkL L j, off, none⟩).run P W = .ok v W := by
 have hld := load_run (P := P) (hm.heapAt h3) h4
 simp only [Instr.loadAt, Sem.run_bind, Instr.sureAddr, Sem.run_pure, Result.andThen] at hld
 simpa using hld
theorem ResOk.cells2 {fn : Func} {a b : Tmp} {T U : TypeId} {u v : Value} (j off j2 off2 : Nat) (hr : fn.results = #[.cell a T, .cell b U])
  (h : (get? e a, isCellsL L j, valAt P T (cellsL L j) off, get? e b, isCellsL L j2, valAt P U (cellsL L j2) off2) = (some (.pointer (some ⟨blkL L j, off, none⟩)), true, some u, some (.pointer (some ⟨blkL L j2, off2, none⟩)), true, some v)) :
  ResOk P fn nt e L S w0 (.tuple #[u, v]) := by
 simp only [Prod.mk.injEq] at h
 obtain ⟨h1, h2, h3, h4, h5, h6⟩ := h
 intro t W hk hm
 have hu := load_res (P := P) hm h2 h3
 have hv := load_res (P := P) hm h5 h6
 have ha : t[a]?.getD undef = .pointer (some ⟨blkL L j, off, none⟩) := by rw [← Array.getD_eq_getD_getElem?]; exact hk.getD h1
 have hb : t[b]?.getD undef = .pointer (some ⟨blkL L j2, off2, none⟩) := by rw [← Array.getD_eq_getD_getElem?]; exact hk.getD h4
 simp [results, hr, ha, hb, asAddr, Sem.run_bind, Result.andThen, hu, hv]
theorem ResOk.ct {fn : Func} {a b : Tmp} {T : TypeId} {u v : Value} (j off : Nat) (hr : fn.results = #[.cell a T, .tmp b])
  (h : (get? e a, isCellsL L j, valAt P T (cellsL L j) off, get? e b) = (some (.pointer (some ⟨blkL L j, off, none⟩)), true, some u, some v)) :
  ResOk P fn nt e L S w0 (.tuple #[u, v]) := by
 simp only [Prod.mk.injEq] at h
 obtain ⟨h1, h2, h3, h4⟩ := h
 intro t W hk hm
 have hu := load_res (P := P) hm h2 h3
 have ha : t[a]?.getD undef = .pointer (some ⟨blkL L j, off, none⟩) := by rw [← Array.getD_eq_getD_getElem?]; exact hk.getD h1
 have hb : t[b]?.getD undef = v := by rw [← Array.getD_eq_getD_getElem?]; exact hk.getD h4
 simp [results, hr, ha, hb, asAddr, Result.andThen, hu]
theorem AtE.retR {R : Ending → World → Prop} {fn : Func} {v : Value} {L1 : SHeap} (hf : P.funcs[f]? = some fn) (hk1 : (isRet k, L) = (true, L1)) (hr : ResOk P fn nt e L S w0 v) (h : Fin R L1 S w0 v) : AtE P f nt k e L S w0 (Eng.nrm R) := by
 simp only [Prod.mk.injEq] at hk1
 obtain ⟨hk1, rfl⟩ := hk1
 intro t W hk hm
 unfold isRet at hk1
 split at hk1
 ·exact At.ret hf (hr t W hk hm) (h W hm)
 ·exact At.fin hf (hr t W hk hm) (h W hm)
 ·cases hk1
def FinP (R : Ending → World → Prop) (L : SHeap) (S : List Nat) (w0 : World) (ch : List PanicEntry) : Prop := ∀ W, Mem L S w0 W → R (.panicked ch) W
theorem RaiseE.nrm {R : Ending → World → Prop} {fn : Func} {ch : List PanicEntry} (hf : P.funcs[f]? = some fn) (h : FinP R L S w0 ch) : RaiseE P f nt e ch L S w0 (nrm R) := by
 intro t W k hk hm b cs hb hkd hq
 exact ⟨.panicked ch, W, _, h W hm, Steps.refl P _, rfl, rfl, rfl, fn, by rw [← hf, ← hb]; rfl⟩
def DCall (P : Program) (g : FuncId) (args : Array Value) (L : SHeap) (S : List Nat) (w0 : World) (u : FrameMode) (K : FrameMode → SHeap → Prop) : Prop :=
 ∀ W, Mem L S w0 W → CallsD P g args u W fun e u' W' => ∃ v L', e = .returned v ∧ Mem L' S w0 W' ∧ K u' L'
theorem leaves_one {fn : Func} {t : Array Value} {R : Ending → World → Prop} {d : Deferred} {fv : Fn} {cap : Array Value} {g : FuncId} {args : Array Value} {u : FrameMode} (hu : u ≠ .run) (hd : d.target = .fn fv cap)
  (hi : ∀ W, (invoke d.target d.args).run P W = .ok (.enter g args) W) (hk : Knows nt e t)
  (h : DCall P g args L S w0 u fun u' L' => settle u' = .returning ∧ ∃ v, ResOk P fn nt e L' S w0 v ∧ Fin R L' S w0 v) {W : World} (hm : Mem L S w0 W) : Leaves P fn t R [d] u W := by
 refine ⟨hu, fv, cap, g, args, hd, hi W, fun c cs hc => ?_⟩
 obtain ⟨en, u', W', fr, ⟨v, L', rfl, hm', hs, x, hx, hfin⟩, h2, h3, h4⟩ := h W hm c cs hc
 refine ⟨.returned v, u', W', fr, ?_, h2, h3, h4⟩
 show Leaves P fn t R [] (settle u') W'
 rw [hs]
 exact ⟨x, hx t W' hk hm', hfin W' hm'⟩
theorem RaiseE.dfr {R : Ending → World → Prop} {fn : Func} {d : Deferred} {fv : Fn} {cap : Array Value} {g : FuncId} {args : Array Value} {ch : List PanicEntry} (hf : P.funcs[f]? = some fn) (hd : d.target = .fn fv cap)
  (hi : ∀ W, (invoke d.target d.args).run P W = .ok (.enter g args) W)
  (h : DCall P g args L S w0 (.panicking ch) fun u' L' => settle u' = .returning ∧ ∃ v, ResOk P fn nt e L' S w0 v ∧ Fin R L' S w0 v) : RaiseE P f nt e ch L S w0 (dfr [d] R) := by
 intro t W k hk hm b cs hb hkd hq
 show ∃ e w' fr, R e w' ∧ Comes P (lone { rt b ⟨t, [d]⟩ k with mode := .panicking ch } cs W) (lone fr cs w') e ∧ fr.fn = b.fn ∧ fr.leaving P w' e
 rw [rt_none hq]
 have hl := leaves_one (fn := fn) (R := R) (by simp) hd hi hk h hm
 obtain ⟨e', w'', fr', hR, hs, hfn, hlv⟩ := leaves_steps [d] (.panicking ch) W { b.at ⟨t, [d]⟩ k with mode := .panicking ch } cs rfl rfl rfl (by rw [← hf, ← hb]; rfl) hkd hl
 exact ⟨e', w'', fr', hR, hs, hfn, hlv⟩
theorem AtE.retD {R : Ending → World → Prop} {fn : Func} {d : Deferred} {fv : Fn} {cap : Array Value} {g : FuncId} {args : Array Value} (hf : P.funcs[f]? = some fn) (hd : d.target = .fn fv cap)
  (hi : ∀ W, (invoke d.target d.args).run P W = .ok (.enter g args) W) (hk1 : isRet k = true)
  (h : DCall P g args L S w0 .returning fun u' L' => settle u' = .returning ∧ ∃ v, ResOk P fn nt e L' S w0 v ∧ Fin R L' S w0 v) : AtE P f nt k e L S w0 (dfr [d] R) := by
 intro t W hk hm b cs hb hkd hq
 show ∃ e w' fr, R e w' ∧ Comes P (lone (rt b ⟨t, [d]⟩ k) cs W) (lone fr cs w') e ∧ fr.fn = b.fn ∧ fr.leaving P w' e
 rw [rt_none hq]
 have hl := leaves_one (fn := fn) (R := R) (by simp) hd hi hk h hm
 unfold isRet at hk1
 split at hk1
 ·obtain ⟨e', w'', fr', hR, hs, hfn, hlv⟩ := leaves_steps [d] .returning W { b.at ⟨t, [d]⟩ (.code .ret :: _) with mode := .returning } cs rfl rfl rfl (by rw [← hf, ← hb]; rfl) hkd hl
  exact ⟨e', w'', fr', hR, Comes.of_steps (.one step_ret) hs, hfn, hlv⟩
 ·obtain ⟨e', w'', fr', hR, hs, hfn, hlv⟩ := leaves_steps [d] .returning W { b.at ⟨t, [d]⟩ [] with mode := .returning } cs rfl rfl rfl (by rw [← hf, ← hb]; rfl) hkd hl
  exact ⟨e', w'', fr', hR, Comes.of_steps (.one step_end) hs, hfn, hlv⟩
 ·cases hk1
theorem DCall.mono {g : FuncId} {args : Array Value} {u : FrameMode} {K K' : FrameMode → SHeap → Prop} (h : DCall P g args L S w0 u K) (hk : ∀ u' L', K u' L' → K' u' L') : DCall P g args L S w0 u K' := by
 intro W hm c cs hc
 obtain ⟨en, u', W', fr, ⟨v, L', h1, h2, h3⟩, h4⟩ := h W hm c cs hc
 exact ⟨en, u', W', fr, ⟨v, L', h1, h2, hk u' L' h3⟩, h4⟩
theorem AtE.defer {R : Ending → World → Prop} {d : Deferred} (hc : cur nt k e = some (curO nt k e)) (hr : ∀ W, (execOp (rho e) (curO nt k e)).run P W = .ok (.defer d) W)
  (hn : AtE P f nt (nextK k) (putE e (curDst nt k e) undef) L S w0 (dfr [d] R)) : AtE P f nt k e L S w0 (Eng.nrm R) := by
 intro t W hk hm b cs hb hkd hq
 show ∃ e w' fr, R e w' ∧ Comes P (lone (rt b ⟨t, []⟩ k) cs W) (lone fr cs w') e ∧ fr.fn = b.fn ∧ fr.leaving P w' e
 rw [rt_none hq]
 generalize curO nt k e = o at hc hr
 obtain ⟨ops, i, rest, k', rfl, hoi, hw, hkn, hpl, hd⟩ := cur_spec hc
 have hr1 := hr W
 rw [← execOp_congr (Act.mk t []).eval (rho e) o hpl (hk.rho hkn [])] at hr1
 have hg := stepG_op (P := P) (b := b) (a := ⟨t, []⟩) (k := k') (cs := cs) (w := W) (rest := rest) hoi (hk.wanted hw)
 have hnext := hn ((Act.mk t []).put o.dst undef).tmps W (by have := hk.put hd undef []; simpa only [curDst, hc] using this) hm b cs hb hkd hq
 have hnext' : ∃ e w' fr, R e w' ∧ Comes P (lone (rt b ⟨((Act.mk t []).put o.dst undef).tmps, [d]⟩ (.inRegion ops rest :: k')) cs W) (lone fr cs w') e ∧ fr.fn = b.fn ∧ fr.leaving P w' e := hnext
 rw [rt_none hq] at hnext'
 obtain ⟨en, w', fr, h1, h2, h3⟩ := hnext'
 refine ⟨en, w', fr, h1, Comes.of_steps (.one (step_lone_go ?_)) h2, h3⟩
 have hfin : ({ b.at ⟨t, []⟩ (.inRegion ops (i :: rest) :: k') with defers := d :: [] } : Frame).finish undef = b.at ⟨((Act.mk t []).put o.dst undef).tmps, [d]⟩ (.inRegion ops rest :: k') := by
  have := Frame.finish_at b ⟨t, [d]⟩ ops i rest k' undef
  rw [hoi] at this
  rw [← put_eta]
  exact this
 show GStep.bare (stepG P true { frame := b.at ⟨t, []⟩ (.inRegion ops (i :: rest) :: k'), callers := cs, status := .running, dying := none } W) = GStep.go { frame := b.at ⟨((Act.mk t []).put o.dst undef).tmps, [d]⟩ (.inRegion ops rest :: k'), callers := cs, status := .running, dying := none } W
 rw [hg]; simp only [stepG.apply, Sem.runT_eq, hr1, GStep.bare_after]
 exact congrArg (fun fr => GStep.go { frame := fr, callers := cs, status := .running, dying := none } W) hfin
def dgoal {P : Program} (u : FrameMode) (R : Ending → FrameMode → World → Prop) : Goal P where
 ds := []
 ok b cs m := b.kind = .deferred → b.roundOf = none → ∀ c cs', cs = c :: cs' → c.mode = u →
  ∃ e u' w' fr, R e u' w' ∧ Comes P m (lone fr ({ c with mode := u' } :: cs') w') e ∧ fr.kind = .deferred ∧ fr.going P w' e
 back b cs m m1 hs h hk hr c cs' hc hu := by
  obtain ⟨e, u', w', fr, h1, h2, h3⟩ := h hk hr c cs' hc hu
  exact ⟨e, u', w', fr, h1, Comes.of_steps hs h2, h3⟩
theorem AtE.callsD {fn : Func} {args : List Value} {W : World} {u : FrameMode} {R : Ending → FrameMode → World → Prop} (hf : P.funcs[f]? = some fn) (hb : (fn.body.isSome, fn.ntmps, Nat.ble args.length nt) = (true, nt, true)) (hm : Mem L S w0 W)
  (h : AtE P f nt [.code (body fn)] (argsE 0 args) L S w0 (dgoal u R)) : CallsD P f ⟨args⟩ u W R := by
 simp only [Prod.mk.injEq] at hb
 obtain ⟨h1, h2, h3⟩ := hb
 obtain ⟨c, hc⟩ := Option.isSome_iff_exists.1 h1
 have hbd : body fn = c := by simp [body, hc]
 rw [hbd] at h
 have hle : args.length ≤ nt := Nat.le_of_ble_eq_true h3
 intro c₀ cs hu
 have henter : Frame.enter P f ⟨args⟩ .deferred =
   ({ (default : Frame) with fn := f, kind := .deferred } : Frame).at { tmps := (⟨args⟩ : Array Value) ++ Array.replicate (fn.ntmps - (⟨args⟩ : Array Value).size) undef, defers := [] } [.code c] := by
  simp [Frame.enter, Frame.at, hf, hc]
 rw [henter]
 have h9 : ∀ t, Knows nt (argsE 0 args) t → ∃ e u' w' fr, R e u' w' ∧ Comes P (lone (({ (default : Frame) with fn := f, kind := .deferred } : Frame).at ⟨t, []⟩ [.code c]) (c₀ :: cs) W) (lone fr ({ c₀ with mode := u' } :: cs) w') e ∧ fr.kind = .deferred ∧ fr.going P w' e := by
  intro t hk
  have := h t W hk hm { (default : Frame) with fn := f, kind := .deferred } (c₀ :: cs) rfl rfl rfl c₀ cs rfl hu
  rw [rt_none rfl] at this
  exact this
 refine h9 _ ⟨?_, ?_⟩
 ·simp [h2]; omega
 ·intro i v hv
  obtain ⟨_, hv⟩ := argsE_get args 0 i v hv
  simp only [Nat.sub_zero] at hv
  have hi : i < args.length := (List.getElem?_eq_some_iff.1 hv).1
  rw [Array.getElem?_append_left (by simpa using hi)]
  simpa using hv
def FinD (R : Ending → FrameMode → World → Prop) (u : FrameMode) (L : SHeap) (S : List Nat) (w0 : World) (v : Value) : Prop := ∀ W, Mem L S w0 W → R (.returned v) u W
theorem AtE.retG {R : Ending → FrameMode → World → Prop} {u : FrameMode} {fn : Func} {v : Value} {L1 : SHeap} (hf : P.funcs[f]? = some fn) (hv : (isRet k, retV e fn.results.toList, L) = (true, some v, L1)) (h : FinD R u L1 S w0 v) : AtE P f nt k e L S w0 (dgoal u R) := by
 simp only [Prod.mk.injEq] at hv
 obtain ⟨h1, hv, rfl⟩ := hv
 intro t W hk hm b cs hb hkd hro c cs' hc hu
 show ∃ e u' w' fr, R e u' w' ∧ Comes P (lone (rt b ⟨t, []⟩ k) cs W) (lone fr ({ c with mode := u' } :: cs') w') e ∧ fr.kind = .deferred ∧ fr.going P w' e
 rw [rt_none hro]
 have hres := results_run (P := P) hk hv W
 have hcm : ({ c with mode := u } : Frame) = c := by rw [← hu]
 unfold isRet at h1
 split at h1
 ·exact ⟨.returned v, u, W, { b.at ⟨t, []⟩ (.code .ret :: _) with mode := .returning }, h W hm, by rw [hcm, hc]; exact .one step_ret, hkd, rfl, rfl, fn, by rw [← hf, ← hb]; rfl, hres⟩
 ·exact ⟨.returned v, u, W, { b.at ⟨t, []⟩ [] with mode := .returning }, h W hm, by rw [hcm, hc]; exact .one step_end, hkd, rfl, rfl, fn, by rw [← hf, ← hb]; rfl, hres⟩
 ·cases h1
theorem AtE.recoverP {R : Ending → FrameMode → World → Prop} {v : Value} {older : List PanicEntry} (hc : cur nt k e = some (curO nt k e)) (hr : ∀ W, (execOp (rho e) (curO nt k e)).run P W = .ok .recover W)
  (hn : AtE P f nt (nextK k) (putE e (curDst nt k e) v) L S w0 (dgoal (.panicking ({ v, recovered := true } :: older)) R)) :
  AtE P f nt k e L S w0 (dgoal (.panicking ({ v, recovered := false } :: older)) R) := by
 intro t W hk hm b cs hb hkd hro c cs' hcs hu
 subst hcs
 show ∃ e u' w' fr, R e u' w' ∧ Comes P (lone (rt b ⟨t, []⟩ k) (c :: cs') W) (lone fr ({ c with mode := u' } :: cs') w') e ∧ fr.kind = .deferred ∧ fr.going P w' e
 rw [rt_none hro]
 generalize curO nt k e = o at hc hr
 obtain ⟨ops, i, rest, k', rfl, hoi, hw, hkn, hpl, hd⟩ := cur_spec hc
 have hr1 := hr W
 rw [← execOp_congr (Act.mk t []).eval (rho e) o hpl (hk.rho hkn [])] at hr1
 have hg := stepG_op (P := P) (b := b) (a := ⟨t, []⟩) (k := k') (cs := c :: cs') (w := W) (rest := rest) hoi (hk.wanted hw)
 have hnext := hn ((Act.mk t []).put o.dst v).tmps W (by have := hk.put hd v []; simpa only [curDst, hc] using this) hm b ({ c with mode := .panicking ({ v, recovered := true } :: older) } :: cs') hb hkd hro _ cs' rfl rfl
 obtain ⟨en, u', w', fr, h1, h2', h3⟩ := hnext
 have h2 : Comes P (lone (rt b ⟨((Act.mk t []).put o.dst v).tmps, []⟩ (.inRegion ops rest :: k')) _ W) (lone fr ({ c with mode := u' } :: cs') w') en := h2'
 rw [rt_none hro] at h2
 have htr := tryRecover_deferred (fr := b.at ⟨t, []⟩ (.inRegion ops (i :: rest) :: k')) hkd (c :: cs')
 have hrec : recoverD (c :: cs') = some (v, { c with mode := .panicking ({ v, recovered := true } :: older) } :: cs') := by
  simp [recoverD, hu]
 refine ⟨en, u', w', fr, h1, Comes.of_steps (.one (step_lone_go ?_)) h2, h3⟩
 have hfin : (b.at ⟨t, []⟩ (.inRegion ops (i :: rest) :: k')).finish v = b.at ⟨((Act.mk t []).put o.dst v).tmps, []⟩ (.inRegion ops rest :: k') := by
  rw [Frame.finish_at, hoi]; show b.at ((Act.mk t []).put o.dst v) _ = _; rw [put_eta]
 show GStep.bare (stepG P true { frame := b.at ⟨t, []⟩ (.inRegion ops (i :: rest) :: k'), callers := c :: cs', status := .running, dying := none } W) = GStep.go { frame := b.at ⟨((Act.mk t []).put o.dst v).tmps, []⟩ (.inRegion ops rest :: k'), callers := _, status := .running, dying := none } W
 rw [hg, ← hfin]
 simp only [Frame.at] at htr ⊢
 simp [stepG.apply, hr1, htr, hrec]
theorem AtE.recoverN {R : Ending → FrameMode → World → Prop} (hc : cur nt k e = some (curO nt k e)) (hr : ∀ W, (execOp (rho e) (curO nt k e)).run P W = .ok .recover W)
  (hn : AtE P f nt (nextK k) (putE e (curDst nt k e) .nilIface) L S w0 (dgoal .returning R)) :
  AtE P f nt k e L S w0 (dgoal .returning R) := by
 intro t W hk hm b cs hb hkd hro c cs' hcs hu
 subst hcs
 show ∃ e u' w' fr, R e u' w' ∧ Comes P (lone (rt b ⟨t, []⟩ k) (c :: cs') W) (lone fr ({ c with mode := u' } :: cs') w') e ∧ fr.kind = .deferred ∧ fr.going P w' e
 rw [rt_none hro]
 generalize curO nt k e = o at hc hr
 obtain ⟨ops, i, rest, k', rfl, hoi, hw, hkn, hpl, hd⟩ := cur_spec hc
 have hr1 := hr W
 rw [← execOp_congr (Act.mk t []).eval (rho e) o hpl (hk.rho hkn [])] at hr1
 have hg := stepG_op (P := P) (b := b) (a := ⟨t, []⟩) (k := k') (cs := c :: cs') (w := W) (rest := rest) hoi (hk.wanted hw)
 have hnext := hn ((Act.mk t []).put o.dst .nilIface).tmps W (by have := hk.put hd .nilIface []; simpa only [curDst, hc] using this) hm b (c :: cs') hb hkd hro c cs' rfl hu
 obtain ⟨en, u', w', fr, h1, h2', h3⟩ := hnext
 have h2 : Comes P (lone (rt b ⟨((Act.mk t []).put o.dst .nilIface).tmps, []⟩ (.inRegion ops rest :: k')) _ W) (lone fr ({ c with mode := u' } :: cs') w') en := h2'
 rw [rt_none hro] at h2
 have htr := tryRecover_deferred (fr := b.at ⟨t, []⟩ (.inRegion ops (i :: rest) :: k')) hkd (c :: cs')
 have hrec : recoverD (c :: cs') = none := by simp [recoverD, hu]
 refine ⟨en, u', w', fr, h1, Comes.of_steps (.one (step_lone_go ?_)) h2, h3⟩
 have hfin : (b.at ⟨t, []⟩ (.inRegion ops (i :: rest) :: k')).finish .nilIface = b.at ⟨((Act.mk t []).put o.dst .nilIface).tmps, []⟩ (.inRegion ops rest :: k') := by
  rw [Frame.finish_at, hoi]; show b.at ((Act.mk t []).put o.dst .nilIface) _ = _; rw [put_eta]
 show GStep.bare (stepG P true { frame := b.at ⟨t, []⟩ (.inRegion ops (i :: rest) :: k'), callers := c :: cs', status := .running, dying := none } W) = GStep.go { frame := b.at ⟨((Act.mk t []).put o.dst .nilIface).tmps, []⟩ (.inRegion ops rest :: k'), callers := _, status := .running, dying := none } W
 rw [hg, ← hfin]
 simp only [Frame.at] at htr ⊢
 simp [stepG.apply, hr1, htr, hrec]
end
section
variable {P : Program} {f nt : Nat} {L L0 : SHeap} {S : List Nat} {w0 : World} {ops : Array Oper}
def isIn (i : Nat) : List Nat → Bool
 | [] => false
 | j :: r => bif Nat.beq i j then true else isIn i r
theorem isIn_spec {i : Nat} : ∀ {l : List Nat}, isIn i l = true → i ∈ l
 | j :: r, h => by
  simp only [isIn] at h
  cases hb : Nat.beq i j with
  | true => rw [Nat.eq_of_beq_eq_true hb]; exact .head _
  | false => rw [hb] at h; exact .tail _ (isIn_spec h)
theorem isIn_no {i : Nat} : ∀ {l : List Nat}, isIn i l = false → i ∉ l
 | [], _ => by simp
 | j :: r, h => by
  simp only [isIn] at h
  cases hb : Nat.beq i j with
  | true => rw [hb] at h; cases h
  | false =>
   rw [hb] at h
   intro hm
   cases hm with
   | head => simp at hb
   | tail _ hm => exact isIn_no h hm
def allN (p : Nat → Bool) : Nat → Bool
 | 0 => true
 | n + 1 => bif p n then allN p n else false
theorem allN_spec {p : Nat → Bool} : ∀ {n : Nat}, allN p n = true → ∀ i, i < n → p i = true
 | n + 1, h, i, hi => by
  simp only [allN] at h
  cases hp : p n with
  | false => rw [hp] at h; cases h
  | true =>
   rw [hp] at h
   by_cases hc : i = n
   ·subst hc; exact hp
   ·exact allN_spec h i (by omega)
def anyN (p : Nat → Bool) : Nat → Bool
 | 0 => false
 | n + 1 => bif p n then true else anyN p n
theorem anyN_spec {p : Nat → Bool} : ∀ {n : Nat}, anyN p n = true → ∃ i, i < n ∧ p i = true
 | n + 1, h => by
  simp only [anyN] at h
  cases hp : p n with
  | true => exact ⟨n, by omega, hp⟩
  | false => rw [hp] at h; obtain ⟨i, hi, h⟩ := anyN_spec h; exact ⟨i, by omega, h⟩
def anyL (p : Nat → Bool) : List Nat → Bool
 | [] => false
 | i :: r => bif p i then true else anyL p r
theorem anyL_spec {p : Nat → Bool} : ∀ {l : List Nat}, anyL p l = true → ∃ i ∈ l, p i = true
 | i :: r, h => by
  simp only [anyL] at h
  cases hp : p i with
  | true => exact ⟨i, .head _, hp⟩
  | false => rw [hp] at h; obtain ⟨j, hj, h⟩ := anyL_spec h; exact ⟨j, .tail _ hj, h⟩
def allL (p : Nat → Bool) : List Nat → Bool
 | [] => true
 | i :: r => bif p i then allL p r else false
theorem allL_spec {p : Nat → Bool} : ∀ {l : List Nat}, allL p l = true → ∀ i ∈ l, p i = true
 | j :: r, h, i, hi => by
  simp only [allL] at h
  cases hp : p j with
  | false => rw [hp] at h; cases h
  | true =>
   rw [hp] at h
   cases hi with
   | head => exact hp
   | tail _ hi => exact allL_spec h i hi
def depsE : List Edge → List Nat
 | [] => []
 | e :: r => bif Region.binds .any e then e.on :: depsE r else depsE r
def deps (ops : Array Oper) (i : Nat) : List Nat := match ops[i]? with | some o => depsE o.after.toList | none => []
theorem depsE_mem : ∀ {l : List Edge} {e : Edge}, e ∈ l → Region.binds .any e = true → e.on ∈ depsE l
 | a :: r, e, h, hb => by
  simp only [depsE]
  cases h with
  | head => rw [hb]; exact .head _
  | tail _ h =>
   cases Region.binds .any a with
   | true => exact .tail _ (depsE_mem h hb)
   | false => exact depsE_mem h hb
theorem depsE_of : ∀ {l : List Edge} {j : Nat}, j ∈ depsE l → ∃ e ∈ l, Region.binds .any e = true ∧ e.on = j
 | a :: r, j, h => by
  simp only [depsE] at h
  cases hb : Region.binds .any a with
  | true =>
   rw [hb] at h
   cases h with
   | head => exact ⟨a, .head _, hb, rfl⟩
   | tail _ h => obtain ⟨e, he, h1, h2⟩ := depsE_of h; exact ⟨e, .tail _ he, h1, h2⟩
  | false => rw [hb] at h; obtain ⟨e, he, h1, h2⟩ := depsE_of h; exact ⟨e, .tail _ he, h1, h2⟩
def dstOf (ops : Array Oper) (i : Nat) : Option Tmp := match ops[i]? with | some o => o.dst | none => none
def tmpsOf : List Operand → List Nat
 | [] => []
 | .tmp t :: r => t :: tmpsOf r
 | _ :: r => tmpsOf r
theorem tmpsOf_mem {t : Nat} : ∀ {l : List Operand}, Operand.tmp t ∈ l → t ∈ tmpsOf l
 | .tmp u :: r, h => by
  simp only [tmpsOf]
  cases h with
  | head => exact .head _
  | tail _ h => exact .tail _ (tmpsOf_mem h)
 | .const _ :: r, h => by cases h with | tail _ h => exact tmpsOf_mem (l := r) h
 | .global _ :: r, h => by cases h with | tail _ h => exact tmpsOf_mem (l := r) h
 | .func _ :: r, h => by cases h with | tail _ h => exact tmpsOf_mem (l := r) h
def slotsOf (ops : Array Oper) (o : Oper) : List Nat :=
 (match o.guard with
  | some (j, _) => match dstOf ops j with | some d => [d] | none => []
  | none => []) ++ tmpsOf o.op.operands.toList
def slotsAt (ops : Array Oper) (i : Nat) : List Nat := match ops[i]? with | some o => slotsOf ops o | none => []
def On (ops : Array Oper) (o : Oper) (e : Env) (t : Array Value) : Prop := ∀ s ∈ slotsOf ops o, ∀ v, get? e s = some v → t[s]? = some v
theorem On.rho {o : Oper} {e : Env} {t : Array Value} (h : On ops o e t) (hk : known e o.op = true) (ds : List Deferred) : ∀ x ∈ o.op.operands.toList, (Act.mk t ds).eval x = rho e x := by
 intro x hx
 have := allSome_spec _ hk (Eng.ev e x) (List.mem_map.2 ⟨x, hx, rfl⟩)
 obtain ⟨v, hv⟩ := Option.isSome_iff_exists.1 this
 rw [Eng.rho, hv]
 cases x with
 | tmp i =>
  have := h i (List.mem_append_right _ (tmpsOf_mem hx)) v hv
  simp [Act.eval, Array.getD_eq_getD_getElem?, this]
 | const u => simp only [Eng.ev, Option.some.injEq] at hv; exact hv
 | global g => simp only [Eng.ev, Option.some.injEq] at hv; exact hv
 | func f => simp only [Eng.ev, Option.some.injEq] at hv; exact hv
theorem On.wanted {o : Oper} {e : Env} {t : Array Value} (h : On ops o e t) {b : Bool} (hw : wantedE ops e o = some b) : Region.wanted o (yielded ops t) = b := by
 unfold wantedE at hw
 unfold Region.wanted
 split at hw
 ·next hg => rw [hg]; simpa using hw
 ·next j want hg =>
  rw [hg]
  simp only
  unfold yielded
  split at hw
  ·next ho => rw [ho]; simp at hw; subst hw; rfl
  ·next oj ho =>
   rw [ho]
   simp only [Option.bind_some]
   split at hw
   ·next hd => rw [hd]; simp at hw; subst hw; rfl
   ·next d hd =>
    rw [hd]
    simp only [Option.bind_some]
    have hin : d ∈ slotsOf ops o := by simp [slotsOf, hg, dstOf, ho, hd]
    split at hw
    ·next b' hget =>
     rw [h d hin _ hget]
     cases b' <;> cases want <;> simp at hw <;> subst hw <;> rfl
    ·next vs hget =>
     rw [h d hin _ hget]
     simp at hw; subst hw; rfl
    ·cases hw
def StepQ (P : Program) (nt : Nat) (ops : Array Oper) (L : SHeap) (S : List Nat) (w0 : World) (i : Nat) (e : Env) (v : Value) : Prop :=
  ∃ o, ops[i]? = some o ∧ dstOk nt o.dst = true ∧
    ((wantedE ops e o = some true ∧ known e o.op = true ∧ plainOp o.op = true ∧
        ∀ W, Mem L S w0 W → (execOp (rho e) o).run P W = .ok (.value v) W ∨ ∃ g args, (execOp (rho e) o).run P W = .ok (.enter g args) W ∧ Calls P g args W fun en W' => en = .returned v ∧ Below W.heap.size W W') ∨
     (wantedE ops e o = some false ∧ v = undef))
def gext (a b : Env) : Prop := ∀ s, get? a s = get? b s
theorem gext.put {a b : Env} (h : gext a b) (d : Option Tmp) (v : Value) : gext (putE a d v) (putE b d v) := by
 cases d with
 | none => exact h
 | some d => intro s; simp only [putE, get?, h s]
theorem gext.ev {a b : Env} (h : gext a b) (x : Operand) : ev a x = ev b x := by cases x <;> simp [Eng.ev, h _]
theorem gext.rho {a b : Env} (h : gext a b) : rho a = rho b := by funext x; simp only [Eng.rho, h.ev x]
theorem gext.known {a b : Env} (h : gext a b) (o : Op) : known a o = known b o := by
 simp only [Eng.known]; congr 1; exact List.map_congr_left fun x _ => h.ev x
theorem gext.wanted {a b : Env} (h : gext a b) (o : Oper) : wantedE ops a o = wantedE ops b o := by
 unfold wantedE; split <;> try rfl
 split <;> try rfl
 split <;> try rfl
 rw [h _]
theorem StepQ.ext {i : Nat} {a b : Env} {v : Value} (h : StepQ P nt ops L S w0 i a v) (hx : gext a b) : StepQ P nt ops L S w0 i b v := by
 obtain ⟨o, h1, h2, h3⟩ := h
 refine ⟨o, h1, h2, ?_⟩
 rw [← hx.wanted o, ← hx.known, ← hx.rho]
 exact h3
def FreeF (P : Program) (nt : Nat) (ops : Array Oper) (L : SHeap) (S : List Nat) (w0 : World) (val : Nat → Value) : List Nat → Env → (Env → Prop) → Prop
 | [], e, K => K e
 | i :: r, e, K => StepQ P nt ops L S w0 i e (val i) ∧ FreeF P nt ops L S w0 val r (putE e (dstOf ops i) (val i)) K
theorem FreeF.ext {val : Nat → Value} {K : Env → Prop} (hK : ∀ a b, gext a b → K a → K b) : ∀ {F : List Nat} {a b : Env}, gext a b → FreeF P nt ops L S w0 val F a K → FreeF P nt ops L S w0 val F b K
 | [], _, _, hx, h => hK _ _ hx h
 | i :: r, _, _, hx, h => ⟨h.1.ext hx, FreeF.ext hK (hx.put _ _) h.2⟩
theorem FreeF.congr {val val' : Nat → Value} {K : Env → Prop} : ∀ {F : List Nat} {e : Env}, (∀ j ∈ F, val j = val' j) → FreeF P nt ops L S w0 val F e K → FreeF P nt ops L S w0 val' F e K
 | [], _, _, h => h
 | i :: r, e, hv, h => by
  have hi := hv i (.head _)
  refine ⟨hi ▸ h.1, ?_⟩
  rw [← hi]
  exact FreeF.congr (fun j hj => hv j (.tail _ hj)) h.2
def Src' (ops : Array Oper) (val : Nat → Value) (F : List Nat) (e e' : Env) : Prop := ∀ s v, get? e' s = some v → get? e s = some v ∨ ∃ j ∈ F, dstOf ops j = some s ∧ val j = v
theorem Src'.put {val : Nat → Value} {F : List Nat} {e e' : Env} (h : Src' ops val F e e') {i : Nat} (hi : i ∈ F) : Src' ops val F e (putE e' (dstOf ops i) (val i)) := by
 intro s v hs
 cases hd : dstOf ops i with
 | none => rw [hd] at hs; exact h s v hs
 | some d =>
  rw [hd] at hs
  simp only [putE, get?] at hs
  cases hb : Nat.beq d s with
  | true =>
   rw [hb] at hs
   simp only [cond_true, Option.some.injEq] at hs
   exact .inr ⟨i, hi, by rw [hd, Nat.eq_of_beq_eq_true hb], hs⟩
  | false => rw [hb] at hs; exact h s v hs
theorem FreeF.get {val : Nat → Value} {K : Env → Prop} {F0 : List Nat} {e0 : Env} : ∀ {F : List Nat} {e : Env}, (∀ i ∈ F, i ∈ F0) → Src' ops val F0 e0 e → FreeF P nt ops L S w0 val F e K →
  (∀ i ∈ F, ∃ e', StepQ P nt ops L S w0 i e' (val i) ∧ Src' ops val F0 e0 e') ∧ ∃ e', K e' ∧ Src' ops val F0 e0 e'
 | [], e, _, hs, h => ⟨fun i hi => (by cases hi), e, h, hs⟩
 | i :: r, e, hF, hs, h => by
  obtain ⟨h1, h2⟩ := FreeF.get (fun j hj => hF j (.tail _ hj)) (hs.put (hF i (.head _))) h.2
  refine ⟨fun j hj => ?_, h2⟩
  cases hj with
  | head => exact ⟨e, h.1, hs⟩
  | tail _ hj => exact h1 j hj
def AtF (P : Program) (nt : Nat) (k : List Item) (e : Env) (L : SHeap) (S : List Nat) (w0 : World) (K : Env → Prop) : Prop :=
 ∀ ops F, k = [.inRegion ops F] → F.Nodup → ∃ val, FreeF P nt ops L S w0 val F e fun e' => ∃ eF, (∀ s v, get? eF s = some v → get? e' s = some v) ∧ K eF
variable {k : List Item} {e : Env} {K : Env → Prop}
def doneK : List Item → Bool
 | [.inRegion _ []] => true
 | _ => false
theorem AtF.done (h : doneK k = true) (hn : K e) : AtF P nt k e L S w0 K := by
 intro ops' F hk _
 rw [hk] at h
 unfold doneK at h
 split at h
 ·next hh =>
  simp only [List.cons.injEq, Item.inRegion.injEq, and_true] at hh
  obtain ⟨_, rfl⟩ := hh
  exact ⟨fun _ => undef, e, fun _ _ h => h, hn⟩
 ·cases h
theorem AtF.push {i : Nat} {v : Value} (h : get? e i = some v) (hn : AtF P nt k ((i, v) :: e) L S w0 K) : AtF P nt k e L S w0 K := by
 intro ops F hk hF
 obtain ⟨val, hf⟩ := hn ops F hk hF
 refine ⟨val, FreeF.ext ?_ (fun s => ?_) hf⟩
 ·rintro a b hx ⟨eF, h1, h2⟩
  exact ⟨eF, fun s v hs => by rw [← hx s]; exact h1 s v hs, h2⟩
 ·simp only [get?]
  cases hb : Nat.beq i s with
  | true => rw [← Nat.eq_of_beq_eq_true hb, h]; rfl
  | false => rfl
theorem AtF.opQ {o : Oper} {v : Value} (hc : cur nt k e = some o)
  (hr : ∀ W, Mem L S w0 W → (execOp (rho e) o).run P W = .ok (.value v) W ∨ ∃ g args, (execOp (rho e) o).run P W = .ok (.enter g args) W ∧ Calls P g args W fun en W' => en = .returned v ∧ Below W.heap.size W W')
  (hn : AtF P nt (nextK k) (putE e (curDst nt k e) v) L S w0 K) : AtF P nt k e L S w0 K := by
 intro ops F hk hF
 obtain ⟨ops', i, rest, k', rfl, ho, hw, hkn, hp, hd⟩ := cur_spec hc
 simp only [List.cons.injEq, Item.inRegion.injEq] at hk
 obtain ⟨⟨rfl, rfl⟩, rfl⟩ := hk
 have hcd : curDst nt (.inRegion ops' (i :: rest) :: []) e = o.dst := by simp only [curDst, hc]
 rw [hcd] at hn
 obtain ⟨val, hf⟩ := hn ops' rest rfl (List.nodup_cons.1 hF).2
 have hni := (List.nodup_cons.1 hF).1
 have hdo : dstOf ops' i = o.dst := by simp only [dstOf, ho]
 refine ⟨fun j => if j = i then v else val j, ?_, ?_⟩
 ·show StepQ P nt ops' L S w0 i e (if i = i then v else val i)
  rw [if_pos rfl]
  exact ⟨o, ho, hd, .inl ⟨hw, hkn, hp, hr⟩⟩
 ·simp only [if_true, hdo]
  exact FreeF.congr (fun j hj => by rw [if_neg (fun h : j = i => hni (h ▸ hj))]) hf
theorem AtF.opV {o : Oper} {v : Value} (hc : cur nt k e = some o) (hr : ∀ W, Mem L S w0 W → (execOp (rho e) o).run P W = .ok (.value v) W)
  (hn : AtF P nt (nextK k) (putE e (curDst nt k e) v) L S w0 K) : AtF P nt k e L S w0 K :=
 AtF.opQ hc (fun W hm => .inl (hr W hm)) hn
theorem OpV.F {v : Value} (h : OpV P nt k e L S w0 v) (hn : AtF P nt (nextK k) (putE e (curDst nt k e) v) L S w0 K) : AtF P nt k e L S w0 K := let ⟨_, h1, h2⟩ := h; AtF.opV h1 h2 hn
theorem AtF.pure (hc : cur nt k e = some (curO nt k e)) (h : ∀ W, (execOp (rho e) (curO nt k e)).run P W = .ok (.value (vQ P nt k e)) W)
  (hn : AtF P nt (nextK k) (putE e (curDst nt k e) (vQ P nt k e)) L S w0 K) : AtF P nt k e L S w0 K :=
 AtF.opV hc (fun W _ => h W) hn
theorem AtF.skip (h : skipO nt k e = some (skipD nt k e)) (hn : AtF P nt (nextK k) (putE e (skipD nt k e) undef) L S w0 K) : AtF P nt k e L S w0 K := by
 intro ops F hk hF
 generalize skipD nt k e = d at h hn
 unfold skipO at h
 split at h
 ·next ops' i rest k' =>
  simp only [List.cons.injEq, Item.inRegion.injEq] at hk
  obtain ⟨⟨rfl, rfl⟩, rfl⟩ := hk
  split at h
  ·next o ho =>
   split at h
   ·next hw =>
    cases hd : dstOk nt o.dst with
    | false => simp [hd] at h
    | true =>
     simp only [hd, cond_true, Option.some.injEq] at h
     subst h
     obtain ⟨val, hf⟩ := hn ops' rest rfl (List.nodup_cons.1 hF).2
     have hni := (List.nodup_cons.1 hF).1
     have hdo : dstOf ops' i = o.dst := by simp only [dstOf, ho]
     refine ⟨fun j => if j = i then undef else val j, ?_, ?_⟩
     ·show StepQ P nt ops' L S w0 i e (if i = i then undef else val i)
      rw [if_pos rfl]
      exact ⟨o, ho, hd, .inr ⟨hw, rfl⟩⟩
     ·simp only [if_true, hdo]
      exact FreeF.congr (fun j hj => by rw [if_neg (fun h : j = i => hni (h ▸ hj))]) hf
   ·cases h
  ·cases h
 ·cases h
def QCallB (P : Program) (g : FuncId) (args : Array Value) (L : SHeap) (S : List Nat) (w0 : World) (v : Value) : Prop := ∀ W, Mem L S w0 W → Calls P g args W fun en W' => en = .returned v ∧ Below W.heap.size W W'
theorem QCallB.of {g : FuncId} {args : Array Value} {v : Value} (h : PureC P g args v) : QCallB P g args L S w0 v := fun W _ => h W
theorem AtF.call (g : FuncId) (args : Array Value) {v : Value} {L1 : SHeap} (hr : ∀ W, (execOp (rho e) (curO nt k e)).run P W = .ok (.enter g args) W) (hc : (cur nt k e, L) = (some (curO nt k e), L1)) (h : QCallB P g args L1 S w0 v)
  (hn : AtF P nt (nextK k) (putE e (curDst nt k e) v) L1 S w0 K) : AtF P nt k e L S w0 K := by
 simp only [Prod.mk.injEq] at hc
 obtain ⟨hc, rfl⟩ := hc
 exact AtF.opQ hc (fun W hm => .inr ⟨g, args, hr W, h W hm⟩) hn
def LoudOp (P : Program) (nt : Nat) (ops : Array Oper) (L : SHeap) (S : List Nat) (w0 : World) (m : Nat) (E : Env) (K : Value → SHeap → Prop) : Prop :=
  ∃ o, ops[m]? = some o ∧ dstOk nt o.dst = true ∧
    ((wantedE ops E o = some true ∧ known E o.op = true ∧ plainOp o.op = true ∧
        ∀ W, Mem L S w0 W → (∃ v L' W', (execOp (rho E) o).run P W = .ok (.value v) W' ∧ Mem L' S w0 W' ∧ K v L') ∨
          (∃ L' W', (execOp (rho E) o).run P W = .ok .skip W' ∧ Mem L' S w0 W' ∧ K undef L') ∨
          ∃ g args, (execOp (rho E) o).run P W = .ok (.enter g args) W ∧ Calls P g args W fun en W' => ∃ v L', en = .returned v ∧ Mem L' S w0 W' ∧ K v L') ∨
     (wantedE ops E o = some false ∧ K undef L))
def firstN (n s : Nat) : Array Bool := ⟨List.replicate n true ++ List.replicate (s - n) false⟩
def AtD (P : Program) (f nt : Nat) (ops : Array Oper) (n : Nat) (kk : List Item) (e : Env) (L : SHeap) (S : List Nat) (w0 : World) (R : Goal P) : Prop :=
 ∀ t, AtE P f nt (.inRegion ops (Region.linearise.go .any ops (ops.size - n) t (firstN n ops.size) []) :: kk) e L S w0 R
def AtMl (P : Program) (f nt : Nat) (ops : Array Oper) (n : Nat) (kk : List Item) (L0 : SHeap) (S : List Nat) (w0 : World) (R : Goal P) : List Nat → Env → SHeap → Prop
 | [], E, L => (∃ L1, L = L0 ++ L1) ∧ AtD P f nt ops n kk E L S w0 R
 | m :: r, E, L => (∃ L1, L = L0 ++ L1) ∧ LoudOp P nt ops L S w0 m E fun v L' => AtMl P f nt ops n kk L0 S w0 R r (putE E (dstOf ops m) v) L'
def AtM (P : Program) (f nt : Nat) (ops : Array Oper) (n : Nat) (kk : List Item) (L0 : SHeap) (k : List Item) (e : Env) (L : SHeap) (S : List Nat) (w0 : World) (R : Goal P) : Prop :=
 ∀ M, k = [.inRegion ops M] → AtMl P f nt ops n kk L0 S w0 R M e L
variable {n : Nat} {kk : List Item} {R : Goal P}
theorem AtM.done (L1 : SHeap) (h : k = [.inRegion ops []]) (hl : L = L0 ++ L1) (hn : AtD P f nt ops n kk e L S w0 R) : AtM P f nt ops n kk L0 k e L S w0 R := by
 intro M hk
 rw [h] at hk
 simp only [List.cons.injEq, Item.inRegion.injEq, true_and, and_true] at hk
 subst hk
 exact ⟨⟨L1, hl⟩, hn⟩
theorem AtM.new (L1 : SHeap) (mk : Nat → Value) (o : Obj) (hl : L = L0 ++ L1) (h : ∀ W, (execOp (rho e) (curO nt k e)).run P W = .ok (.value (mk W.heap.size)) { W with heap := W.heap.push o }) (hc : cur nt k e = some (curO nt k e))
  (hn : ∀ B, AtM P f nt ops n kk L0 (nextK k) (putE e (curDst nt k e) (mk B)) (L ++ [(B, o)]) S w0 R) : AtM P f nt ops n kk L0 k e L S w0 R := by
 intro M hk
 have hcd : curDst nt k e = (curO nt k e).dst := by simp only [curDst, hc]
 rw [hcd] at hn
 generalize curO nt k e = o' at h hc hn
 obtain ⟨ops', i, rest, k', rfl, ho, hw, hkn, hp, hd⟩ := cur_spec hc
 simp only [List.cons.injEq, Item.inRegion.injEq] at hk
 obtain ⟨⟨rfl, rfl⟩, rfl⟩ := hk
 have hdo : dstOf ops' i = o'.dst := by simp only [dstOf, ho]
 refine ⟨⟨L1, hl⟩, o', ho, hd, .inl ⟨hw, hkn, hp, fun W hm => .inl ⟨mk W.heap.size, _, _, h W, hm.alloc o, ?_⟩⟩⟩
 rw [hdo]
 exact hn W.heap.size rest rfl
theorem AtM.call (L1 : SHeap) (g : FuncId) (args : Array Value) {L2 : SHeap} {K : Value → SHeap → Prop} (hl : L = L0 ++ L1) (hr : ∀ W, (execOp (rho e) (curO nt k e)).run P W = .ok (.enter g args) W)
  (hc : (cur nt k e, L) = (some (curO nt k e), L2)) (h : CallH P g args L2 S w0 K)
  (hn : ∀ v L', K v L' → AtM P f nt ops n kk L0 (nextK k) (putE e (curDst nt k e) v) L' S w0 R) : AtM P f nt ops n kk L0 k e L S w0 R := by
 intro M hk
 simp only [Prod.mk.injEq] at hc
 obtain ⟨hc, rfl⟩ := hc
 have hcd : curDst nt k e = (curO nt k e).dst := by simp only [curDst, hc]
 rw [hcd] at hn
 generalize curO nt k e = o' at hr hc hn
 obtain ⟨ops', i, rest, k', rfl, ho, hw, hkn, hp, hd⟩ := cur_spec hc
 simp only [List.cons.injEq, Item.inRegion.injEq] at hk
 obtain ⟨⟨rfl, rfl⟩, rfl⟩ := hk
 have hdo : dstOf ops' i = o'.dst := by simp only [dstOf, ho]
 refine ⟨⟨L1, hl⟩, o', ho, hd, .inl ⟨hw, hkn, hp, fun W hm => .inr (.inr ⟨g, args, hr W, (h W hm).mono fun en W' hh => ?_⟩)⟩⟩
 obtain ⟨v, L', he, hm', hK⟩ := hh
 refine ⟨v, L', he, hm', ?_⟩
 rw [hdo]
 exact hn v L' hK rest rfl
theorem AtM.opK (L1 : SHeap) {o' : Oper} {L' : SHeap} (hl : L = L0 ++ L1) (hc : cur nt k e = some o') (hr : ∀ W, Mem L S w0 W → ∃ W', (execOp (rho e) o').run P W = .ok .skip W' ∧ Mem L' S w0 W')
  (hn : AtM P f nt ops n kk L0 (nextK k) (putE e (curDst nt k e) undef) L' S w0 R) : AtM P f nt ops n kk L0 k e L S w0 R := by
 intro M hk
 have hcd : curDst nt k e = o'.dst := by simp only [curDst, hc]
 rw [hcd] at hn
 obtain ⟨ops', i, rest, k', rfl, ho, hw, hkn, hp, hd⟩ := cur_spec hc
 simp only [List.cons.injEq, Item.inRegion.injEq] at hk
 obtain ⟨⟨rfl, rfl⟩, rfl⟩ := hk
 have hdo : dstOf ops' i = o'.dst := by simp only [dstOf, ho]
 refine ⟨⟨L1, hl⟩, o', ho, hd, .inl ⟨hw, hkn, hp, fun W hm => .inr (.inl ?_)⟩⟩
 obtain ⟨W', h1, h2⟩ := hr W hm
 refine ⟨L', W', h1, h2, ?_⟩
 rw [hdo]
 exact hn rest rfl
theorem AtM.opW (L1 : SHeap) {o' : Oper} (hl : L = L0 ++ L1) (hc : cur nt k e = some o')
  (hr : ∀ W, Mem L S w0 W → ∃ v L' W', (execOp (rho e) o').run P W = .ok (.value v) W' ∧ Mem L' S w0 W' ∧ AtM P f nt ops n kk L0 (nextK k) (putE e (curDst nt k e) v) L' S w0 R) : AtM P f nt ops n kk L0 k e L S w0 R := by
 intro M hk
 have hcd : curDst nt k e = o'.dst := by simp only [curDst, hc]
 rw [hcd] at hr
 obtain ⟨ops', i, rest, k', rfl, ho, hw, hkn, hp, hd⟩ := cur_spec hc
 simp only [List.cons.injEq, Item.inRegion.injEq] at hk
 obtain ⟨⟨rfl, rfl⟩, rfl⟩ := hk
 have hdo : dstOf ops' i = o'.dst := by simp only [dstOf, ho]
 refine ⟨⟨L1, hl⟩, o', ho, hd, .inl ⟨hw, hkn, hp, fun W hm => .inl ?_⟩⟩
 obtain ⟨v, L', W', h1, h2, h3⟩ := hr W hm
 refine ⟨v, L', W', h1, h2, ?_⟩
 rw [hdo]
 exact h3 rest rfl
def hasDst (ops : Array Oper) (j : Nat) (l : List Nat) : Bool := match dstOf ops j with | some d => isIn d l | none => false
def sameDst (ops : Array Oper) (i j : Nat) : Bool := match dstOf ops i with
 | some d => match dstOf ops j with | some d' => Nat.beq d d' | none => false
 | none => false
def bothB (a b : Bool) : Bool := bif a then b else true
def chainM (ops : Array Oper) : List Nat → Bool
 | [] => true
 | [_] => true
 | a :: b :: r => bif isIn a (deps ops b) then chainM ops (b :: r) else false
def ndB : List Nat → Bool
 | [] => true
 | a :: r => bif isIn a r then false else ndB r
def freeOf (e : Env) (o : Option Tmp) : Bool := match o with | some d => (match get? e d with | some _ => false | none => true) | none => true
def chainU (ops : Array Oper) (n : Nat) : Bool := allN (fun t => bif Nat.ble t n then true else anyL (fun s => Nat.ble n s) (deps ops t)) ops.size
def planB (ops : Array Oper) (n1 n : Nat) (e : Env) (F M : List Nat) : Bool :=
 Nat.ble n1 n && (Nat.ble n ops.size && ((Nat.beq n ops.size || (allN (fun i => bif Nat.blt i n1 then true else anyN (fun j => bif Nat.blt i j then isIn i (deps ops j) else false) (n + 1)) n && chainU ops n)) &&
  (allN (fun i => bif Nat.blt i n1 then true else bif isIn i F then !isIn i M else isIn i M) n && (ndB F && (ndB M && (allL (fun i => Nat.ble n1 i && Nat.blt i n) F && (allL (fun i => Nat.ble n1 i && Nat.blt i n) M &&
  (allN (fun i => allL (fun j => Nat.blt j i) (deps ops i)) n && (allN (fun i => bif Nat.blt i n1 then true else freeOf e (dstOf ops i)) n && (chainM ops M &&
  allN (fun i => bif Nat.blt i n1 then true else allN (fun j => bif Nat.blt j n1 then true else bothB (hasDst ops j (slotsAt ops i)) (isIn j (deps ops i)) && bothB (sameDst ops i j) (Nat.beq i j)) n) n))))))))))
theorem ndB_spec : ∀ {l : List Nat}, ndB l = true → l.Nodup
 | [], _ => by simp
 | a :: r, h => by
  simp only [ndB] at h
  cases hb : isIn a r with
  | true => rw [hb] at h; cases h
  | false => rw [hb] at h; exact List.nodup_cons.2 ⟨isIn_no hb, ndB_spec h⟩
theorem isIn_of {i : Nat} {l : List Nat} (h : i ∈ l) : isIn i l = true := by
 cases hb : isIn i l with
 | true => rfl
 | false => exact absurd h (isIn_no hb)
structure Plan (ops : Array Oper) (n1 n : Nat) (e : Env) (F M : List Nat) : Prop where
 le1 : n1 ≤ n
 le : n ≤ ops.size
 sink : n < ops.size → (∀ i, n1 ≤ i → i < n → ∃ j, i < j ∧ j ≤ n ∧ i ∈ deps ops j) ∧ ∀ t, n < t → t < ops.size → ∃ s ∈ deps ops t, n ≤ s
 cover : ∀ i, n1 ≤ i → i < n → i ∈ F ∨ i ∈ M
 apart : ∀ i ∈ F, i ∉ M
 nodF : F.Nodup
 nodM : M.Nodup
 inF : ∀ i ∈ F, n1 ≤ i ∧ i < n
 inM : ∀ i ∈ M, n1 ≤ i ∧ i < n
 back : ∀ i, i < n → ∀ j ∈ deps ops i, j < i
 fresh : ∀ i, n1 ≤ i → i < n → ∀ d, dstOf ops i = some d → get? e d = none
 chain : chainM ops M = true
 reads : ∀ i, n1 ≤ i → i < n → ∀ j, n1 ≤ j → j < n → ∀ d, dstOf ops j = some d → d ∈ slotsAt ops i → j ∈ deps ops i
 dst : ∀ i, n1 ≤ i → i < n → ∀ j, n1 ≤ j → j < n → ∀ d, dstOf ops i = some d → dstOf ops j = some d → i = j
theorem blt_no {a b : Nat} (h : b ≤ a) : Nat.blt a b = false := by
 cases hb : Nat.blt a b with
 | false => rfl
 | true => simp only [Nat.blt_eq] at hb; omega
theorem Plan.of {n1 : Nat} {F M : List Nat} (h : planB ops n1 n e F M = true) : Plan ops n1 n e F M := by
 simp only [planB, Bool.and_eq_true, Bool.or_eq_true] at h
 obtain ⟨h1, h2, h3, h5, h6, h7, h8, h9, h10, h11, h12, h13⟩ := h
 have hF : ∀ i ∈ F, n1 ≤ i ∧ i < n := fun i hi => by
  have := allL_spec h8 i hi
  simp only [Bool.and_eq_true, Nat.blt_eq] at this
  exact ⟨Nat.le_of_ble_eq_true this.1, this.2⟩
 have hM : ∀ i ∈ M, n1 ≤ i ∧ i < n := fun i hi => by
  have := allL_spec h9 i hi
  simp only [Bool.and_eq_true, Nat.blt_eq] at this
  exact ⟨Nat.le_of_ble_eq_true this.1, this.2⟩
 refine ⟨Nat.le_of_ble_eq_true h1, Nat.le_of_ble_eq_true h2, fun hlt => ?_, fun i hi1 hi => ?_, fun i hi hm => ?_, ndB_spec h6, ndB_spec h7, hF, hM, fun i hi j hj => ?_, fun i hi1 hi d hd => ?_, h12, fun i hi1 hi j hj1 hj d hd hs => ?_, fun i hi1 hi j hj1 hj d hd hd' => ?_⟩
 ·rcases h3 with h3 | ⟨h3, h4⟩
  ·have := Nat.eq_of_beq_eq_true h3; omega
  ·refine ⟨fun i hi1 hi => ?_, fun t ht hts => ?_⟩
   ·have := allN_spec h3 i hi
    simp only [blt_no hi1, cond_false] at this
    obtain ⟨j, hj, hb⟩ := anyN_spec this
    cases hc : Nat.blt i j with
    | false => rw [hc] at hb; cases hb
    | true =>
     rw [hc] at hb
     simp only [Nat.blt_eq] at hc
     exact ⟨j, hc, by omega, isIn_spec hb⟩
   ·have := allN_spec h4 t hts
    have hn : Nat.ble t n = false := by
     cases hb : Nat.ble t n with
     | false => rfl
     | true => have := Nat.le_of_ble_eq_true hb; omega
    rw [hn] at this
    obtain ⟨s, hs, hb⟩ := anyL_spec this
    exact ⟨s, hs, Nat.le_of_ble_eq_true hb⟩
 ·have := allN_spec h5 i hi
  simp only [blt_no hi1, cond_false] at this
  cases hb : isIn i F with
  | true => exact .inl (isIn_spec hb)
  | false => rw [hb] at this; exact .inr (isIn_spec this)
 ·have := allN_spec h5 i (hF i hi).2
  simp only [blt_no (hF i hi).1, cond_false, isIn_of hi, isIn_of hm] at this
  cases this
 ·have := allL_spec (allN_spec h10 i hi) j hj
  simpa [Nat.blt_eq] using this
 ·have := allN_spec h11 i hi
  simp only [blt_no hi1, cond_false, hd, freeOf] at this
  cases hg : get? e d with
  | none => rfl
  | some u => rw [hg] at this; cases this
 ·have := allN_spec h13 i hi
  simp only [blt_no hi1, cond_false] at this
  have := allN_spec this j hj
  simp only [blt_no hj1, cond_false, Bool.and_eq_true, hasDst, hd, isIn_of hs, bothB, cond_true] at this
  exact isIn_spec this.1
 ·have := allN_spec h13 i hi
  simp only [blt_no hi1, cond_false] at this
  have := allN_spec this j hj
  have hbb : Nat.beq d d = true := by simp
  simp only [blt_no hj1, cond_false, Bool.and_eq_true, sameDst, hd, hd', hbb, bothB, cond_true] at this
  exact Nat.eq_of_beq_eq_true this.2
theorem Plan.waits {n1 : Nat} {F M : List Nat} (hp : Plan ops n1 n e F M) (hlt : n < ops.size) {listed : Array Bool} (inv : HeadInv .any ops n listed) (hlow : ∀ j, j < n1 → listed.getD j false = true) :
  ∀ (d i : Nat), n - i = d → i < n → listed.getD i false = false → ∀ t, n ≤ t → t ∉ Region.ready .any ops listed := by
 obtain ⟨hs, hc⟩ := hp.sink hlt
 intro d
 induction d using Nat.strongRecOn with
 | _ d ih =>
  intro i hd hi hun t ht hr
  have hi1 : n1 ≤ i := by
   rcases Nat.lt_or_ge i n1 with h | h
   ·rw [hlow i h] at hun; cases hun
   ·exact h
  obtain ⟨_, ot, hot, hall⟩ := mem_ready.1 hr
  have htlt : t < ops.size := (Array.getElem?_eq_some_iff.1 hot).1
  have hdep : ∀ j ∈ deps ops t, listed.getD j false = true := fun j hj => by
   simp only [deps, hot] at hj
   obtain ⟨ed, hed, hb, rfl⟩ := depsE_of hj
   exact hall ed (Array.mem_toList_iff.1 hed) hb
  by_cases htn : t = n
  ·subst htn
   obtain ⟨j, hij, hjn, hjd⟩ := hs i hi1 hi
   by_cases hjt : j = t
   ·subst hjt
    rw [hdep i hjd] at hun; cases hun
   ·cases hl : listed.getD j false with
    | true =>
     have hjs : j < ops.size := by omega
     simp only [deps, Array.getElem?_eq_getElem hjs] at hjd
     obtain ⟨ed, hed, hb, rfl⟩ := depsE_of hjd
     rw [inv.closed j _ (Array.getElem?_eq_getElem hjs) hl ed (Array.mem_toList_iff.1 hed) hb] at hun
     cases hun
    | false => exact ih (t - j) (by omega) j rfl (by omega) hl t (Nat.le_refl _) hr
  ·obtain ⟨s, hs1, hs2⟩ := hc t (by omega) htlt
   have h2 := hdep s hs1
   have hss : s < ops.size := by
    rcases Nat.lt_or_ge s listed.size with h | h
    ·rw [inv.size] at h; exact h
    ·simp [Array.getElem?_eq_none h] at h2
   rw [getD_both (inv.tail s hs2 hss)] at h2
   cases h2
theorem firstN_get {n s j : Nat} : (firstN n s)[j]? = if j < n then some true else if j < n + (s - n) then some false else none := by
 simp only [firstN, List.getElem?_toArray]
 split
 ·next h => rw [List.getElem?_append_left (by simpa using h), List.getElem?_replicate, if_pos h]
 ·next h =>
  rw [List.getElem?_append_right (by simpa using h), List.getElem?_replicate, List.length_replicate]
  split
  ·next h' => rw [if_pos (by omega)]
  ·next h' => rw [if_neg (by omega)]
theorem firstN_lt {n s j : Nat} (h : j < n) : (firstN n s).getD j false = true := by rw [Array.getD_eq_getD_getElem?, firstN_get, if_pos h]; rfl
theorem firstN_ge {n s j : Nat} (h : n ≤ j) : (firstN n s).getD j false = false := by
 rw [Array.getD_eq_getD_getElem?, firstN_get, if_neg (by omega)]
 split <;> rfl
theorem firstN_size {n s : Nat} (h : n ≤ s) : (firstN n s).size = s := by simp [firstN]; omega
theorem firstN_zero (s : Nat) : firstN 0 s = Array.replicate s false := by simp [firstN, ← List.toArray_replicate]
theorem chainM_head {h : Nat} : ∀ {r : List Nat}, chainM ops (h :: r) = true → ∀ m ∈ r, ∃ p ∈ h :: r, p ∈ deps ops m
 | b :: r, hc, m, hm => by
  simp only [chainM] at hc
  cases hb : isIn h (deps ops b) with
  | false => rw [hb] at hc; cases hc
  | true =>
   rw [hb] at hc
   cases hm with
   | head => exact ⟨h, .head _, isIn_spec hb⟩
   | tail _ hm =>
    obtain ⟨p, hp, hpd⟩ := chainM_head (h := b) hc m hm
    exact ⟨p, .tail _ hp, hpd⟩
theorem chainM_tail {h : Nat} : ∀ {r : List Nat}, chainM ops (h :: r) = true → chainM ops r = true
 | [], _ => rfl
 | b :: r, hc => by
  simp only [chainM] at hc
  cases hb : isIn h (deps ops b) with
  | false => rw [hb] at hc; cases hc
  | true => rw [hb] at hc; exact hc
def cntF (listed : Array Bool) : Nat → Nat
 | 0 => 0
 | n + 1 => cntF listed n + bif listed.getD n false then 0 else 1
theorem cntF_ge {listed : Array Bool} {i : Nat} : ∀ {n : Nat}, n ≤ i → cntF (listed.setIfInBounds i true) n = cntF listed n
 | 0, _ => rfl
 | n + 1, h => by simp only [cntF]; rw [cntF_ge (by omega), getD_set_ne false (by omega)]
theorem cntF_set {listed : Array Bool} {i : Nat} (hi : i < listed.size) (hu : listed.getD i false = false) : ∀ {n : Nat}, i < n → cntF listed n = cntF (listed.setIfInBounds i true) n + 1
 | n + 1, h => by
  simp only [cntF]
  by_cases hc : i = n
  ·subst hc
   rw [cntF_ge (Nat.le_refl _), hu]
   have : (listed.setIfInBounds i true).getD i false = true := by simp [hi]
   rw [this]; rfl
  ·rw [cntF_set hi hu (by omega), getD_set_ne false hc]; omega
theorem cntF_zero {listed : Array Bool} : ∀ {n : Nat}, cntF listed n = 0 → ∀ i, i < n → listed.getD i false = true
 | n + 1, h, i, hi => by
  simp only [cntF] at h
  by_cases hc : i = n
  ·subst hc
   cases hb : listed.getD i false with
   | true => rfl
   | false => rw [hb] at h; simp at h
  ·exact cntF_zero (listed := listed) (n := n) (by omega) i (by omega)
theorem cntF_full {listed : Array Bool} : ∀ {n : Nat}, (∀ i, i < n → listed.getD i false = true) → cntF listed n = 0
 | 0, _ => rfl
 | n + 1, h => by simp only [cntF]; rw [cntF_full fun i hi => h i (by omega), h n (by omega)]; rfl
theorem cntF_first {n1 s : Nat} : ∀ {n : Nat}, n1 ≤ n → cntF (firstN n1 s) n = n - n1
 | 0, _ => by simp [cntF]
 | n + 1, h => by
  simp only [cntF]
  by_cases hc : n1 = n + 1
  ·subst hc
   rw [cntF_full (fun i hi => firstN_lt (by omega)), firstN_lt (by omega)]; simp
  ·rw [cntF_first (by omega), firstN_ge (by omega)]
   show n - n1 + 1 = n + 1 - n1
   omega
theorem least_un {listed : Array Bool} {n : Nat} (h : cntF listed n ≠ 0) : ∃ i, i < n ∧ listed.getD i false = false ∧ ∀ j, j < i → listed.getD j false = true := by
 have hex : ∃ i, i < n ∧ listed.getD i false = false := by
  apply Classical.byContradiction
  intro hno
  refine h (cntF_full fun i hi => ?_)
  cases hb : listed.getD i false with
  | true => rfl
  | false => exact absurd ⟨i, hi, hb⟩ hno
 obtain ⟨i, hi, hb⟩ := hex
 induction i using Nat.strongRecOn with
 | _ i ih =>
  by_cases hex : ∃ j, j < i ∧ listed.getD j false = false
  ·obtain ⟨j, hj, hjb⟩ := hex
   exact ih j hj (by omega) hjb
  ·refine ⟨i, hi, hb, fun j hj => ?_⟩
   cases hb' : listed.getD j false with
   | true => rfl
   | false => exact absurd ⟨j, hj, hb'⟩ hex
theorem put_ne {t : Array Value} {d : Option Tmp} {v : Value} {s : Nat} (h : d ≠ some s) : ((Act.mk t []).put d v).tmps[s]? = t[s]? := by
 cases d with
 | none => rfl
 | some d =>
  have : d ≠ s := fun h' => h (by rw [h'])
  simp [Act.put, this]
theorem put_same {t : Array Value} {d : Tmp} {v : Value} (h : d < t.size) : ((Act.mk t []).put (some d) v).tmps[d]? = some v := by
 simp [Act.put, h]
theorem put_size {t : Array Value} {d : Option Tmp} {v : Value} : ((Act.mk t []).put d v).tmps.size = t.size := by
 cases d <;> simp [Act.put]
structure InvM (nt : Nat) (ops : Array Oper) (n : Nat) (val : Nat → Value) (F M : List Nat) (e : Env) (n1 : Nat) (M2 : List Nat) (E : Env) (listed : Array Bool) (t : Array Value) : Prop where
 head : HeadInv .any ops n listed
 base : Knows nt e t
 free : ∀ j ∈ F, listed.getD j false = true → ∀ d, dstOf ops j = some d → t[d]? = some (val j)
 sub : ∀ j ∈ M2, j ∈ M ∧ listed.getD j false = false
 nod : M2.Nodup
 ch : chainM ops M2 = true
 env : ∀ s v, get? E s = some v → get? e s = some v ∨ (∃ j ∈ F, dstOf ops j = some s ∧ val j = v) ∨ ∃ j ∈ M, listed.getD j false = true ∧ dstOf ops j = some s ∧ t[s]? = some v
 mid : ∀ j ∈ M, listed.getD j false = false → j ∈ M2
 low : ∀ j, j < n1 → listed.getD j false = true
theorem InvM.next {n1 : Nat} {val : Nat → Value} {F M M2 M2' : List Nat} {E E' : Env} {listed : Array Bool} {t : Array Value} {i : Nat} {o : Oper} {v : Value} (hp : Plan ops n1 n e F M) (inv : InvM nt ops n val F M e n1 M2 E listed t)
  (ho : ops[i]? = some o) (hd : dstOk nt o.dst = true) (hr : i ∈ Region.ready .any ops listed) (hi1 : n1 ≤ i) (hin : i < n)
  (hv : i ∈ F → val i = v) (hsub : ∀ j ∈ M2', j ∈ M2 ∧ j ≠ i) (hnod : M2'.Nodup) (hch : chainM ops M2' = true) (hmid : ∀ j ∈ M2, j ≠ i → j ∈ M2')
  (hE : ∀ s u, get? E' s = some u → (o.dst ≠ some s ∧ get? E s = some u) ∨ (i ∈ M ∧ o.dst = some s ∧ u = v) ∨ (i ∈ F ∧ get? E s = some u)) :
  InvM nt ops n val F M e n1 M2' E' (listed.setIfInBounds i true) ((Act.mk t []).put o.dst v).tmps := by
 have hdo : dstOf ops i = o.dst := by simp only [dstOf, ho]
 have hun : listed.getD i false = false := getD_both (mem_ready.1 hr).1
 have hne : ∀ j, listed.getD j false = true → i ≠ j := fun j hj h => by rw [← h, hun] at hj; cases hj
 have hdst : ∀ j, n1 ≤ j ∧ j < n → i ≠ j → ∀ d, dstOf ops j = some d → o.dst ≠ some d := fun j hj hij d hjd h => hij (hp.dst i hi1 hin j hj.1 hj.2 d (by rw [hdo]; exact h) hjd)
 have hput : ∀ d, o.dst = some d → ((Act.mk t []).put o.dst v).tmps[d]? = some v := fun d h => by
  rw [h]; rw [h] at hd; exact put_same (by rw [inv.base.size]; exact Nat.le_of_ble_eq_true hd)
 refine ⟨inv.head.set hr hin, ⟨by rw [put_size]; exact inv.base.size, fun s u hs => ?_⟩, fun j hj hl d hjd => ?_, fun j hj => ?_, hnod, hch, fun s u hs => ?_, fun j hj hl => ?_, fun j hj => ?_⟩
 ·rw [put_ne]
  ·exact inv.base.slot s u hs
  ·intro h
   have := hp.fresh i hi1 hin s (by rw [hdo]; exact h)
   rw [this] at hs; cases hs
 ·by_cases hij : i = j
  ·subst hij
   rw [hv hj]
   exact hput d (by rw [← hdo]; exact hjd)
  ·rw [getD_set_ne false hij] at hl
   rw [put_ne (hdst j (hp.inF j hj) hij d hjd)]
   exact inv.free j hj hl d hjd
 ·obtain ⟨h1, h2⟩ := hsub j hj
  obtain ⟨h3, h4⟩ := inv.sub j h1
  exact ⟨h3, by rw [getD_set_ne false (Ne.symm h2)]; exact h4⟩
 ·have old : get? E s = some u → get? e s = some u ∨ (∃ j ∈ F, dstOf ops j = some s ∧ val j = u) ∨ ∃ j ∈ M, (listed.setIfInBounds i true).getD j false = true ∧ dstOf ops j = some s ∧ ((Act.mk t []).put o.dst v).tmps[s]? = some u := by
   intro h2
   rcases inv.env s u h2 with h | h | ⟨j, hj, hl, hjd, ht⟩
   ·exact .inl h
   ·exact .inr (.inl h)
   ·have hij := hne j hl
    exact .inr (.inr ⟨j, hj, by rw [getD_set_ne false hij]; exact hl, hjd, by rw [put_ne (hdst j (hp.inM j hj) hij s hjd)]; exact ht⟩)
  rcases hE s u hs with ⟨_, h2⟩ | ⟨h1, h2, rfl⟩ | ⟨_, h2⟩
  ·exact old h2
  ·have hlt : i < listed.size := by rw [inv.head.size]; exact (Array.getElem?_eq_some_iff.1 ho).1
   exact .inr (.inr ⟨i, h1, by simp [hlt], by rw [hdo]; exact h2, hput s h2⟩)
  ·exact old h2
 ·have hij : i ≠ j := fun h => by
   subst h
   have hlt : i < listed.size := by rw [inv.head.size]; exact (Array.getElem?_eq_some_iff.1 ho).1
   simp [hlt] at hl
  rw [getD_set_ne false hij] at hl
  exact hmid j (inv.mid j hj hl) (Ne.symm hij)
 ·rw [getD_set_ne false (hne j (inv.low j hj))]; exact inv.low j hj
theorem drawM_go {n1 : Nat} {val : Nat → Value} {F M : List Nat} (hp : Plan ops n1 n e F M) (hF : ∀ i ∈ F, ∃ e', StepQ P nt ops L0 S w0 i e' (val i) ∧ Src' ops val F e e') :
  ∀ (c : Nat) (listed : Array Bool) (t : Array Value) (W : World) (E : Env) (L : SHeap) (M2 : List Nat) (τ : Nat), cntF listed n = c → InvM nt ops n val F M e n1 M2 E listed t → Mem L S w0 W →
   AtMl P f nt ops n kk L0 S w0 R M2 E L → At P f (.inRegion ops (Region.linearise.go .any ops (c + (ops.size - n)) τ listed []) :: kk) t W R
 | 0, listed, t, W, E, L, M2, τ, hc, inv, hm, h => by
  have hall := cntF_zero hc
  have hM2 : M2 = [] := by
   cases M2 with
   | nil => rfl
   | cons m r =>
    obtain ⟨h1, h2⟩ := inv.sub m (.head _)
    rw [hall m (hp.inM m h1).2] at h2; cases h2
  subst hM2
  have hlisted : listed = firstN n ops.size := by
   apply Array.ext_getElem?
   intro j
   have hsz := inv.head.size
   have hle := hp.le
   rw [firstN_get]
   split
   ·next h1 =>
    have := hall j h1
    have hjs : j < listed.size := by omega
    rw [Array.getD_eq_getD_getElem?, Array.getElem?_eq_getElem hjs] at this
    simp only [Option.getD_some] at this
    rw [Array.getElem?_eq_getElem hjs, this]
   ·next h1 =>
    split
    ·next h2 =>
     have := inv.head.tail j (by omega) (by omega)
     have hjs : j < listed.size := by omega
     rw [Array.getD_eq_getD_getElem?, Array.getElem?_eq_getElem hjs] at this
     simp only [Option.getD_some] at this
     rw [Array.getElem?_eq_getElem hjs, this]
    ·rw [Array.getElem?_eq_none (by omega)]
  rw [Nat.zero_add, hlisted]
  refine h.2 τ t W ⟨inv.base.size, fun s v hs => ?_⟩ hm
  rcases inv.env s v hs with h | ⟨j, hj, hjd, rfl⟩ | ⟨j, hj, hl, hjd, ht⟩
  ·exact inv.base.slot s v h
  ·exact inv.free j hj (hall j (hp.inF j hj).2) s hjd
  ·exact ht
 | c + 1, listed, t, W, E, L, M2, τ, hc, inv, hm, h => by
  rw [show c + 1 + (ops.size - n) = (c + (ops.size - n)) + 1 by omega, go_cons]
  obtain ⟨i0, hi0, hun0, hbelow⟩ := least_un (listed := listed) (n := n) (by omega)
  have hun0' : listed.getD i0 true = false := getD_in (by rw [inv.head.size]; have := hp.le; omega) hun0
  have hi0r : i0 ∈ Region.ready .any ops listed := by
   have hlt : i0 < ops.size := by have := hp.le; omega
   refine mem_ready.2 ⟨hun0', ops[i0], Array.getElem?_eq_getElem hlt, fun ed hed hb => hbelow _ (hp.back i0 hi0 _ ?_)⟩
   simp only [deps, Array.getElem?_eq_getElem hlt]
   exact depsE_mem (Array.mem_toList_iff.2 hed) hb
  have hpos : 0 < (Region.ready .any ops listed).length := List.length_pos_of_mem hi0r
  have hlt : τ % (Region.ready .any ops listed).length < (Region.ready .any ops listed).length := Nat.mod_lt _ hpos
  rw [List.getElem?_eq_getElem hlt]
  have hr := List.getElem_mem hlt
  generalize (Region.ready .any ops listed)[τ % (Region.ready .any ops listed).length] = i at hr
  generalize τ / (Region.ready .any ops listed).length = τ'
  simp only
  obtain ⟨hun, o, ho, hall⟩ := mem_ready.1 hr
  have his : i < ops.size := (Array.getElem?_eq_some_iff.1 ho).1
  have hin : i < n := by
   rcases Nat.lt_or_ge i n with h' | h'
   ·exact h'
   ·exact absurd hr (hp.waits (by omega) inv.head inv.low _ i0 rfl hi0 hun0 i h')
  have hi1 : n1 ≤ i := by
   rcases Nat.lt_or_ge i n1 with h' | h'
   ·have := inv.low i h'
    rw [getD_both hun] at this; cases this
   ·exact h'
  have hdo : dstOf ops i = o.dst := by simp only [dstOf, ho]
  have hdeps : ∀ j ∈ deps ops i, listed.getD j false = true := fun j hj => by
   simp only [deps, ho] at hj
   obtain ⟨ed, hed, hb, rfl⟩ := depsE_of hj
   exact hall ed (Array.mem_toList_iff.1 hed) hb
  have hsl : slotsAt ops i = slotsOf ops o := by simp only [slotsAt, ho]
  have hfree : ∀ s, s ∈ slotsOf ops o → ∀ j ∈ F, dstOf ops j = some s → t[s]? = some (val j) := fun s hs j hj hjd =>
   inv.free j hj (hdeps j (hp.reads i hi1 hin j (hp.inF j hj).1 (hp.inF j hj).2 s hjd (by rw [hsl]; exact hs))) s hjd
  have hcnt : cntF (listed.setIfInBounds i true) n = c := by
   have := cntF_set (by rw [inv.head.size]; exact his) (getD_both hun) hin
   omega
  rcases hp.cover i hi1 hin with hiF | hiM
  ·
   obtain ⟨e', ⟨o', ho', hd, hcase⟩, hsrc⟩ := hF i hiF
   have hoo : o' = o := Option.some.inj (ho'.symm.trans ho)
   subst hoo
   have hon : On ops o' e' t := fun s hs v hv => by
    rcases hsrc s v hv with h1 | ⟨j, hj, hjd, rfl⟩
    ·exact inv.base.slot s v h1
    ·exact hfree s hs j hj hjd
   have hM2i : ∀ j ∈ M2, j ≠ i := fun j hj hji => hp.apart i hiF (by rw [← hji]; exact (inv.sub j hj).1)
   have inv' : InvM nt ops n val F M e n1 M2 E (listed.setIfInBounds i true) ((Act.mk t []).put o'.dst (val i)).tmps :=
    inv.next hp ho hd hr hi1 hin (fun _ => rfl) (fun j hj => ⟨hj, hM2i j hj⟩) inv.nod inv.ch (fun j hj _ => hj) (fun s u hs => .inr (.inr ⟨hiF, hs⟩))
   have hpre : ∃ L1, L = L0 ++ L1 := by cases M2 <;> exact h.1
   have hsub0 : ∀ W, Mem L S w0 W → Mem L0 S w0 W := fun W hm => by
    obtain ⟨L1, rfl⟩ := hpre
    exact ⟨by have := hm.nodup; rw [List.map_append] at this; exact (List.nodup_append.1 this).1, fun p hp => hm.here p (List.mem_append_left _ hp), fun p hp => hm.own p (List.mem_append_left _ hp), hm.kept⟩
   rcases hcase with ⟨hw, hkn, hpl, hx⟩ | ⟨hw, hv⟩
   ·have hexe := execOp_congr (Act.mk t []).eval (rho e') o' hpl (hon.rho hkn [])
    rcases hx W (hsub0 W hm) with hx | ⟨g, args, hx, hcalls⟩
    ·rw [← hexe] at hx
     exact At.value ho (hon.wanted hw) hx (drawM_go hp hF c _ _ _ E L M2 τ' hcnt inv' hm h)
    ·rw [← hexe] at hx
     refine At.enter ho (hon.wanted hw) hx (hcalls.mono fun en W' hh => ⟨val i, hh.1, ?_⟩)
     exact drawM_go hp hF c _ _ _ E L M2 τ' hcnt inv' (hm.after hh.2) h
   ·rw [hv] at inv'
    exact At.unwanted ho (hon.wanted hw) (drawM_go hp hF c _ _ _ E L M2 τ' hcnt inv' hm h)
  ·
   have hiM2 : i ∈ M2 := inv.mid i hiM (getD_both hun)
   cases M2 with
   | nil => cases hiM2
   | cons m r =>
    have him : i = m := by
     cases hiM2 with
     | head => rfl
     | tail _ hir =>
      obtain ⟨p, hpm, hpd⟩ := chainM_head inv.ch i hir
      have := hdeps p hpd
      rw [(inv.sub p hpm).2] at this; cases this
    subst him
    obtain ⟨_, o', ho', hd, hcase⟩ := h
    have hoo : o' = o := Option.some.inj (ho'.symm.trans ho)
    subst hoo
    have hon : On ops o' E t := fun s hs v hv => by
     rcases inv.env s v hv with h1 | ⟨j, hj, hjd, rfl⟩ | ⟨j, hj, hl, hjd, ht⟩
     ·exact inv.base.slot s v h1
     ·exact hfree s hs j hj hjd
     ·exact ht
    have hnod := List.nodup_cons.1 inv.nod
    have inv' : ∀ v, InvM nt ops n val F M e n1 r (putE E (dstOf ops i) v) (listed.setIfInBounds i true) ((Act.mk t []).put o'.dst v).tmps := fun v =>
     inv.next hp ho hd hr hi1 hin (fun hiF => absurd hiM (hp.apart i hiF)) (fun j hj => ⟨.tail _ hj, fun hji => hnod.1 (hji ▸ hj)⟩) hnod.2 (chainM_tail inv.ch)
      (fun j hj hji => by cases hj with | head => exact absurd rfl hji | tail _ hj => exact hj) (fun s u hs => by
       rw [hdo] at hs
       cases hod : o'.dst with
       | none => rw [hod] at hs; exact .inl ⟨by simp, hs⟩
       | some d =>
        rw [hod] at hs
        simp only [putE, get?] at hs
        cases hb : Nat.beq d s with
        | true =>
         rw [hb] at hs
         simp only [cond_true, Option.some.injEq] at hs
         exact .inr (.inl ⟨hiM, by rw [Nat.eq_of_beq_eq_true hb], hs.symm⟩)
        | false =>
         rw [hb] at hs
         refine .inl ⟨fun h' => ?_, hs⟩
         simp only [Option.some.injEq] at h'
         subst h'
         simp at hb)
    rcases hcase with ⟨hw, hkn, hpl, hx⟩ | ⟨hw, hK⟩
    ·have hexe := execOp_congr (Act.mk t []).eval (rho E) o' hpl (hon.rho hkn [])
     rcases hx W hm with ⟨v, L', W', hx, hm', hK⟩ | ⟨L', W', hx, hm', hK⟩ | ⟨g, args, hx, hcalls⟩
     ·rw [← hexe] at hx
      exact At.value ho (hon.wanted hw) hx (drawM_go hp hF c _ _ _ _ L' r τ' hcnt (inv' v) hm' hK)
     ·rw [← hexe] at hx
      exact At.skipv ho (hon.wanted hw) hx (drawM_go hp hF c _ _ _ _ L' r τ' hcnt (inv' undef) hm' hK)
     ·rw [← hexe] at hx
      refine At.enter ho (hon.wanted hw) hx (hcalls.mono fun en W' hh => ?_)
      obtain ⟨v, L', hen, hm', hK⟩ := hh
      exact ⟨v, hen, drawM_go hp hF c _ _ _ _ L' r τ' hcnt (inv' v) hm' hK⟩
    ·exact At.unwanted ho (hon.wanted hw) (drawM_go hp hF c _ _ _ _ L r τ' hcnt (inv' undef) hm hK)
theorem AtD.phase {n1 : Nat} (n : Nat) (F M : List Nat) (L0 : SHeap) (hk : planB ops n1 n e F M = true) {L1 : SHeap} (hL : L = L0 ++ L1)
  (h : AtF P nt [.inRegion ops F] e L0 S w0 fun eF => AtM P f nt ops n kk L0 [.inRegion ops M] eF L S w0 R) : AtD P f nt ops n1 kk e L S w0 R := by
 have hp := Plan.of hk
 obtain ⟨val, hf⟩ := h _ F rfl hp.nodF
 obtain ⟨hF, e', ⟨eF, heF, hK⟩, hsrc⟩ := FreeF.get (F0 := F) (e0 := e) (fun i hi => hi) (fun s v hs => .inl hs) hf
 intro τ t w hkn hmm
 have hle := hp.le
 have hle1 := hp.le1
 have hcnt : cntF (firstN n1 ops.size) n = n - n1 := cntF_first hle1
 have key := drawM_go (f := f) (kk := kk) (R := R) hp hF (n - n1) (firstN n1 ops.size) t w eF L M τ hcnt
  ⟨⟨firstN_size (by omega), fun j oj hoj hl ed hed hb => ?_, fun t ht hts => getD_in (by rw [firstN_size (by omega)]; exact hts) (firstN_ge (by omega))⟩, hkn,
   fun j hj hl => (by rw [firstN_ge (hp.inF j hj).1] at hl; cases hl), fun j hj => ⟨hj, firstN_ge (hp.inM j hj).1⟩, hp.nodM, hp.chain, fun s v hs => by
    rcases hsrc s v (heF s v hs) with h | h
    ·exact .inl h
    ·exact .inr (.inl h), fun j hj _ => hj, fun j hj => firstN_lt hj⟩ hmm (hK M rfl)
 ·rw [show n - n1 + (ops.size - n) = ops.size - n1 by omega] at key
  exact key
 ·have hj1 : j < n1 := by
   rcases Nat.lt_or_ge j n1 with h | h
   ·exact h
   ·rw [firstN_ge h] at hl; cases hl
  have := hp.back j (by omega) ed.on (by simp only [deps, hoj]; exact depsE_mem (Array.mem_toList_iff.2 hed) hb)
  exact firstN_lt (by omega)
theorem AtD.tail (h : Region.seqB .any ops (ops.size - n) n (firstN n ops.size) = true) (hn : AtE P f nt (tailK ops n kk) e L S w0 R) : AtD P f nt ops n kk e L S w0 R := by
 intro t
 rw [go_seq _ n t _ h]
 exact hn
theorem AtD.norm {e' : Env} {L' : SHeap} (hn : AtD P f nt ops n kk e' L' S w0 R) (h : (restrict e (e'.map (·.1)), L) = (some e', L')) : AtD P f nt ops n kk e L S w0 R := by
 simp only [Prod.mk.injEq] at h
 obtain ⟨h, rfl⟩ := h
 intro τ t W hk hm
 exact hn τ t W ⟨hk.size, fun i v hv => hk.slot i v (restrict_get h i v hv)⟩ hm
theorem AtD.front {b : Nat × Obj} (hn : AtD P f nt ops n kk e (b :: L) S w0 R) : AtD P f nt ops n kk e (L ++ [b]) S w0 R := fun t => AtE.front (hn t)
theorem AtE.drawD (hk : (isDraw k, P.follows .mixedOrders) = (true, true)) (h : AtD P f nt (regOps k) 0 (restK k) e L S w0 R) : AtE P f nt k e L S w0 R := by
 simp only [Prod.mk.injEq] at hk
 obtain ⟨h1, hmx⟩ := hk
 unfold isDraw at h1
 split at h1
 ·next id ops k' =>
  have hsch : ∀ τ, Region.schedule (P.follows .mixedOrders) ops τ = Region.linearise.go .any ops ops.size τ (Array.replicate ops.size false) [] := fun τ => by
   simp only [Region.schedule, hmx, Bool.true_or, if_true]; rfl
  intro t w hkn hmm
  refine At.step (k' := .inRegion ops (Region.schedule (P.follows .mixedOrders) ops (w.tape w.drawn (.order f id))) :: k') (t' := t) (w' := { w with drawn := w.drawn + 1 })
   (fun b cs hb => by have := rstep_region_draw (P := P) (b := b) (a := ⟨t, R.ds⟩) (k := k') (cs := cs) (w := w) (id := id) (ops := ops); rw [hb] at this; exact this) ?_
  rw [hsch]
  have key := h (w.tape w.drawn (.order f id)) t { w with drawn := w.drawn + 1 } hkn ⟨hmm.nodup, hmm.here, hmm.own, ⟨hmm.kept.os, hmm.kept.tape, hmm.kept.output, hmm.kept.size, hmm.kept.block⟩⟩
  simp only [regOps, restK, firstN_zero, Nat.sub_zero] at key
  exact key
 ·cases h1
end
theorem AtE.ru {P : Program} {f nt : Nat} {k : List Item} {e : Env} {L : SHeap} {S : List Nat} {w0 : World} {R : Goal P} (n : Nat) (hn : AtE P f nt (kN P nt n k e) (eN P nt n k e) L S w0 R)
  (h : ∀ W, Eng.run P nt n k e W = some (kN P nt n k e, eN P nt n k e, W) := by intro W; kernel_rfl) : AtE P f nt k e L S w0 R := AtE.run n h hn
theorem AtF.pu {P : Program} {nt : Nat} {k : List Item} {e : Env} {L : SHeap} {S : List Nat} {w0 : World} {K : Env → Prop} (hn : AtF P nt (nextK k) (putE e (curDst nt k e) (vQ P nt k e)) L S w0 K)
  (hc : cur nt k e = some (curO nt k e) := by kernel_rfl) (h : ∀ W, (execOp (rho e) (curO nt k e)).run P W = .ok (.value (vQ P nt k e)) W := by intro W; kernel_rfl) : AtF P nt k e L S w0 K := AtF.pure hc h hn
theorem AtQ.pu {P : Program} {f nt : Nat} {ops : Array Oper} {n : Nat} {kk : List Item} {k : List Item} {e : Env} {L : SHeap} {S : List Nat} {w0 : World} {R : Goal P} (hn : AtQ P f nt ops n kk (nextK k) (putE e (curDst nt k e) (vQ P nt k e)) L S w0 R)
  (hc : cur nt k e = some (curO nt k e) := by kernel_rfl) (h : ∀ W, (execOp (rho e) (curO nt k e)).run P W = .ok (.value (vQ P nt k e)) W := by intro W; kernel_rfl) : AtQ P f nt ops n kk k e L S w0 R := AtQ.pure hc h hn
section
variable {P : Program} {f nt : Nat} {k : List Item} {e : Env} {L : SHeap} {S : List Nat} {w0 : World} {R : Goal P}
def InlR (P : Program) (f nt : Nat) (k : List Item) (e : Env) (d : Option Tmp) (S : List Nat) (w0 : World) (R : Goal P) : Ending → World → Prop :=
 fun en W' => (∃ v L', en = .returned v ∧ Mem L' S w0 W' ∧ AtE P f nt k (putE e d v) L' S w0 R) ∨ ∃ ch L', en = .panicked ch ∧ Mem L' S w0 W' ∧ RaiseE P f nt e ch L' S w0 R
theorem AtE.inl (g : FuncId) (args : Array Value) (hr : ∀ W, (execOp (rho e) (curO nt k e)).run P W = .ok (.enter g args) W)
  (hc : cur nt k e = some (curO nt k e)) (h : ∀ W, Mem L S w0 W → Calls P g args W (InlR P f nt (nextK k) e (curDst nt k e) S w0 R)) : AtE P f nt k e L S w0 R :=
 AtE.callP (K := fun v L' => AtE P f nt (nextK k) (putE e (curDst nt k e) v) L' S w0 R) (K' := fun ch L' => RaiseE P f nt e ch L' S w0 R) g args hr (by rw [← hc]) (fun W hm => h W hm) (fun _ _ h => h) (fun _ _ h => h)
theorem Fin.inl {f' nt' : Nat} {k' : List Item} {e' : Env} {d : Option Tmp} {v : Value} (h : AtE P f' nt' k' (putE e' d v) L S w0 R) : Fin (InlR P f' nt' k' e' d S w0 R) L S w0 v :=
 fun _ hm => .inl ⟨v, L, rfl, hm, h⟩
theorem AtE.retK {f' nt' : Nat} {k' : List Item} {e' : Env} {d : Option Tmp} {fn : Func} {v : Value} (hf : P.funcs[f]? = some fn) (hv : (isRet k, retV e fn.results.toList) = (true, some v))
  (h : AtE P f' nt' k' (putE e' d v) L S w0 R) : AtE P f nt k e L S w0 (nrm (InlR P f' nt' k' e' d S w0 R)) := by
 simp only [Prod.mk.injEq] at hv
 exact AtE.ret (v := v) (L1 := L) hf (by rw [hv.1, hv.2]) (Fin.inl h)
end
section
variable {P : Program} {f nt : Nat} {k : List Item} {e : Env} {L : SHeap} {S : List Nat} {w0 : World} {G : Goal P}
def RoundsR (P : Program) (l fn : Nat) (tmps : Array Value) (assign body : Code) (W : World) (R : Value → World → Prop) : Prop :=
 ∀ (c : Frame) (cs : List Frame), ∃ v w', R v w' ∧ Steps P (lone (Frame.round l fn tmps assign body .normal) (c :: cs) W) (lone (c.finish v) cs w')
def YieldH (P : Program) (l : Nat) (args : Array Value) (L : SHeap) (S : List Nat) (w0 : World) (K : Value → SHeap → Prop) : Prop :=
 ∀ W, Mem L S w0 W → ∃ fn tmps assign body, (Instr.yield l args).run P W = .ok (.round l fn tmps assign body) W ∧ RoundsR P l fn tmps assign body W fun v W' => ∃ L', Mem L' S w0 W' ∧ K v L'
theorem YieldH.mono {l : Nat} {args : Array Value} {K K' : Value → SHeap → Prop} (h : YieldH P l args L S w0 K) (hk : ∀ v L', K v L' → K' v L') : YieldH P l args L S w0 K' := by
 intro W hm
 obtain ⟨fn, tmps, assign, body, h1, h2⟩ := h W hm
 refine ⟨fn, tmps, assign, body, h1, fun c cs => ?_⟩
 obtain ⟨v, w', ⟨L', h3, h4⟩, h5⟩ := h2 c cs
 exact ⟨v, w', ⟨L', h3, hk v L' h4⟩, h5⟩
theorem AtE.yield (l : Nat) (args : Array Value) {L1 : SHeap} {K : Value → SHeap → Prop} (hr : ∀ W, (execOp (rho e) (curO nt k e)).run P W = (Instr.yield l args).run P W)
  (hc : (cur nt k e, L) = (some (curO nt k e), L1)) (h : YieldH P l args L1 S w0 K)
  (hn : ∀ v L', K v L' → AtE P f nt (nextK k) (putE e (curDst nt k e) v) L' S w0 G) : AtE P f nt k e L S w0 G := by
 intro t W hk hm b cs hb
 simp only [Prod.mk.injEq] at hc
 obtain ⟨hc, rfl⟩ := hc
 have hcd : curDst nt k e = (curO nt k e).dst := by simp only [curDst, hc]
 rw [hcd] at hn
 generalize curO nt k e = o at hc hr hn
 obtain ⟨ops, i, rest, k', rfl, ho, hw, hkn, hpl, hd⟩ := cur_spec hc
 obtain ⟨fn, tmps, assign, body, hy, hR⟩ := h W hm
 have hr1 := hr W
 rw [hy, ← execOp_congr (Act.mk t []).eval (rho e) o hpl (hk.rho hkn [])] at hr1
 have hr' : (execOp (Act.mk t G.ds).eval o).run P W = .ok (.round l fn tmps assign body) W := hr1
 have hg := rstepG_op (P := P) (b := b) (a := ⟨t, G.ds⟩) (k := k') (cs := cs) (w := W) (rest := rest) ho (hk.wanted hw) (.inr (not_defer hr1 rfl))
 obtain ⟨v, w', ⟨L', hm', hK⟩, hs⟩ := hR (rt b ⟨t, G.ds⟩ (.inRegion ops (i :: rest) :: k')) cs
 have henter : Go.step P (lone (rt b ⟨t, G.ds⟩ (.inRegion ops (i :: rest) :: k')) cs W) =
   .next (lone (Frame.round l fn tmps assign body .normal) (rt b ⟨t, G.ds⟩ (.inRegion ops (i :: rest) :: k') :: cs) W) :=
  step_lone_go (by rw [hg]; simp [stepG.apply, hr', rt, Frame.at])
 have hfin : (rt b ⟨t, G.ds⟩ (.inRegion ops (i :: rest) :: k')).finish v = rt b ⟨((Act.mk t []).put o.dst v).tmps, G.ds⟩ (.inRegion ops rest :: k') := by
  rw [rt_finish, ho]
  show rt b ((Act.mk t G.ds).put o.dst v) _ = _
  rw [put_eta]
 refine G.back _ _ _ _ (.head henter hs) ?_
 rw [hfin]
 exact hn v L' hK _ w' (hk.put hd v []) hm' b cs hb
def rnd {P : Program} (l : Nat) (R : Value → World → Prop) : Goal P where
 ds := []
 ok b cs m := b.kind = .normal → b.roundOf = some l → ∀ c cs', cs = c :: cs' → ∃ v w', R v w' ∧ Steps P m (lone (c.finish v) cs' w')
 back b cs m m1 hs h hk hq c cs' hc := by
  obtain ⟨v, w', h1, h2⟩ := h hk hq c cs' hc
  exact ⟨v, w', h1, Steps.trans hs h2⟩
theorem AtE.rounds {l : Nat} {assign body : Code} {tmps : Array Value} {W : World} {R : Value → World → Prop} (hk : Knows nt e tmps) (hm : Mem L S w0 W)
  (h : AtE P f nt [.code assign, .beginRound, .code body] e L S w0 (rnd l R)) : RoundsR P l f tmps assign body W R := fun c cs =>
 h tmps W hk hm { (default : Frame) with fn := f, kind := .normal, roundOf := some l } (c :: cs) rfl rfl rfl c cs rfl
def rfP : Code → Array Tmp
 | .rangeFunc _ ps _ _ => ps
 | _ => #[]
def rfA : Code → Code
 | .rangeFunc _ _ a _ => a
 | _ => .skip
def rfB : Code → Code
 | .rangeFunc _ _ _ c => c
 | _ => .skip
def rfG : Code → Operand
 | .rangeFunc g _ _ _ => g
 | _ => .const undef
def isRf : Code → Bool
 | .rangeFunc _ _ _ _ => true
 | _ => false
def loopR (st : LoopState) (pend : Option Code) (f : FuncId) (t : Array Value) (rf : Code) (D : Nat) : Loop :=
 { state := st, pending := pend, fn := f, tmps := t, params := rfP rf, assign := rfA rf, body := rfB rf, defers := D }
def loopO (st : LoopState) (pend : Option Code) (f : FuncId) (t : Array Value) (rf : Code) (D : Nat) : Obj := .loop (loopR st pend f t rf D)
def putPs : Env → List Tmp → List Value → Env
 | e, p :: ps, a :: as => putPs ((p, a) :: e) ps as
 | e, _, _ => e
def psOk (nt : Nat) : List Tmp → Bool
 | [] => true
 | p :: r => bif Nat.ble (p + 1) nt then psOk nt r else false
theorem Knows.putPs : ∀ (ps : List Tmp) (as : List Value) {e : Env} {t : Array Value}, Knows nt e t → psOk nt ps = true → Knows nt (putPs e ps as) ((ps.zip as).foldl (fun tmps (t, a) => tmps.setIfInBounds t a) t)
 | [], _, _, _, h, _ => by simpa [Eng.putPs] using h
 | _ :: _, [], _, _, h, _ => by simpa [Eng.putPs] using h
 | p :: ps, a :: as, e, t, h, hp => by
  simp only [psOk] at hp
  cases hb : Nat.ble (p + 1) nt with
  | false => rw [hb] at hp; simp at hp
  | true =>
   rw [hb] at hp
   exact Knows.putPs ps as (e := (p, a) :: e) (t := t.setIfInBounds p a) (h.put (d := some p) hb a []) hp
theorem YieldH.of (j : Nat) {l D : Nat} {t : Array Value} {rf : Code} {args : List Value} {e0 e1 : Env} {k1 : List Item} {K : Value → SHeap → Prop} (ht : Knows nt e0 t)
  (h : (L[j]?, Nat.beq args.length (rfP rf).size, psOk nt (rfP rf).toList) = (some (l, loopO .ready none f t rf D), true, true)) (he : ((putPs e0 (rfP rf).toList args), [Item.code (rfA rf), .beginRound, .code (rfB rf)]) = (e1, k1))
  (hn : AtE P f nt k1 e1 L S w0 (rnd l fun v W' => ∃ L', Mem L' S w0 W' ∧ K v L')) : YieldH P l ⟨args⟩ L S w0 K := by
 simp only [Prod.mk.injEq] at h he
 obtain ⟨h1, h2, h3⟩ := h
 obtain ⟨rfl, rfl⟩ := he
 intro W hm
 have hl : W.heap[l]? = some (.loop (loopR .ready none f t rf D)) := hm.here _ (List.mem_of_getElem? h1)
 refine ⟨_, _, _, _, run_yield hl (by simpa [loopR] using Nat.eq_of_beq_eq_true h2), ?_⟩
 refine AtE.rounds (nt := nt) (e := putPs e0 (rfP rf).toList args) ?_ hm hn
 have := Knows.putPs (rfP rf).toList args ht h3
 simp only [loopR]
 rw [← Array.foldl_toList]
 simpa using this
theorem Mem.putObj {W : World} (hm : Mem L S w0 W) {j l : Nat} {o : Obj} (h : L[j]? = some (l, o)) (o' : Obj) : Mem (L.set j (l, o')) S w0 (W.putObj l o') :=
 Mem.setObj hm h o' rfl rfl rfl rfl
theorem AtE.begin (j : Nat) {l D f' : Nat} {t : Array Value} {rf : Code} {k' : List Item} {R : Value → World → Prop}
  (h : (k, L[j]?) = (.beginRound :: k', some (l, loopO .ready none f' t rf D))) (hn : AtE P f nt k' e (L.set j (l, loopO .busy none f' t rf D)) S w0 (rnd l R)) : AtE P f nt k e L S w0 (rnd l R) := by
 simp only [Prod.mk.injEq] at h
 obtain ⟨rfl, h1⟩ := h
 intro t' W hk hm b cs hb hkd hq c cs' hc
 have hl : W.heap[l]? = some (.loop (loopR .ready none f' t rf D)) := hm.here _ (List.mem_of_getElem? h1)
 obtain ⟨v, w', h2, h3⟩ := hn t' (W.putObj l (loopO .busy none f' t rf D)) hk (hm.putObj h1 _) b cs hb hkd hq c cs' hc
 refine ⟨v, w', h2, .head ?_ h3⟩
 have hbr : (Instr.beginRound l).run P W = .ok () (W.putObj l (loopO .busy none f' t rf D)) := run_beginRound hl rfl
 refine step_lone_go ?_
 show GStep.bare (stepG P true { frame := rt b ⟨t', []⟩ (.beginRound :: k'), callers := cs, status := .running, dying := none } W) = GStep.go { frame := rt b ⟨t', []⟩ k', callers := cs, status := .running, dying := none } _
 simp [stepG, stepG.exec, rt, Frame.at, hq, stepG.apply, hbr, Result.andThen, Frame.finish]
theorem AtE.endRound (j : Nat) {l D f' : Nat} {t : Array Value} {rf : Code} {st : LoopState} {L1 : SHeap} {K : Value → SHeap → Prop}
  (h : (k, L[j]?, L) = ([], some (l, loopO st none f' t rf D), L1)) (hK : K (.bool true) (L1.set j (l, loopO .ready none f' t rf D))) : AtE P f nt k e L S w0 (rnd l fun v W' => ∃ L', Mem L' S w0 W' ∧ K v L') := by
 simp only [Prod.mk.injEq] at h
 obtain ⟨rfl, h1, rfl⟩ := h
 intro t' W hk hm b cs hb hkd hq c cs' hc
 subst hc
 have hl : W.heap[l]? = some (.loop (loopR st none f' t rf D)) := hm.here _ (List.mem_of_getElem? h1)
 have hr : (Instr.endRound l none).run P W = .ok (.bool true) (W.putObj l (loopO .ready none f' t rf D)) := run_endRound none hl
 refine ⟨.bool true, _, ⟨_, hm.putObj h1 _, hK⟩, .one (step_lone_go ?_)⟩
 show GStep.bare (stepG P true { frame := rt b ⟨t', []⟩ [], callers := c :: cs', status := .running, dying := none } W) = _
 simp [stepG, stepG.exec, rt, Frame.at, hq, Sem.runT_eq, hr, GStep.bare_after, doReturn, hkd]
def jumpOf : List Item → Option Code
 | .code .ret :: _ => some .ret
 | .code (.exit id) :: k => match exitTo id k with
  | some _ => none
  | none => some (.exit id)
 | _ => none
theorem AtE.jumpRound (j : Nat) {l D f' : Nat} {t : Array Value} {rf : Code} {st : LoopState} {c : Code} {L1 : SHeap} {K : Value → SHeap → Prop}
  (h : (jumpOf k, L[j]?, L) = (some c, some (l, loopO st none f' t rf D), L1)) (hK : K (.bool false) (L1.set j (l, loopO .done (some c) f' t rf D))) : AtE P f nt k e L S w0 (rnd l fun v W' => ∃ L', Mem L' S w0 W' ∧ K v L') := by
 simp only [Prod.mk.injEq] at h
 obtain ⟨h0, h1, rfl⟩ := h
 intro t' W hk hm b cs hb hkd hq c' cs' hc
 subst hc
 have hl : W.heap[l]? = some (.loop (loopR st none f' t rf D)) := hm.here _ (List.mem_of_getElem? h1)
 have hr : (Instr.endRound l (some c)).run P W = .ok (.bool false) (W.putObj l (loopO .done (some c) f' t rf D)) := run_endRound (some c) hl
 refine ⟨.bool false, _, ⟨_, hm.putObj h1 _, hK⟩, .one (step_lone_go ?_)⟩
 show GStep.bare (stepG P true { frame := rt b ⟨t', []⟩ k, callers := c' :: cs', status := .running, dying := none } W) = _
 unfold jumpOf at h0
 split at h0
 ·cases h0
  simp [stepG, stepG.exec, rt, Frame.at, hq, Sem.runT_eq, hr, GStep.bare_after, doReturn, hkd]
 ·next id k2 =>
  split at h0
  ·cases h0
  ·next hx =>
   cases h0
   simp [stepG, stepG.exec, rt, Frame.at, hx, hq, Sem.runT_eq, hr, GStep.bare_after, doReturn, hkd]
 ·cases h0
def mrk {P : Program} (D : Nat) (R : Ending → World → Prop) : Goal P := { (nrm (P := P) R) with ds := [{ target := .collected D, args := #[] }] }
theorem AtE.rangeFunc {R : Ending → World → Prop} {rf : Code} {k' : List Item} {L1 : SHeap} {e' : Env} (g : FuncId) (cap : List Value)
  (h : (k, isRf rf, L, ev e (rfG rf), restrict e (e'.map (·.1))) = (.code rf :: k', true, L1, some (.func (.func g) #[] ⟨cap⟩), some e'))
  (hr : ∀ W l, (invoke (.fn (.func g) ⟨cap⟩) #[.func (.yield l) #[] #[]]).run P W = .ok (.enter g ⟨.func (.yield l) #[] #[] :: cap⟩) W)
  (hn : ∀ (D l : Nat) (t : Array Value), Knows nt e' t → CallH P g ⟨.func (.yield l) #[] #[] :: cap⟩ (L1 ++ [(D, .deferred (some [])), (l, loopO .ready none f t rf D)]) S w0 fun _ L' => ∃ j st pend, L'[j]? = some (l, loopO st pend f t rf D) ∧ st ≠ .busy ∧
   AtE P f nt ((pend.map Item.code).toList ++ k') e' (L'.set j (l, loopO .exhausted pend f t rf D)) S w0 (mrk D R)) : AtE P f nt k e L S w0 (nrm R) := by
 simp only [Prod.mk.injEq] at h
 obtain ⟨rfl, h1, rfl, h2, h3⟩ := h
 intro t W hk hm b cs hb hkd hq
 show ∃ e w' fr, R e w' ∧ Comes P (lone (rt b ⟨t, []⟩ (.code rf :: k')) cs W) (lone fr cs w') e ∧ fr.fn = b.fn ∧ fr.leaving P w' e
 have hk' : Knows nt e' t := ⟨hk.size, fun i v hv => hk.slot i v (restrict_get h3 i v hv)⟩
 cases rf with
 | rangeFunc g0 ps assign body =>
  have he := run_enterLoop_outer (P := P) (w := W) b.fn t ps assign body
  rw [← hq] at he
  obtain ⟨W1, hW1⟩ : ∃ W1, ((W.alloc (.deferred (some []))).alloc (loopO .ready none f t (.rangeFunc g0 ps assign body) W.heap.size)) = W1 := ⟨_, rfl⟩
  have hlo : (Obj.loop { state := .ready, pending := none, fn := b.fn, tmps := t, params := ps, assign := assign, body := body, defers := W.heap.size }) = loopO .ready none f t (.rangeFunc g0 ps assign body) W.heap.size := by rw [hb]; rfl
  rw [hlo, hW1] at he
  have hm1 : Mem (L ++ [(W.heap.size, .deferred (some [])), (W.heap.size + 1, loopO .ready none f t (.rangeFunc g0 ps assign body) W.heap.size)]) S w0 W1 := by
   have := (hm.alloc (.deferred (some []))).alloc (loopO .ready none f t (.rangeFunc g0 ps assign body) W.heap.size)
   have hs : ({ W with heap := W.heap.push (.deferred (some [])) } : World).heap.size = W.heap.size + 1 := by simp
   rw [hs, List.append_assoc] at this
   rw [← hW1]
   exact this
  have hgv : (Act.mk t []).eval g0 = .func (.func g) #[] ⟨cap⟩ := hk.ev (x := g0) h2 []
  have hres : (resolve (Act.mk t []).eval (rangeCall g0 (W.heap.size + 1)) 0).run P W1 = .ok { target := .fn (.func g) ⟨cap⟩, args := #[.func (.yield (W.heap.size + 1)) #[] #[]] } W1 := by
   simp only [resolve]
   rw [hgv]
   simp [Deferred.ofValue, Act.eval]
  have hst := stepR_rangeFunc (P := P) (b := b) (a := ⟨t, []⟩) (k := k') (cs := cs) he hres (hr W1 (W.heap.size + 1))
  obtain ⟨en, w3, fr, ⟨v, L', rfl, hm3, j, st, pend, hj, hst', hat⟩, hsteps, _, hleave⟩ := hn W.heap.size (W.heap.size + 1) t hk' W1 hm1 (b.atR ⟨t, [{ target := .collected W.heap.size, args := #[] }]⟩ (.inRangeFunc (W.heap.size + 1) :: k') :: cs)
  have hl := step_leave_returned hleave (c := b.atR ⟨t, [{ target := .collected W.heap.size, args := #[] }]⟩ (.inRangeFunc (W.heap.size + 1) :: k')) (cs := cs)
  rw [finish_atR_inRangeFunc] at hl
  have hlp : w3.heap[W.heap.size + 1]? = some (.loop (loopR st pend f t (.rangeFunc g0 ps assign body) W.heap.size)) := hm3.here _ (List.mem_of_getElem? hj)
  have hel : (Instr.endLoop (W.heap.size + 1)).run P w3 = .ok pend (w3.putObj (W.heap.size + 1) (loopO .exhausted pend f t (.rangeFunc g0 ps assign body) W.heap.size)) := run_endLoop hlp hst'
  have hend := stepR_endRangeFunc (P := P) (b := b) (a := ⟨t, [{ target := .collected W.heap.size, args := #[] }]⟩) (k := k') (cs := cs) hel
  obtain ⟨e4, w4, fr4, q1, q2, q3⟩ := hat t _ hk' (hm3.putObj hj _) b cs hb hkd hq
  refine ⟨e4, w4, fr4, q1, Comes.of_steps (Steps.head hst (Steps.trans hsteps (Steps.head hl (Steps.one hend)))) q2, q3⟩
 | _ => cases h1
theorem AtE.retM (j : Nat) {R : Ending → World → Prop} {fn : Func} {D : Nat} {v : Value} {L1 : SHeap} (hf : P.funcs[f]? = some fn) (h : (isRet k, L[j]?, L) = (true, some (D, .deferred (some [])), L1))
  (hr : ResOk P fn nt e (L1.set j (D, .deferred none)) S w0 v) (hfin : Fin R (L1.set j (D, .deferred none)) S w0 v) : AtE P f nt k e L S w0 (mrk D R) := by
 simp only [Prod.mk.injEq] at h
 obtain ⟨hk1, h1, rfl⟩ := h
 intro t W hk hm b cs hb hkd hq
 show ∃ e w' fr, R e w' ∧ Comes P (lone (rt b ⟨t, [{ target := .collected D, args := #[] }]⟩ k) cs W) (lone fr cs w') e ∧ fr.fn = b.fn ∧ fr.leaving P w' e
 rw [rt_none hq]
 have hd : W.heap[D]? = some (.deferred (some [])) := hm.here _ (List.mem_of_getElem? h1)
 have htk := run_takeDeferred (P := P) hd
 have hm' : Mem (L.set j (D, .deferred none)) S w0 (W.putObj D (.deferred none)) := hm.putObj h1 _
 have hres := hr t _ hk hm'
 unfold isRet at hk1
 split at hk1
 ·exact ⟨.returned v, _, { { b.at ⟨t, [{ target := .collected D, args := #[] }]⟩ (.code .ret :: _) with mode := .returning } with defers := [] ++ [] }, hfin _ hm',
   Steps.head step_ret (Steps.one (step_collected (d := { target := .collected D, args := #[] }) (ds := []) (by simp) rfl rfl htk)), rfl, rfl, rfl, hkd, fn, by rw [← hf, ← hb]; rfl, hres⟩
 ·exact ⟨.returned v, _, { { b.at ⟨t, [{ target := .collected D, args := #[] }]⟩ [] with mode := .returning } with defers := [] ++ [] }, hfin _ hm',
   Steps.head step_end (Steps.one (step_collected (d := { target := .collected D, args := #[] }) (ds := []) (by simp) rfl rfl htk)), rfl, rfl, rfl, hkd, fn, by rw [← hf, ← hb]; rfl, hres⟩
 ·cases hk1
end
section
variable {P : Program} {f nt : Nat} {k : List Item} {e : Env} {L : SHeap} {S : List Nat} {w0 : World} {R : Goal P}
def asInsert (P : Program) (nt : Nat) (k : List Item) (e : Env) : Option (Option TypeDesc × Value × Value × Value) :=
 match cur nt k e with
 | some o => match o.op with
  | .insert t m key x => some (P.underlying t, rho e m, rho e key, rho e x)
  | .mapUpdate t m key x => some (P.underlying t, rho e m, rho e key, rho e x)
  | _ => none
 | none => none
theorem asInsert_spec {d : Option TypeDesc} {m key x : Value} (h : asInsert P nt k e = some (d, m, key, x)) :
  ∃ o t, cur nt k e = some o ∧ P.underlying t = d ∧ execOp (rho e) o = (do Instr.mapUpdate t m key x; pure .skip) := by
 unfold asInsert at h
 split at h
 ·next o hc =>
  split at h
  ·next t a b c ho => simp only [Option.some.injEq, Prod.mk.injEq] at h; obtain ⟨h1, rfl, rfl, rfl⟩ := h; exact ⟨o, t, hc, h1, by simp only [execOp, ho]⟩
  ·next t a b c ho => simp only [Option.some.injEq, Prod.mk.injEq] at h; obtain ⟨h1, rfl, rfl, rfl⟩ := h; exact ⟨o, t, hc, h1, by simp only [execOp, ho]⟩
  ·cases h
 ·cases h
def mapL (L : SHeap) (j : Nat) : Option (Nat × Array MapEntry × Nat) := match L[j]? with | some (b, .map es c) => some (b, es, c) | _ => none
theorem mapL_spec {L : SHeap} {j b c : Nat} {es : Array MapEntry} (h : mapL L j = some (b, es, c)) : L[j]? = some (b, .map es c) := by
 unfold mapL at h
 split at h
 ·next hj => simp only [Option.some.injEq, Prod.mk.injEq] at h; obtain ⟨rfl, rfl, rfl⟩ := h; exact hj
 ·cases h
theorem checkKey_int {kt : TypeId} {kd : IntKind} (hk : P.underlying kt = some (.int kd)) (b : Bool) (n : Int) (W : World) : (Instr.checkKey b 10000 kt (.int kd n)).run P W = .ok () W := by
 unfold Instr.checkKey
 simp [Sem.run_bind, run_underlying hk]
theorem AtE.insert (j : Nat) {b c n' : Nat} {es : Array MapEntry} {kt et : TypeId} {kd : IntKind} {n : Int} {v : Value}
  (h : (asInsert P nt k e, mapL L j, P.underlying kt, Instr.findNow (.int kd) (.int kd n) es.toList 0) = (some (some (.map kt et), .map (some b), .int kd n, v), some (b, es, c), some (.int kd), some none)) (hn' : n' = c + 1)
  (hn : AtE P f nt (nextK k) (putE e (curDst nt k e) undef) (L.set j (b, .map (es.push { key := .int kd n, val := v, born := c }) n')) S w0 R) : AtE P f nt k e L S w0 R := by
 subst hn'
 simp only [Prod.mk.injEq] at h
 obtain ⟨h1, h2, h3, h4⟩ := h
 obtain ⟨o, t, hc, ht, ho⟩ := asInsert_spec h1
 have hj := mapL_spec h2
 refine AtE.opSkip hc fun W hm => ⟨W.putObj b (.map (es.push { key := .int kd n, val := v, born := c }) (c + 1)), ?_, fun tm hk => hn tm _ (by simpa only [curDst, hc] using hk) (hm.putObj hj _)⟩
 have hb : W.heap[b]? = some (.map es c) := hm.here _ (List.mem_of_getElem? hj)
 rw [ho]
 have hg : (getObj b).run P W = .ok (.map es c) W := by simp [getObj, Sem.run, hb]
 have hs : ∀ o', (setObj b o').run P W = .ok () (W.putObj b o') := fun o' => by simp [setObj, Sem.run, hb, World.putObj]
 simp [Instr.mapUpdate, Sem.run_bind, run_underlying ht, hg, checkKey_int h3, Instr.findKey, run_underlying h3, h4, hs]
def asLookup (P : Program) (nt : Nat) (k : List Item) (e : Env) : Option (Option TypeDesc × Value × Value × Bool) :=
 match cur nt k e with
 | some o => match o.op with
  | .lookup t m key ok => some (P.underlying t, rho e m, rho e key, ok)
  | _ => none
 | none => none
theorem asLookup_spec {d : Option TypeDesc} {m key : Value} {ok : Bool} (h : asLookup P nt k e = some (d, m, key, ok)) :
  ∃ o t, cur nt k e = some o ∧ P.underlying t = d ∧ execOp (rho e) o = (do pure (.value (← Instr.lookup t m key ok))) := by
 unfold asLookup at h
 split at h
 ·next o hc =>
  split at h
  ·next t a b c ho => simp only [Option.some.injEq, Prod.mk.injEq] at h; obtain ⟨h1, rfl, rfl, rfl⟩ := h; exact ⟨o, t, hc, h1, by simp only [execOp, ho]⟩
  ·cases h
 ·cases h
def entryI (kd : IntKind) (n : Int) : List MapEntry → Option Value
 | [] => none
 | e :: r => match e.key with
  | .int _ m => if n = m then some e.val else entryI kd n r
  | _ => none
def intKeys (kd : IntKind) : List MapEntry → Bool
 | [] => true
 | e :: r => match e.key with
  | .int kd' _ => decide (kd = kd') && intKeys kd r
  | _ => false
theorem findNow_int (kd : IntKind) (n : Int) : ∀ (es : List MapEntry) (i : Nat), intKeys kd es = true → ∃ r, Instr.findNow (.int kd) (.int kd n) es i = some r ∧ r.map (·.2) = entryI kd n es
 | [], i, _ => ⟨none, rfl, rfl⟩
 | e :: es, i, h => by
  unfold intKeys at h
  split at h
  ·next kd' m hk =>
   simp only [Bool.and_eq_true, decide_eq_true_eq] at h
   obtain ⟨rfl, h⟩ := h
   obtain ⟨r, h1, h2⟩ := findNow_int kd n es (i + 1) h
   unfold Instr.findNow entryI
   simp only [hk, Instr.sameNow, if_true]
   by_cases hnm : n = m
   ·subst hnm
    simp
   ·have hb : (n == m) = false := by simpa using hnm
    rw [hb]
    simp only [if_neg hnm]
    exact ⟨r, h1, h2⟩
  ·cases h
def LookAll (kd : IntKind) (n : Int) (Y : Value → Prop) (N : Prop) : List MapEntry → Prop
 | [] => N
 | e :: r => match e.key with
  | .int _ m => (n = m → Y e.val) ∧ (¬ n = m → LookAll kd n Y N r)
  | _ => False
theorem LookAll.spec {kd : IntKind} {n : Int} {Y : Value → Prop} {N : Prop} : ∀ {es : List MapEntry}, LookAll kd n Y N es → (∃ v, entryI kd n es = some v ∧ Y v) ∨ (entryI kd n es = none ∧ N)
 | [], h => .inr ⟨rfl, h⟩
 | e :: r, h => by
  unfold LookAll at h
  unfold entryI
  split at h
  ·next m hk =>
   try simp only [hk]
   by_cases hnm : n = m
   ·rw [if_pos hnm]; exact .inl ⟨_, rfl, h.1 hnm⟩
   ·rw [if_neg hnm]; exact LookAll.spec (h.2 hnm)
  ·cases h
theorem LookAll.cons {kd kd' : IntKind} {n m : Int} {Y : Value → Prop} {N : Prop} {v : Value} {b : Nat} {r : List MapEntry} (h : n = m → Y v) (h2 : ¬ n = m → LookAll kd n Y N r) : LookAll kd n Y N ({ key := .int kd' m, val := v, born := b } :: r) := ⟨h, h2⟩
theorem lookup_run {W : World} {t kt et : TypeId} {b c : Nat} {es : Array MapEntry} {kd : IntKind} {n : Int} {z : Value} {ok : Bool} (ht : P.underlying t = some (.map kt et)) (hk : P.underlying kt = some (.int kd)) (hz : (infoZ P et).map (·.1) = some (some z))
  (hb : W.heap[b]? = some (.map es c)) (hi : intKeys kd es.toList = true) :
  (Instr.lookup t (.map (some b)) (.int kd n) ok).run P W = .ok (match entryI kd n es.toList with | some v => if ok then .tuple #[v, .bool true] else v | none => if ok then .tuple #[z, .bool false] else z) W := by
 have hg : (getObj b).run P W = .ok (.map es c) W := by simp [getObj, Sem.run, hb]
 obtain ⟨r, h1, h2⟩ := findNow_int kd n es.toList 0 hi
 have hz' : (zeroValue et).run P W = .ok z W := by
  unfold infoZ at hz
  cases hq : P.info? et with
  | none => rw [hq] at hz; cases hz
  | some i => rw [hq] at hz; simp at hz; simp [zeroValue, typeInfo, hq, hz]
 rw [← h2]
 cases r with
 | none => cases ok <;> simp [Instr.lookup, Sem.run_bind, run_underlying ht, hg, checkKey_int hk, Instr.findKey, run_underlying hk, h1, hz']
 | some x => cases ok <;> simp [Instr.lookup, Sem.run_bind, run_underlying ht, hg, checkKey_int hk, Instr.findKey, run_underlying hk, h1]
theorem AtE.lookW {b c : Nat} {es : Array MapEntry} {kt et : TypeId} {kd : IntKind} {n : Int} {z : Value} (hw : w0.heap[b]? = some (.map es c)) (hs : b ∉ S)
  (h : (asLookup P nt k e, P.underlying kt, (infoZ P et).map (·.1), intKeys kd es.toList) = (some (some (.map kt et), .map (some b), .int kd n, true), some (.int kd), some (some z), true))
  (hn : LookAll kd n (fun v => AtE P f nt (nextK k) (putE e (curDst nt k e) (.tuple #[v, .bool true])) L S w0 R) (AtE P f nt (nextK k) (putE e (curDst nt k e) (.tuple #[z, .bool false])) L S w0 R) es.toList) : AtE P f nt k e L S w0 R := by
 simp only [Prod.mk.injEq] at h
 obtain ⟨h1, h3, h4, h5⟩ := h
 obtain ⟨o, t, hc, ht, ho⟩ := asLookup_spec h1
 refine AtE.op hc fun W hm => ?_
 have hlt : b < w0.heap.size := (Array.getElem?_eq_some_iff.1 hw).1
 have hb : W.heap[b]? = some (.map es c) := (hm.kept.block b hlt hs).trans hw
 rcases hn.spec with ⟨v, hv, hat⟩ | ⟨hv, hat⟩
 ·refine ⟨.tuple #[v, .bool true], W, ?_, fun tm hk => hat tm W (by simpa only [curDst, hc] using hk) hm⟩
  rw [ho, Sem.run_bind, lookup_run ht h3 h4 hb h5, hv]; rfl
 ·refine ⟨.tuple #[z, .bool false], W, ?_, fun tm hk => hat tm W (by simpa only [curDst, hc] using hk) hm⟩
  rw [ho, Sem.run_bind, lookup_run ht h3 h4 hb h5, hv]; rfl
theorem info_open {E : TypeId} {z : Value} {sz bytes : Nat} (h : infoZ P E = some (some z, sz, bytes)) : ∃ i, P.info? E = some i ∧ i.zero = some z ∧ i.size = sz ∧ i.bytes = bytes := by
 unfold infoZ at h
 cases hq : P.info? E with
 | none => rw [hq] at h; cases h
 | some i =>
  rw [hq] at h
  simp only [Option.map_some, Option.some.injEq, Prod.mk.injEq] at h
  exact ⟨i, rfl, h.1, h.2.1, h.2.2⟩
theorem AtE.appendS {T U E : TypeId} {z : Value} {sz bytes : Nat} {x : Value} (n : Nat) (news : List Value)
  (h : (asBuiltin nt k e, P.underlying T, infoZ P E, z.cells.size) = (some (.append, [.slice none 0 0, x], [T, U]), some (.slice E), some (some z, sz, bytes), sz))
  (hs : ∀ W, Mem L S w0 W → Go.Src P sz U x n news W) (hb : n ≤ 9223372036854775807 ∧ n * bytes ≤ 140737488355328)
  (h0 : n = 0 → AtE P f nt (nextK k) (putE e (curDst nt k e) (.slice none 0 0)) L S w0 R)
  (hn : 0 < n → ∀ B cap r, n ≤ cap → (news ++ r).length = cap * sz → AtE P f nt (nextK k) (putE e (curDst nt k e) (.slice (some ⟨B, 0, none⟩) n cap)) (L ++ [(B, .cells ⟨news ++ r⟩ E)]) S w0 R) : AtE P f nt k e L S w0 R := by
 simp only [Prod.mk.injEq] at h
 obtain ⟨h1, h2, h3, h4⟩ := h
 obtain ⟨o, cl, hc, ho, hcb, ha, ht⟩ := asBuiltin_spec h1
 obtain ⟨i, hi, hz, hsz, hby⟩ := info_open h3
 refine AtE.opB hc ho hcb ha ht (by simp) fun W hm => ?_
 have hsr := hs W hm
 rcases Nat.eq_zero_or_pos n with hz0 | hp
 ·subst hz0
  have hnl := hsr.newsLen
  rw [Nat.zero_mul] at hnl
  obtain rfl : news = [] := List.length_eq_zero_iff.1 hnl
  have hr := run_append_nothing W T U o.type E i h2 hi none 0 0 (Nat.le_refl _) x (by rw [hsz]; exact hsr)
  exact ⟨_, W, run_lift hr, fun t hk => h0 rfl t W hk hm⟩
 ·have hr := run_append_grow_src W T U o.type E i z h2 hi hz none 0 0 [] (by simp [Builtin.firstCells]) x n news (by rw [hsz]; exact hsr) (by omega) (by omega) (growslice_fits (by omega) (by rw [hby, Nat.zero_add]; exact hb.2))
  refine ⟨_, _, run_lift hr, fun t hk => hn hp W.heap.size (grownCap W (0 + n) 0 E) (Builtin.zeroCells z.cells (grownCap W (0 + n) 0 E - (0 + n))).toList ?_ ?_ t _ (by simpa using hk) ?_⟩
  ·have := grownCap_ge W (0 + n) 0 E
   omega
  ·rw [List.length_append, zeroCells_len, hsr.newsLen, h4, ← Nat.add_mul]
   congr 1
   have := grownCap_ge W (0 + n) 0 E
   omega
  ·have := hm.drew.alloc (.cells ⟨news ++ (Builtin.zeroCells z.cells (grownCap W (0 + n) 0 E - (0 + n))).toList⟩ E)
   have he : (([] ++ news).toArray ++ Builtin.zeroCells z.cells (grownCap W (0 + n) 0 E - (0 + n))) = ⟨news ++ (Builtin.zeroCells z.cells (grownCap W (0 + n) 0 E - (0 + n))).toList⟩ := by
    apply Array.toList_inj.1; simp
   rw [he]; exact this
theorem perm_set {j : Nat} : ∀ (l : SHeap) (i : Nat) (x : Nat × Obj), i < l.length → (l.eraseIdx i ++ [x]).Perm (l.set i x)
 | [], i, x, h => by simp at h
 | y :: l, 0, x, _ => by
  simp only [List.eraseIdx_cons_zero, List.set_cons_zero]
  exact (List.perm_append_comm (l₁ := l) (l₂ := [x]))
 | y :: l, i + 1, x, h => by
  simp only [List.eraseIdx_cons_succ, List.set_cons_succ, List.cons_append]
  exact (perm_set (j := j) l i x (by simpa using h)).cons y
theorem setCells_setRow {W : World} {B o : Nat} {c : List Value} {t : TypeId} {fz : Nat × Nat} (h : W.heap[B]? = some (.cells ⟨c⟩ t fz)) (news : List Value) (hl : o + news.length ≤ c.length) :
  W.setCells B o news = W.setRow B ⟨c.take o ++ news ++ c.drop (o + news.length)⟩ := by
 have key : ∀ (news : List Value) (o : Nat) (c : List Value) (W : World), W.heap[B]? = some (.cells ⟨c⟩ t fz) → o + news.length ≤ c.length → (W.setCells B o news).heap = (W.setRow B ⟨c.take o ++ news ++ c.drop (o + news.length)⟩).heap ∧ (W.setCells B o news).os = W.os ∧ (W.setCells B o news).tape = W.tape ∧ (W.setCells B o news).output = W.output ∧ (W.setCells B o news).drawn = W.drawn := by
  intro news
  induction news with
  | nil =>
   intro o c W h hl
   have hset : (W.setRow B ⟨c⟩).heap = W.heap := by
    rw [World.setRow_heap' W B _ _ t fz h]
    apply Array.ext_getElem?
    intro i
    rw [Array.getElem?_setIfInBounds]
    split
    ·next heq => subst heq; rw [h, if_pos (Array.getElem?_eq_some_iff.1 h).1]
    ·rfl
   simp only [List.length_nil, Nat.add_zero, List.append_nil, List.take_append_drop]
   exact ⟨hset.symm, rfl, rfl, rfl, rfl⟩
  | cons v r ih =>
   intro o c W h hl
   simp only [List.length_cons] at hl
   have h1 : (W.setCell ⟨B, o, none⟩ v).heap[B]? = some (.cells ⟨c.set o v⟩ t fz) := by
    rw [setCell_setRow h, World.setRow_heap' W B _ _ t fz h]
    have : B < W.heap.size := (Array.getElem?_eq_some_iff.1 h).1
    simp [this]
   obtain ⟨q1, q2, q3, q4, q5⟩ := ih (o + 1) (c.set o v) (W.setCell ⟨B, o, none⟩ v) h1 (by simp; omega)
   refine ⟨?_, q2, q3, q4, q5⟩
   have hu : W.setCells B o (v :: r) = (W.setCell ⟨B, o, none⟩ v).setCells B (o + 1) r := rfl
   rw [hu, q1]
   rw [World.setRow_heap' _ B _ _ t fz h1, setCell_setRow h, World.setRow_heap' W B _ _ t fz h, World.setRow_heap' W B _ _ t fz h]
   have hc : (c.set o v).take (o + 1) ++ r ++ (c.set o v).drop (o + 1 + r.length) = c.take o ++ v :: r ++ c.drop (o + (r.length + 1)) := by
    have e1 : (c.set o v).take (o + 1) = c.take o ++ [v] := by
     rw [List.set_eq_take_append_cons_drop, if_pos (by omega)]
     have ht : (c.take o).length = o := by rw [List.length_take]; omega
     rw [List.take_append, ht]
     simp [Nat.add_sub_cancel_left, List.take_of_length_le (show (c.take o).length ≤ o + 1 by omega)]
    have e2 : (c.set o v).drop (o + 1 + r.length) = c.drop (o + (r.length + 1)) := by
     rw [List.drop_set_of_lt (by omega)]
     congr 1; omega
    rw [e1, e2]; simp
   simp only [List.length_cons]
   rw [hc]
   apply Array.ext_getElem?
   intro i
   simp only [Array.getElem?_setIfInBounds, Array.size_setIfInBounds]
   split <;> rfl
 obtain ⟨q1, q2, q3, q4, q5⟩ := key news o c W h hl
 generalize W.setCells B o news = X at q1 q2 q3 q4 q5
 obtain ⟨x1, x2, x3, x4, x5⟩ := X
 simp only at q1 q2 q3 q4 q5
 subst q1 q2 q3 q4 q5
 rfl
theorem AtE.appendOS (j : Nat) {T U E : TypeId} {z : Value} {sz bytes len cap : Nat} {x : Value} {cs : List Value} (n : Nat) (news : List Value)
  (h : (asBuiltin nt k e, P.underlying T, infoZ P E, z.cells.size, isCellsL L j, cellsL L j, elemL L j, fzL L j) =
   (some (.append, [.slice (some ⟨blkL L j, 0, none⟩) len cap, x], [T, U]), some (.slice E), some (some z, sz, bytes), sz, true, cs, E, (0, 0)))
  (hs : ∀ W, Mem L S w0 W → Go.Src P sz U x n news W) (hlen : len ≤ cap ∧ cs.length = cap * sz) (hb : len + n ≤ 9223372036854775807 ∧ (len + n) * bytes ≤ 140737488355328)
  (hn : ∀ B cap' r, len + n ≤ cap' → (cs.take (len * sz) ++ news ++ r).length = cap' * sz → AtE P f nt (nextK k) (putE e (curDst nt k e) (.slice (some ⟨B, 0, none⟩) (len + n) cap')) (L.eraseIdx j ++ [(B, .cells ⟨cs.take (len * sz) ++ news ++ r⟩ E)]) S w0 R) :
  AtE P f nt k e L S w0 R := by
 simp only [Prod.mk.injEq] at h
 obtain ⟨h1, h2, h3, h4, h5, h6, h7, h8⟩ := h
 obtain ⟨o, cl, hc, ho, hcb, ha, ht⟩ := asBuiltin_spec h1
 obtain ⟨i, hi, hz, hsz, hby⟩ := info_open h3
 refine AtE.opB hc ho hcb ha ht (by simp) fun W hm => ?_
 have hsr := hs W hm
 have hnl := hsr.newsLen
 have hh := hm.heapAt h5
 rw [h6, h7, h8] at hh
 have hjl : L[j]? = some (blkL L j, .cells ⟨cs⟩ E (0, 0)) := by rw [isCellsL_spec h5, h6, h7, h8]
 have hjlt : j < L.length := (List.getElem?_eq_some_iff.1 hjl).1
 have hnle : len * sz ≤ cs.length := by rw [hlen.2]; exact Nat.mul_le_mul_right _ hlen.1
 by_cases hroom : len + n ≤ cap
 ·have hfit : len * sz + news.length ≤ cs.length := by
   rw [hnl, hlen.2, ← Nat.add_mul]; exact Nat.mul_le_mul_right _ hroom
  have hr := run_append_room_src W T U o.type E i h2 hi (blkL L j) 0 len cap x n news (by rw [hsz]; exact hsr) hroom
   (fun q hq => by rw [hsz, Nat.zero_add, cell_of_heap hh, List.getElem?_eq_getElem (by omega)]; rfl)
   (fun q hq => by simp [World.frozen?, hh])
  rw [hsz, Nat.zero_add, setCells_setRow hh news hfit] at hr
  refine ⟨_, _, run_lift hr, fun t hk => hn (blkL L j) cap (cs.drop (len * sz + news.length)) hroom ?_ t _ hk ?_⟩
  ·simp only [List.length_append, List.length_take, List.length_drop]
   rw [← hlen.2]; omega
  ·have h9 := hm.setRow h5 (cs.take (len * sz) ++ news ++ cs.drop (len * sz + news.length))
   refine h9.perm ?_
   unfold setL
   rw [h7, h8]
   exact perm_set (j := j) L j _ hjlt
 ·have holds : (Builtin.firstCells i.size len (.slice (some ⟨blkL L j, 0, none⟩) len cap)).run P W.drew = .ok (cs.take (len * sz)).toArray W.drew := by
   rw [hsz]
   refine run_firstCells_some W.drew sz len ⟨blkL L j, 0, none⟩ len cap (cs.take (len * sz)) (by rw [List.length_take]; exact Nat.min_eq_left hnle) fun q u hu => ?_
   have hhd : W.drew.heap[blkL L j]? = some (.cells ⟨cs⟩ E (0, 0)) := hh
   rw [addr_add, cell_of_heap hhd, Nat.zero_add]
   rw [List.getElem?_take] at hu
   split at hu
   ·exact hu
   ·cases hu
  have hlt : (cs.take (len * sz)).length = len * sz := by rw [List.length_take]; exact Nat.min_eq_left hnle
  have hr := run_append_grow_src W T U o.type E i z h2 hi hz (some ⟨blkL L j, 0, none⟩) len cap (cs.take (len * sz)) holds x n news (by rw [hsz]; exact hsr) (by omega) (by omega) (growslice_fits (by omega) (by rw [hby]; exact hb.2))
  refine ⟨_, _, run_lift hr, fun t hk => hn W.heap.size (grownCap W (len + n) cap E) (Builtin.zeroCells z.cells (grownCap W (len + n) cap E - (len + n))).toList (grownCap_ge W (len + n) cap E) ?_ t _ hk ?_⟩
  ·rw [List.length_append, List.length_append, zeroCells_len, hnl, h4, hlt, ← Nat.add_mul, ← Nat.add_mul]
   congr 1
   have := grownCap_ge W (len + n) cap E
   omega
  ·have := (hm.drop j).drew.alloc (.cells ⟨cs.take (len * sz) ++ news ++ (Builtin.zeroCells z.cells (grownCap W (len + n) cap E - (len + n))).toList⟩ E)
   have he : ((cs.take (len * sz) ++ news).toArray ++ Builtin.zeroCells z.cells (grownCap W (len + n) cap E - (len + n))) = ⟨cs.take (len * sz) ++ news ++ (Builtin.zeroCells z.cells (grownCap W (len + n) cap E - (len + n))).toList⟩ := by
    apply Array.toList_inj.1; simp
   rw [he]; exact this
theorem srcStr {U : TypeId} (hU : P.underlying U = some .string) (s : ByteArray) : ∀ W, Mem L S w0 W → Go.Src P 1 U (.string s) s.size (bytesL s.data.toList) W := fun W _ => Go.Src.ofString W hU s
theorem srcSl {U E' : TypeId} {sz n c : Nat} {a : Addr} {news : List Value} (hU : P.underlying U = some (.slice E')) (hs : Src L S w0 a news) (hl : news.length = n * sz) (h1 : ∀ u ∈ news, u.oneCell' = true) : ∀ W, Mem L S w0 W → Go.Src P sz U (.slice (some a) n c) n news W :=
 fun W hm => Go.Src.ofSlice W hU a n c news hl (hs W hm) h1
theorem srcNil {U E' : TypeId} {sz c : Nat} (hU : P.underlying U = some (.slice E')) : ∀ W, Mem L S w0 W → Go.Src P sz U (.slice none 0 c) 0 [] W := fun W _ => Go.Src.ofNil W hU c
theorem Mem.freeze {W : World} (hm : Mem L S w0 W) {j : Nat} {B n : Nat} {o : Obj} (hj : L[j]? = some (B, o)) : Mem (L.eraseIdx j) S w0 (W.freeze ⟨B, 0, none⟩ n) := by
 have h0 := hm.drop j
 unfold World.freeze
 split
 ·exact h0
 ·have hne : ∀ p ∈ L.eraseIdx j, p.1 ≠ B := by
   intro p hp heq
   have hnd := hm.nodup
   have hjl : j < L.length := (List.getElem?_eq_some_iff.1 hj).1
   have hpm : ((L.eraseIdx j ++ [(B, o)]).map (·.1)).Nodup := by
    have := perm_set (j := j) L j (B, o) hjl
    have hself : L.set j (B, o) = L := by
     apply List.ext_getElem?
     intro i
     rw [List.getElem?_set]
     split
     ·next e => subst e; first | rw [if_pos hjl, hj] | exact hj.symm
     ·rfl
    rw [hself] at this
    exact (this.map _).nodup_iff.2 hnd
   rw [List.map_append, List.nodup_append] at hpm
   exact hpm.2.2 _ (List.mem_map_of_mem hp) B (by simp) heq
  refine ⟨h0.nodup, fun p hp => ?_, h0.own, ⟨h0.kept.os, h0.kept.tape, h0.kept.output, by simpa using h0.kept.size, fun i hi hs => ?_⟩⟩
  ·show (W.heap.modify B _)[p.1]? = _
   rw [Array.getElem?_modify, if_neg (fun h => hne p hp h.symm)]
   exact h0.here p hp
  ·show (W.heap.modify B _)[i]? = _
   rw [Array.getElem?_modify, if_neg]
   ·exact h0.kept.block i hi hs
   ·intro e
    subst e
    rcases hm.own _ (List.mem_of_getElem? hj) with h | h
    ·simp at h; omega
    ·exact hs h
theorem AtE.unsafeStr (j : Nat) {B E pt it n : Nat} {c : List Value} {l : List UInt8}
  (h : (asBuiltin nt k e, L[j]?, P.underlying pt, P.cellsOf E) = (some (.unsafeString, [.pointer (some ⟨B, 0, none⟩), .int .i64 (n : Int)], [pt, it]), some (B, .cells ⟨c⟩ E), some (.pointer E), 1))
  (hl : c.take n = bytesL l ∧ l.length = n ∧ 0 < n ∧ n ≤ 9223372036854775807)
  (hn : AtE P f nt (nextK k) (putE e (curDst nt k e) (.string ⟨l.toArray⟩)) (L.eraseIdx j) S w0 R) : AtE P f nt k e L S w0 R := by
 simp only [Prod.mk.injEq] at h
 obtain ⟨h1, h2, h3, h4⟩ := h
 obtain ⟨hl1, hl2, hl3, hl4⟩ := hl
 obtain ⟨o, cl, hc, ho, hcb, ha, ht⟩ := asBuiltin_spec h1
 refine AtE.opB hc ho hcb ha ht (by simp) fun W hm => ?_
 have hh : W.heap[B]? = some (.cells ⟨c⟩ E) := hm.here _ (List.mem_of_getElem? h2)
 have hle : l.length ≤ c.length := by
  have := congrArg List.length hl1
  rw [List.length_take, bytesL, List.length_map] at this
  omega
 have hr := Go.Lib.run_unsafeString_row (P := P) (w := W) pt it o.type E h3 h4 B c.length (by simp [World.shape?, hh]) l (by intro h0; subst h0; simp at hl2; omega) hle (by omega)
  (fun q x hq => by
   rw [addr_add, cell_of_heap hh, Nat.zero_add]
   have hqlt : q < l.length := (List.getElem?_eq_some_iff.1 hq).1
   have : (c.take n)[q]? = some (.int .u8 (x.toNat : Int)) := by rw [hl1, bytesL, List.getElem?_map, hq]; rfl
   rw [List.getElem?_take_of_lt (by omega)] at this
   exact this)
 rw [hl2] at hr
 exact ⟨_, _, run_lift hr, fun t hk => hn t _ hk (hm.freeze h2)⟩
theorem CallH.mono {g : FuncId} {args : Array Value} {K K' : Value → SHeap → Prop} (h : CallH P g args L S w0 K) (hk : ∀ v L', K v L' → K' v L') : CallH P g args L S w0 K' :=
 fun W hm => (h W hm).mono fun _ _ ⟨v, L', h1, h2, h3⟩ => ⟨v, L', h1, h2, hk v L' h3⟩
def asBin2 (nt : Nat) (k : List Item) (e : Env) : Option (BinOp × TypeId × Value × Value) :=
 match cur nt k e with
 | some o => match o.op with
  | .binOp b T x y _ => some (b, T, rho e x, rho e y)
  | _ => none
 | none => none
theorem asBin2_spec {b : BinOp} {T : TypeId} {x y : Value} (h : asBin2 nt k e = some (b, T, x, y)) : ∃ o p q r, cur nt k e = some o ∧ o.op = .binOp b T p q r ∧ rho e p = x ∧ rho e q = y := by
 unfold asBin2 at h
 split at h
 ·next o hc =>
  split at h
  ·next b' T' p q r ho => simp only [Option.some.injEq, Prod.mk.injEq] at h; obtain ⟨rfl, rfl, hx, hy⟩ := h; exact ⟨o, p, q, r, hc, ho, hx, hy⟩
  ·cases h
 ·cases h
theorem AtE.neqSame {T E : TypeId} {a : Addr} (h : (asBin2 nt k e, P.underlying T, (P.info? E).isSome) = (some (.neq, T, .pointer (some a), .pointer (some a)), some (.pointer E), true))
  (hn : AtE P f nt (nextK k) (putE e (curDst nt k e) (.bool false)) L S w0 R) : AtE P f nt k e L S w0 R := by
 simp only [Prod.mk.injEq] at h
 obtain ⟨h1, h2, h3⟩ := h
 obtain ⟨o, p, q, r, hc, ho, hx, hy⟩ := asBin2_spec h1
 obtain ⟨j, hj⟩ := Option.isSome_iff_exists.1 h3
 refine AtE.opV hc (fun W _ => ?_) hn
 simp only [execOp, ho, hx, hy]
 refine run_lift ?_
 have hg : (eqGuard .neq T p q (.pointer (some a)) (.pointer (some a))).run P W = .ok () W := by
  simp [eqGuard]
 rw [Sem.run_bind, hg]
 exact Lib.run_neq_ptr_same W a h2 hj
theorem AtE.ptrConv (j : Nat) {t : TypeId} {B off : Nat} {c : List Value} {E : TypeId} {fz : Nat × Nat} {sz : Nat}
  (h : (asConv P nt k e, L[j]?, (P.info? t).map (·.size)) = (some (some (.pointer t), some .unsafePointer, .pointer (some ⟨B, off, none⟩)), some (B, .cells ⟨c⟩ E fz), some (sz + 1))) (hoff : off < c.length)
  (hn : AtE P f nt (nextK k) (putE e (curDst nt k e) (.pointer (some ⟨B, off, none⟩))) L S w0 R) : AtE P f nt k e L S w0 R := by
 simp only [Prod.mk.injEq] at h
 obtain ⟨h1, h2, h3⟩ := h
 obtain ⟨o, s, d, x, hc, ho, hs, hd, hx⟩ := asConv_spec h1
 obtain ⟨i, hi, hsz⟩ := Option.map_eq_some_iff.1 h3
 refine AtE.opV hc (fun W hm => ?_) hn
 simp only [execOp, ho, hx]
 have hh : W.heap[B]? = some (.cells ⟨c⟩ E fz) := hm.here _ (List.mem_of_getElem? h2)
 exact run_lift (Lib.run_to_unsafe W ⟨B, off, none⟩ hs hd hi (by omega) (e := E) (cells := c.length) (by simp [World.shape?, hh]) hoff)
theorem AtE.ptrBack (j : Nat) {u : TypeId} {B off n : Nat} {c : List Value} {E : TypeId} {fz : Nat × Nat}
  (h : (asConv P nt k e, L[j]?, (P.info? u).isSome, liesAt P P.depth E (n / P.cellsOf E) off u 1) = (some (some .unsafePointer, some (.pointer u), .pointer (some ⟨B, off, none⟩)), some (B, .cells ⟨c⟩ E fz), true, true)) (hl : c.length = n)
  (hn : AtE P f nt (nextK k) (putE e (curDst nt k e) (.pointer (some ⟨B, off, none⟩))) L S w0 R) : AtE P f nt k e L S w0 R := by
 subst hl
 simp only [Prod.mk.injEq] at h
 obtain ⟨h1, h2, h3, h4⟩ := h
 obtain ⟨o, s, d, x, hc, ho, hs, hd, hx⟩ := asConv_spec h1
 obtain ⟨i, hi⟩ := Option.isSome_iff_exists.1 h3
 refine AtE.opV hc (fun W hm => ?_) hn
 simp only [execOp, ho, hx]
 have hh : W.heap[B]? = some (.cells ⟨c⟩ E fz) := hm.here _ (List.mem_of_getElem? h2)
 exact run_lift (Lib.run_from_unsafe W ⟨B, off, none⟩ hs hd hi (e := E) (cells := c.length) (by simp [World.shape?, hh]) h4)
end
section
variable {P : Program} {f nt : Nat} {k : List Item} {e : Env} {L : SHeap} {S : List Nat} {w0 : World} {ops : Array Oper} {nq : Nat} {kk : List Item}
def held (L : SHeap) (w0 : World) (b : Nat) (c : List Value) : Prop := (∃ t fz, (b, Obj.cells ⟨c⟩ t fz) ∈ L) ∨ blkW w0 b = some c
theorem held_at {W : World} {b : Nat} {c : List Value} (hm : Mem L S w0 W) (hb : b ∉ S) (h : held L w0 b c) : ∃ t fz, W.heap[b]? = some (.cells ⟨c⟩ t fz) := by
 rcases h with ⟨t, fz, h⟩ | hc
 ·exact ⟨t, fz, hm.here _ h⟩
 ·unfold blkW at hc
  split at hc
  ·next c' t fz hh =>
   simp at hc; subst hc
   have hlt : b < w0.heap.size := by
    rcases Nat.lt_or_ge b w0.heap.size with h | h
    ·exact h
    ·rw [Array.getElem?_eq_none h] at hh; cases hh
   exact ⟨t, fz, by rw [hm.kept.block b hlt hb, hh]⟩
  ·cases hc
theorem AtE.loadM {R : Goal P} {b off : Nat} {T : TypeId} {v : Value} {c : List Value} (h : asLoad nt k e = some (T, .pointer (some ⟨b, off, none⟩))) (hb : b ∉ S) (hc : held L w0 b c) (hv : valAt P T c off = some v)
  (hn : AtE P f nt (nextK k) (putE e (curDst nt k e) v) L S w0 R) : AtE P f nt k e L S w0 R := by
 obtain ⟨o, x, hcu, ho, hx⟩ := asLoad_spec h
 refine AtE.opV hcu (fun W hm => ?_) hn
 simp only [execOp, ho, hx]
 obtain ⟨t, fz, hh⟩ := held_at hm hb hc
 exact run_lift (load_run (t := t) (fz := fz) hh hv)
end
section
variable {P : Program} {nt : Nat} {k : List Item} {e : Env} {L : SHeap} {S : List Nat} {w0 : World} {R : Env → Prop}
theorem AtF.split (i : Nat) {b : Bool} (h : get? e i = some (.bool b)) (h1 : b = true → AtF P nt k ((i, .bool true) :: e) L S w0 R)
  (h0 : b = false → AtF P nt k ((i, .bool false) :: e) L S w0 R) : AtF P nt k e L S w0 R := by
 cases b
 ·exact AtF.push h (h0 rfl)
 ·exact AtF.push h (h1 rfl)
theorem AtF.sliceS {s : ByteArray} {lo hi : Option Value} (h : asSlice P nt k e = some (some .string, .string s, lo, hi, none)) {a b : Int}
  (hlo : (∃ kd, lo = some (.int kd a)) ∨ (lo = none ∧ a = 0)) (hhi : (∃ kd, hi = some (.int kd b)) ∨ (hi = none ∧ b = s.size)) (hb : 0 ≤ a ∧ a ≤ b ∧ b ≤ s.size)
  (hn : AtF P nt (nextK k) (putE e (curDst nt k e) (.string (s.extract a.toNat b.toNat))) L S w0 R) : AtF P nt k e L S w0 R := (OpV.sliceS h hlo hhi hb).F hn
theorem AtF.load (j off : Nat) {T : TypeId} {v : Value} (h : (asLoad nt k e, isCellsL L j, valAt P T (cellsL L j) off) = (some (T, .pointer (some ⟨blkL L j, off, none⟩)), true, some v))
  (hn : AtF P nt (nextK k) (putE e (curDst nt k e) v) L S w0 R) : AtF P nt k e L S w0 R := (OpV.load j off h).F hn
theorem AtF.loadS (j : Nat) {off : Nat} {T : TypeId} {v : Value} {c : List Value} (h : (asLoad nt k e, isCellsL L j, cellsL L j) = (some (T, .pointer (some ⟨blkL L j, off, none⟩)), true, c)) (h3 : valAt P T c off = some v)
  (hn : AtF P nt (nextK k) (putE e (curDst nt k e) v) L S w0 R) : AtF P nt k e L S w0 R := (OpV.loadS j h h3).F hn
theorem AtF.indexAddrL {E : TypeId} {b o len cap sz o' : Nat} {kd : IntKind} {i : Int} (h : (asIndexAddr P nt k e, (P.info? E).map (·.size)) = (some (some (.slice E), .slice (some ⟨b, o, none⟩) len cap, .int kd i), some sz))
  (hb : 0 ≤ i ∧ i < len) (ho : o' = o + i.toNat * sz) (hn : AtF P nt (nextK k) (putE e (curDst nt k e) (.pointer (some ⟨b, o', none⟩))) L S w0 R) : AtF P nt k e L S w0 R := (OpV.indexAddrL h hb ho).F hn
end
section
variable {P : Program} {f nt : Nat} {k : List Item} {e : Env} {L : SHeap} {S : List Nat} {w0 : World} {G : Goal P}
def asCallV (nt : Nat) (k : List Item) (e : Env) : Option (Value × List Value) :=
 match cur nt k e with
 | some o => match o.op with
  | .call c => match c.callee with
   | .value x => some (rho e x, c.args.toList.map (rho e))
   | _ => none
  | _ => none
 | none => none
theorem asCallV_spec {v : Value} {as : List Value} (h : asCallV nt k e = some (v, as)) :
  ∃ o c x, cur nt k e = some o ∧ o.op = .call c ∧ c.callee = .value x ∧ rho e x = v ∧ c.args.map (rho e) = ⟨as⟩ := by
 unfold asCallV at h
 split at h
 ·next o hc =>
  split at h
  ·next c ho =>
   split at h
   ·next x hx =>
    simp only [Option.some.injEq, Prod.mk.injEq] at h
    obtain ⟨h1, h2⟩ := h
    refine ⟨o, c, x, hc, ho, hx, h1, ?_⟩
    apply Array.toList_inj.1; simpa using h2
   ·cases h
  ·cases h
 ·cases h
def FnReady (P : Program) (g : FuncId) : Prop := ∃ fn, P.funcs[g]? = some fn ∧ fn.body.isNone = false ∧ (fn.name == "runtime.NumGoroutine") = false
theorem callV_run {o : Oper} {c : Call} {x : Operand} {g : FuncId} {first caps as : List Value} (ho : o.op = .call c) (hx : c.callee = .value x) (hv : rho e x = .func (.func g) ⟨first⟩ ⟨caps⟩) (ha : c.args.map (rho e) = ⟨as⟩)
  (hg : FnReady P g) (W : World) : (execOp (rho e) o).run P W = .ok (.enter g ⟨first ++ as ++ caps⟩) W := by
 obtain ⟨fn, h1, h2, h3⟩ := hg
 have hargs : (⟨first⟩ ++ ⟨as⟩ ++ ⟨caps⟩ : Array Value) = ⟨first ++ as ++ caps⟩ := by simp
 simp only [execOp, ho, resolve, hx, hv, ha, Deferred.ofValue, Sem.run_bind, Sem.run_pure, Result.andThen_ok, invoke, callFunc, run_program, h1, h2, h3, hargs, Bool.false_eq_true, if_false]
theorem AtE.callV (g : FuncId) (first caps as : List Value) {L1 : SHeap} {K : Value → SHeap → Prop} {K' : List PanicEntry → SHeap → Prop} (h : (asCallV nt k e, L) = (some (.func (.func g) ⟨first⟩ ⟨caps⟩, as), L1)) (hg : FnReady P g)
  (H : CallP P g ⟨first ++ as ++ caps⟩ L1 S w0 K K') (hn : ∀ v L', K v L' → AtE P f nt (nextK k) (putE e (curDst nt k e) v) L' S w0 G) (hp : ∀ ch L', K' ch L' → RaiseE P f nt e ch L' S w0 G) : AtE P f nt k e L S w0 G := by
 simp only [Prod.mk.injEq] at h
 obtain ⟨h, rfl⟩ := h
 obtain ⟨o, c, x, hc, ho, hx, hv, ha⟩ := asCallV_spec h
 have hcO : curO nt k e = o := by simp [curO, hc]
 exact AtE.callP g _ (fun W => by rw [hcO]; exact callV_run ho hx hv ha hg W) (by rw [hcO, hc]) H hn hp
def EffP (P : Program) (g : FuncId) (args : Array Value) (L0 : SHeap) (Pre : World → Prop) (K : Value → SHeap → Prop) (K' : List PanicEntry → SHeap → Prop) : Prop :=
 ∀ W, Mem L0 (L0.map (·.1)) W W → Pre W → Calls P g args W fun e W' =>
  (∃ v L', e = .returned v ∧ Mem L' (L0.map (·.1)) W W' ∧ K v L') ∨ ∃ ch L', e = .panicked ch ∧ Mem L' (L0.map (·.1)) W W' ∧ K' ch L'
theorem Mem.framed {L0 L1 L' : SHeap} {W W' : World} (hm' : Mem (L0 ++ L1) S w0 W) (hL : Mem L' (L0.map (·.1)) W W') : Mem (L' ++ L1) S w0 W' := by
 have hnd := hm'.nodup
 rw [List.map_append, List.nodup_append] at hnd
 obtain ⟨n0, n1, nd⟩ := hnd
 refine ⟨?_, ?_, ?_, ?_⟩
 ·rw [List.map_append, List.nodup_append]
  refine ⟨hL.nodup, n1, ?_⟩
  intro a ha b hb hab
  subst hab
  obtain ⟨p, hp, rfl⟩ := List.mem_map.1 ha
  obtain ⟨q, hq, hqe⟩ := List.mem_map.1 hb
  rcases hL.own p hp with h1 | h1
  ·have := hm'.lt (List.mem_append_right L0 hq)
   omega
  ·exact nd _ h1 _ hb rfl
 ·intro p hp
  rcases List.mem_append.1 hp with hp | hp
  ·exact hL.here p hp
  ·rw [hL.kept.block p.1 (hm'.lt (List.mem_append_right _ hp)) (fun h0 => nd _ h0 _ (List.mem_map_of_mem hp) rfl)]
   exact hm'.here p (List.mem_append_right _ hp)
 ·intro p hp
  rcases List.mem_append.1 hp with hp | hp
  ·rcases hL.own p hp with h1 | h1
   ·exact .inl (Nat.le_trans hm'.kept.size h1)
   ·obtain ⟨q, hq, hqe⟩ := List.mem_map.1 h1
    have := hm'.own q (List.mem_append_left _ hq)
    rw [hqe] at this; exact this
  ·exact hm'.own p (List.mem_append_right _ hp)
 ·refine ⟨hL.kept.os.trans hm'.kept.os, hL.kept.tape.trans hm'.kept.tape, hL.kept.output.trans hm'.kept.output, Nat.le_trans hm'.kept.size hL.kept.size, fun i hi hs => ?_⟩
  rw [hL.kept.block i (Nat.lt_of_lt_of_le hi hm'.kept.size) (fun h0 => ?_)]
  ·exact hm'.kept.block i hi hs
  ·obtain ⟨q, hq, hqe⟩ := List.mem_map.1 h0
   rcases hm'.own q (List.mem_append_left _ hq) with h1 | h1
   ·rw [hqe] at h1; omega
   ·rw [hqe] at h1; exact hs h1
theorem CallP.eff {g : FuncId} {args : Array Value} {L0 L1 : SHeap} {Pre : World → Prop} {K k1 : Value → SHeap → Prop} {K' k1' : List PanicEntry → SHeap → Prop} (h : EffP P g args L0 Pre K K') (hpre : ∀ W, Mem L S w0 W → Pre W) (hp : (L0 ++ L1).Perm L)
  (hK : ∀ v L', K v L' → ∃ L2, (L' ++ L1).Perm L2 ∧ k1 v L2) (hK' : ∀ ch L', K' ch L' → ∃ L2, (L' ++ L1).Perm L2 ∧ k1' ch L2) : CallP P g args L S w0 k1 k1' := by
 intro W hm
 have hm' : Mem (L0 ++ L1) S w0 W := hm.perm hp
 have hnd := hm'.nodup
 rw [List.map_append, List.nodup_append] at hnd
 refine (h W ⟨hnd.1, fun p hp => hm'.here p (List.mem_append_left _ hp), fun p hp => .inr (List.mem_map_of_mem hp), Kept.refl _ W⟩ (hpre W hm)).mono ?_
 rintro e W' (⟨v, L', rfl, hL, hk⟩ | ⟨ch, L', rfl, hL, hk⟩)
 ·obtain ⟨L2, hp2, hk2⟩ := hK v L' hk
  exact .inl ⟨v, L2, rfl, Mem.perm (L := L' ++ L1) (hm'.framed hL) hp2.symm, hk2⟩
 ·obtain ⟨L2, hp2, hk2⟩ := hK' ch L' hk
  exact .inr ⟨ch, L2, rfl, Mem.perm (L := L' ++ L1) (hm'.framed hL) hp2.symm, hk2⟩
end
section
variable {P : Program} {f nt : Nat} {k : List Item} {e : Env} {L L0 : SHeap} {S : List Nat} {w0 : World} {ops : Array Oper} {n : Nat} {kk : List Item} {R : Goal P}
theorem AtM.store (L1 : SHeap) (j off : Nat) {T : TypeId} {v : Value} (hl : L = L0 ++ L1) (h : (asStore nt k e, isCellsL L j, fzL L j, putOk P T (cellsL L j) off v) = (some (T, .pointer (some ⟨blkL L j, off, none⟩), v), true, (0, 0), true))
  (hn : AtM P f nt ops n kk L0 (nextK k) (putE e (curDst nt k e) undef) (setL L j (putD P T (cellsL L j) off v)) S w0 R) : AtM P f nt ops n kk L0 k e L S w0 R := by
 simp only [Prod.mk.injEq] at h
 obtain ⟨h1, h2, h3, h4⟩ := h
 obtain ⟨o, x, y, hc, ho, hx, hy⟩ := asStore_spec h1
 cases hp : putC P T (cellsL L j) off v with
 | none => simp [putOk, hp] at h4
 | some c' =>
  have hd : putD P T (cellsL L j) off v = c' := by simp [putD, hp]
  rw [hd] at hn
  refine AtM.opK L1 hl hc (fun W hm => ⟨W.setRow (blkL L j) ⟨c'⟩, ?_, hm.setRow h2 c'⟩) hn
  simp only [execOp, ho, hx, hy]
  have hh := hm.heapAt h2
  rw [h3] at hh
  rw [Sem.run_bind, store_run hh hp]; rfl
theorem AtM.pure (L1 : SHeap) (hl : L = L0 ++ L1) (hc : cur nt k e = some (curO nt k e)) (hr : ∀ W, (execOp (rho e) (curO nt k e)).run P W = .ok (.value (vQ P nt k e)) W)
  (hn : AtM P f nt ops n kk L0 (nextK k) (putE e (curDst nt k e) (vQ P nt k e)) L S w0 R) : AtM P f nt ops n kk L0 k e L S w0 R :=
 AtM.opW L1 hl hc fun W hm => ⟨_, L, W, hr W, hm, hn⟩
theorem AtM.appendS (L1 : SHeap) {T U E : TypeId} {z : Value} {sz bytes : Nat} {x : Value} (m : Nat) (news : List Value) (hl : L = L0 ++ L1)
  (h : (asBuiltin nt k e, P.underlying T, infoZ P E, z.cells.size) = (some (.append, [.slice none 0 0, x], [T, U]), some (.slice E), some (some z, sz, bytes), sz))
  (hs : ∀ W, Mem L S w0 W → Go.Src P sz U x m news W) (hb : m ≤ 9223372036854775807 ∧ m * bytes ≤ 140737488355328)
  (h0 : m = 0 → AtM P f nt ops n kk L0 (nextK k) (putE e (curDst nt k e) (.slice none 0 0)) L S w0 R)
  (hn : 0 < m → ∀ B cap r, m ≤ cap → (news ++ r).length = cap * sz → AtM P f nt ops n kk L0 (nextK k) (putE e (curDst nt k e) (.slice (some ⟨B, 0, none⟩) m cap)) (L ++ [(B, .cells ⟨news ++ r⟩ E)]) S w0 R) : AtM P f nt ops n kk L0 k e L S w0 R := by
 simp only [Prod.mk.injEq] at h
 obtain ⟨h1, h2, h3, h4⟩ := h
 obtain ⟨o, cl, hc, ho, hcb, ha, ht⟩ := asBuiltin_spec h1
 obtain ⟨i, hi, hz, hsz, hby⟩ := info_open h3
 refine AtM.opW L1 hl hc fun W hm => ?_
 rw [run_builtin ho hcb ha ht (by simp) W]
 have hsr := hs W hm
 rcases Nat.eq_zero_or_pos m with hz0 | hp
 ·subst hz0
  have hnl := hsr.newsLen
  rw [Nat.zero_mul] at hnl
  obtain rfl : news = [] := List.length_eq_zero_iff.1 hnl
  have hr := run_append_nothing W T U o.type E i h2 hi none 0 0 (Nat.le_refl _) x (by rw [hsz]; exact hsr)
  exact ⟨_, L, W, run_lift hr, hm, h0 rfl⟩
 ·have hr := run_append_grow_src W T U o.type E i z h2 hi hz none 0 0 [] (by simp [Builtin.firstCells]) x m news (by rw [hsz]; exact hsr) (by omega) (by omega) (growslice_fits (by omega) (by rw [hby, Nat.zero_add]; exact hb.2))
  have he : (([] ++ news).toArray ++ Builtin.zeroCells z.cells (grownCap W (0 + m) 0 E - (0 + m))) = ⟨news ++ (Builtin.zeroCells z.cells (grownCap W (0 + m) 0 E - (0 + m))).toList⟩ := by
   apply Array.toList_inj.1; simp
  rw [he] at hr
  refine ⟨_, _, _, run_lift hr, hm.drew.alloc _, ?_⟩
  have := hn hp W.heap.size (grownCap W (0 + m) 0 E) (Builtin.zeroCells z.cells (grownCap W (0 + m) 0 E - (0 + m))).toList ?_ ?_
  ·simpa using this
  ·have := grownCap_ge W (0 + m) 0 E
   omega
  ·rw [List.length_append, zeroCells_len, hsr.newsLen, h4, ← Nat.add_mul]
   congr 1
   have := grownCap_ge W (0 + m) 0 E
   omega
theorem AtE.loadT {b off : Nat} {T : TypeId} {v : Value} {c : List Value} (h : asLoad nt k e = some (T, .pointer (some ⟨b, off, none⟩))) (hc : ∃ t fz, (b, Obj.cells ⟨c⟩ t fz) ∈ L) (hv : valAt P T c off = some v)
  (hn : AtE P f nt (nextK k) (putE e (curDst nt k e) v) L S w0 R) : AtE P f nt k e L S w0 R := by
 obtain ⟨o, x, hcu, ho, hx⟩ := asLoad_spec h
 refine AtE.opV hcu (fun W hm => ?_) hn
 simp only [execOp, ho, hx]
 obtain ⟨t, fz, hh⟩ := hc
 exact run_lift (load_run (t := t) (fz := fz) (hm.here _ hh) hv)
theorem AtE.indexAddrP {E : TypeId} {p : Option Addr} {b o len cap sz o' : Nat} {kd : IntKind} {i : Int} (hp : p = some ⟨b, o, none⟩) (h : (asIndexAddr P nt k e, (P.info? E).map (·.size)) = (some (some (.slice E), .slice p len cap, .int kd i), some sz))
  (hb : 0 ≤ i ∧ i < len) (ho : o' = o + i.toNat * sz) (hn : AtE P f nt (nextK k) (putE e (curDst nt k e) (.pointer (some ⟨b, o', none⟩))) L S w0 R) : AtE P f nt k e L S w0 R := by
 subst hp; exact AtE.indexAddrL h hb ho hn
theorem AtQ.indexAddrP {E : TypeId} {p : Option Addr} {b o len cap sz o' : Nat} {kd : IntKind} {i : Int} (hp : p = some ⟨b, o, none⟩) (h : (asIndexAddr P nt k e, (P.info? E).map (·.size)) = (some (some (.slice E), .slice p len cap, .int kd i), some sz))
  (hb : 0 ≤ i ∧ i < len) (ho : o' = o + i.toNat * sz) (hn : AtQ P f nt ops n kk (nextK k) (putE e (curDst nt k e) (.pointer (some ⟨b, o', none⟩))) L S w0 R) : AtQ P f nt ops n kk k e L S w0 R := by
 subst hp; exact AtQ.indexAddrL h hb ho hn
end
end Go.Eng
