/- A part of the proof. -/
import Derived.Calls
import Derived.Below
import Derived.KernelRfl
import Derived.WalkKit
import Derived.OwnWalk
import Derived.Deep.MidRow
import Derived.Laws.BytesString
import Derived.Laws.CopyRow
import Derived.Laws.MakeOwn
import Derived.Laws.AppendOwn
import Derived.Deep.Quiet
import Derived.StillTail
import Derived.Recover
import Derived.RangeFuncRecord
import Derived.Deep.AppendSrc
import Derived.Deep.Upon
import Derived.Lib.UnsafeStr
import Derived.Lib.Builder
set_option linter.unusedVariables false
set_option linter.unusedSimpArgs false
set_option maxRecDepth 100000
namespace Go.Eng
open Go Go.RowKit
theorem put_eta (t : Array Value) (ds : List Deferred) (d : Option Tmp) (v : Value) : ((Act.mk t ds).put d v) = ⟨((Act.mk t []).put d v).tmps, ds⟩ := by cases d <;> rfl
def rt (b : Frame) (a : Act) (k : List Item) : Frame := { b.at a k with roundOf := b.roundOf }
theorem rt_none {b : Frame} (h : b.roundOf = none) (a : Act) (k : List Item) : rt b a k = b.at a k := by simp [rt, Frame.at, h]
theorem rt_eval (b : Frame) (a : Act) (k : List Item) (x : Operand) : (rt b a k).eval x = a.eval x := by cases x <;> rfl
theorem rt_eval' (b : Frame) (a : Act) (k : List Item) : (rt b a k).eval = a.eval := funext (rt_eval b a k)
theorem rt_finish (b : Frame) (a : Act) (ops : Array Oper) (i : Nat) (rest : List Nat) (k : List Item) (v : Value) :
  (rt b a (.inRegion ops (i :: rest) :: k)).finish v = rt b (a.put ((ops[i]?).bind (·.dst)) v) (.inRegion ops rest :: k) := by
 cases h : (ops[i]?).bind (·.dst) <;> simp [Frame.finish, rt, Frame.at, Act.put, h]
theorem rt_raise (b : Frame) (a : Act) (k : List Item) (M : List PanicEntry) : (rt b a k).raise M = { rt b a k with mode := .panicking M } := rfl
section moves
variable {P : Program} {b : Frame} {a : Act} {k : List Item} {cs : List Frame} {w : World} {ops : Array Oper}
theorem rstep_skip : Go.step P (lone (rt b a (.code .skip :: k)) cs w) = .next (lone (rt b a k) cs w) := step_lone_go (by simp [stepG, stepG.exec, rt, Frame.at])
theorem rstep_label {l : Nat} : Go.step P (lone (rt b a (.code (.label l) :: k)) cs w) = .next (lone (rt b a k) cs w) := step_lone_go (by simp [stepG, stepG.exec, rt, Frame.at])
theorem rstep_inBlock {id : Nat} : Go.step P (lone (rt b a (.inBlock id :: k)) cs w) = .next (lone (rt b a k) cs w) := step_lone_go (by simp [stepG, stepG.exec, rt, Frame.at])
theorem rstep_seq {x y : Code} : Go.step P (lone (rt b a (.code (.seq x y) :: k)) cs w) = .next (lone (rt b a (.code x :: .code y :: k)) cs w) := step_lone_go (by simp [stepG, stepG.exec, rt, Frame.at])
theorem rstep_cond {c : Operand} {x y : Code} {t : Bool} (h : a.eval c = .bool t) : Go.step P (lone (rt b a (.code (.cond c x y) :: k)) cs w) = .next (lone (rt b a (.code (if t then x else y) :: k)) cs w) :=
 step_lone_go (by
  have := rt_eval b a (.code (.cond c x y) :: k) c
  simp only [rt, Frame.at] at this
  simp [stepG, stepG.exec, rt, Frame.at, this, h])
theorem rstep_block {id : Nat} {c : Code} : Go.step P (lone (rt b a (.code (.block id c) :: k)) cs w) = .next (lone (rt b a (.code c :: .inBlock id :: k)) cs w) := step_lone_go (by simp [stepG, stepG.exec, rt, Frame.at])
theorem rstep_scope {c : Code} : Go.step P (lone (rt b a (.code (.scope c) :: k)) cs w) = .next (lone (rt b a (.code c :: .inScope c :: k)) cs w) := step_lone_go (by simp [stepG, stepG.exec, rt, Frame.at])
theorem rstep_inScope {c : Code} : Go.step P (lone (rt b a (.inScope c :: k)) cs w) = .next (lone (rt b a k) cs w) := step_lone_go (by simp [stepG, stepG.exec, rt, Frame.at])
theorem rstep_loop {c : Code} : Go.step P (lone (rt b a (.code (.loop c) :: k)) cs w) = .next (lone (rt b a (.code c :: .inLoop c :: k)) cs w) := step_lone_go (by simp [stepG, stepG.exec, rt, Frame.at])
theorem rstep_inLoop {c : Code} : Go.step P (lone (rt b a (.inLoop c :: k)) cs w) = .next (lone (rt b a (.code c :: .inLoop c :: k)) cs w) := step_lone_go (by simp [stepG, stepG.exec, rt, Frame.at])
theorem rstep_exit {id : Nat} {k' : List Item} (h : exitTo id k = some k') : Go.step P (lone (rt b a (.code (.exit id) :: k)) cs w) = .next (lone (rt b a k') cs w) := step_lone_go (by simp [stepG, stepG.exec, rt, Frame.at, h])
theorem rstep_region {id : Nat} : Go.step P (lone (rt b a (.code (.region id ops false) :: k)) cs w) = .next (lone (rt b a (.inRegion ops (List.range ops.size) :: k)) cs w) := step_lone_go (by simp [stepG, stepG.exec, rt, Frame.at])
theorem rstep_region_end : Go.step P (lone (rt b a (.inRegion ops [] :: k)) cs w) = .next (lone (rt b a k) cs w) := step_lone_go (by simp [stepG, stepG.exec, rt, Frame.at])
theorem rstep_region_draw {id : Nat} :
  Go.step P (lone (rt b a (.code (.region id ops true) :: k)) cs w) =
   .next (lone (rt b a (.inRegion ops (Region.schedule (P.follows .mixedOrders) ops (w.tape w.drawn (.order b.fn id))) :: k)) cs { w with drawn := w.drawn + 1 }) :=
 step_lone_go (by simp [stepG, stepG.exec, rt, Frame.at, choose, Sem.run, Question.forced, Question.cut])
theorem rstep_op_skip {i : Nat} {rest : List Nat} (h : ((ops[i]?).map (Region.wanted · (yielded ops a.tmps))).getD false = false) :
  Go.step P (lone (rt b a (.inRegion ops (i :: rest) :: k)) cs w) = .next (lone (rt b (a.put ((ops[i]?).bind (·.dst)) undef) (.inRegion ops rest :: k)) cs w) := by
 rw [← rt_finish]
 exact step_lone_go (by
  have M := h
  simp only [rt, Frame.at] at *
  simp [stepG, stepG.exec, M])
theorem rstepG_op {i : Nat} {rest : List Nat} {o : Oper} (V : ops[i]? = some o) (Z : Region.wanted o (yielded ops a.tmps) = true) (M : b.roundOf = none ∨ ∀ c, o.op ≠ .defer c) :
    stepG P true { frame := rt b a (.inRegion ops (i :: rest) :: k), callers := cs, status := .running, dying := none } w =
      stepG.apply P true (rt b a (.inRegion ops (i :: rest) :: k)) cs none (execOp a.eval o) w := by
  have O := rt_eval' b a (.inRegion ops (i :: rest) :: k)
  simp only [rt, Frame.at] at O
  simp only [stepG, stepG.exec, stepG.oper, Frame.oper?, rt, Frame.at, V, Z, O, Option.map_some, Option.getD_some, if_true]
  split
  · next h1 h2 => rcases M with M | M
                  · rw [M] at h1; cases h1
                  · exact absurd h2 (M _)
  · rfl
end moves
def Next.isDefer : Next → Bool
 | .defer _ => true
 | _ => false
theorem not_defer {P : Program} {ρ : Operand → Value} {o : Oper} {w w' : World} {n : Next} (M : (execOp ρ o).run P w = .ok n w') (hn : Eng.Next.isDefer n = false) (c : Call) : o.op ≠ .defer c := by
 intro h
 simp only [execOp, h, Sem.run_bind] at M
 cases hq : (resolve ρ c o.type).run P w with
 | ok d w1 => rw [hq] at M; simp [Result.andThen] at M; obtain ⟨rfl, _⟩ := M; cases hn
 | halt h w1 => rw [hq] at M; simp [Result.andThen] at M
structure Goal (P : Program) where
 ds : List Deferred
 ok : Frame → List Frame → Machine → Prop
 back : ∀ b cs m m1, Steps P m m1 → ok b cs m1 → ok b cs m
def nrm {P : Program} (R : Ending → World → Prop) : Goal P where
 ds := []
 ok b cs m := b.kind = .normal → b.roundOf = none → ∃ e w' fr, R e w' ∧ Comes P m (lone fr cs w') e ∧ fr.fn = b.fn ∧ fr.leaving P w' e
 back b cs m m1 hs h hk hq := by
  obtain ⟨e, w', fr, hr, hc, hl⟩ := h hk hq
  exact ⟨e, w', fr, hr, Comes.of_steps hs hc, hl⟩
def dfr {P : Program} (ds : List Deferred) (R : Ending → World → Prop) : Goal P := { (nrm (P := P) R) with ds := ds }
def At (P : Program) (f : FuncId) (k : List Item) (t : Array Value) (w : World) (R : Goal P) : Prop :=
 ∀ (b : Frame) (cs : List Frame), b.fn = f → R.ok b cs (lone (rt b ⟨t, R.ds⟩ k) cs w)
theorem At.calls {P : Program} {f : FuncId} {fn : Func} {c : Code} {args : Array Value} {w : World} {R : Ending → World → Prop}
  (Z : P.funcs[f]? = some fn) (O : fn.body = some c)
  (h : At P f [.code c] (args ++ Array.replicate (fn.ntmps - args.size) undef) w (nrm R)) : Calls P f args w R := by
 intro cs
 have V : Frame.enter P f args .normal =
   ({ (default : Frame) with fn := f, kind := .normal } : Frame).at { tmps := args ++ Array.replicate (fn.ntmps - args.size) undef, defers := [] } [.code c] := by
  simp [Frame.enter, Frame.at, Z, O]
 rw [V]
 have M := h { (default : Frame) with fn := f, kind := .normal } cs rfl rfl rfl
 rw [rt_none rfl] at M
 exact M
theorem At.step {P : Program} {f : FuncId} {k k' : List Item} {t t' : Array Value} {w w' : World} {R : Goal P}
  (O : ∀ (b : Frame) (cs : List Frame), b.fn = f → Go.step P (lone (rt b ⟨t, R.ds⟩ k) cs w) = .next (lone (rt b ⟨t', R.ds⟩ k') cs w'))
  (h : At P f k' t' w' R) : At P f k t w R :=
 fun b cs M => R.back _ _ _ _ (.one (O b cs M)) (h b cs M)
theorem At.value {P : Program} {f : FuncId} {k : List Item} {t : Array Value} {w w' : World} {R : Goal P} {ops : Array Oper} {i : Nat} {rest : List Nat} {o : Oper} {v : Value}
  (M : ops[i]? = some o) (a1 : Region.wanted o (yielded ops t) = true) (O : (execOp (Act.mk t []).eval o).run P w = .ok (.value v) w')
  (h : At P f (.inRegion ops rest :: k) ((Act.mk t []).put o.dst v).tmps w' R) : At P f (.inRegion ops (i :: rest) :: k) t w R := by
 refine At.step (fun b cs _ => ?_) h
 have Z := rstepG_op (P := P) (b := b) (a := ⟨t, R.ds⟩) (k := k) (cs := cs) (w := w) (rest := rest) M a1 (.inr (not_defer O rfl))
 have V : (rt b ⟨t, R.ds⟩ (.inRegion ops (i :: rest) :: k)).finish v = rt b ((Act.mk t R.ds).put o.dst v) (.inRegion ops rest :: k) := by rw [rt_finish, M]; rfl
 rw [← put_eta]
 have a0 : (execOp (Act.mk t R.ds).eval o).run P w = .ok (.value v) w' := O
 refine step_lone_go ?_
 rw [Z, ← V]; simp [stepG.apply, a0]
theorem At.skipv {P : Program} {f : FuncId} {k : List Item} {t : Array Value} {w w' : World} {R : Goal P} {ops : Array Oper} {i : Nat} {rest : List Nat} {o : Oper}
  (M : ops[i]? = some o) (a1 : Region.wanted o (yielded ops t) = true) (O : (execOp (Act.mk t []).eval o).run P w = .ok .skip w')
  (h : At P f (.inRegion ops rest :: k) ((Act.mk t []).put o.dst undef).tmps w' R) : At P f (.inRegion ops (i :: rest) :: k) t w R := by
 refine At.step (fun b cs _ => ?_) h
 have Z := rstepG_op (P := P) (b := b) (a := ⟨t, R.ds⟩) (k := k) (cs := cs) (w := w) (rest := rest) M a1 (.inr (not_defer O rfl))
 have V : (rt b ⟨t, R.ds⟩ (.inRegion ops (i :: rest) :: k)).finish undef = rt b ((Act.mk t R.ds).put o.dst undef) (.inRegion ops rest :: k) := by rw [rt_finish, M]; rfl
 rw [← put_eta]
 have a0 : (execOp (Act.mk t R.ds).eval o).run P w = .ok .skip w' := O
 refine step_lone_go ?_
 rw [Z, ← V]; simp [stepG.apply, a0]
theorem At.unwanted {P : Program} {f : FuncId} {k : List Item} {t : Array Value} {w : World} {R : Goal P} {ops : Array Oper} {i : Nat} {rest : List Nat} {o : Oper}
  (M : ops[i]? = some o) (V : Region.wanted o (yielded ops t) = false)
  (h : At P f (.inRegion ops rest :: k) ((Act.mk t []).put o.dst undef).tmps w R) : At P f (.inRegion ops (i :: rest) :: k) t w R := by
 refine At.step (fun b cs _ => ?_) h
 rw [← put_eta]
 have O := rstep_op_skip (P := P) (b := b) (a := ⟨t, R.ds⟩) (k := k) (cs := cs) (w := w) (ops := ops) (i := i) (rest := rest) (by simp [M]; simpa using V)
 simpa only [M, Option.bind_some] using O
theorem At.enter {P : Program} {f : FuncId} {k : List Item} {t : Array Value} {w w' : World} {R : Goal P} {ops : Array Oper} {i : Nat} {rest : List Nat} {o : Oper} {g : FuncId} {args : Array Value}
  (M : ops[i]? = some o) (a7 : Region.wanted o (yielded ops t) = true) (O : (execOp (Act.mk t []).eval o).run P w = .ok (.enter g args) w')
  (h : Calls P g args w' fun e V => ∃ v, e = .returned v ∧ At P f (.inRegion ops rest :: k) ((Act.mk t []).put o.dst v).tmps V R) : At P f (.inRegion ops (i :: rest) :: k) t w R := by
 intro b cs a0
 have a3 := rstepG_op (P := P) (b := b) (a := ⟨t, R.ds⟩) (k := k) (cs := cs) (w := w) (rest := rest) M a7 (.inr (not_defer O rfl))
 have a5 : (execOp (Act.mk t R.ds).eval o).run P w = .ok (.enter g args) w' := O
 obtain ⟨e, V, fr, ⟨v, rfl, Z⟩, a6, _, a4⟩ := h (rt b ⟨t, R.ds⟩ (.inRegion ops (i :: rest) :: k) :: cs)
 have a1 : Go.step P (lone (rt b ⟨t, R.ds⟩ (.inRegion ops (i :: rest) :: k)) cs w) =
   .next (lone (Frame.enter P g args .normal) (rt b ⟨t, R.ds⟩ (.inRegion ops (i :: rest) :: k) :: cs) w') :=
  step_lone_go (by rw [a3]; simp [stepG.apply, a5, rt, Frame.at])
 have a2 : (rt b ⟨t, R.ds⟩ (.inRegion ops (i :: rest) :: k)).finish v = rt b ⟨((Act.mk t []).put o.dst v).tmps, R.ds⟩ (.inRegion ops rest :: k) := by
  rw [rt_finish, M]
  show rt b ((Act.mk t R.ds).put o.dst v) _ = _
  rw [put_eta]
 refine R.back _ _ _ _ (.head a1 (Steps.trans a6 (.one (step_leave_returned a4)))) ?_
 rw [a2]; exact Z b cs a0
theorem At.ret {P : Program} {f : FuncId} {fn : Func} {k : List Item} {t : Array Value} {w : World} {R : Ending → World → Prop} {v : Value}
  (O : P.funcs[f]? = some fn) (a0 : (results fn t).run P w = .ok v w) (h : R (.returned v) w) : At P f (.code .ret :: k) t w (nrm R) := by
 intro b cs M V Z
 exact ⟨.returned v, w, { b.at ⟨t, []⟩ (.code .ret :: k) with mode := .returning }, h, by rw [rt_none Z]; exact .one step_ret, rfl, rfl, rfl, V, fn, by rw [← O, ← M]; rfl, a0⟩
theorem At.fin {P : Program} {f : FuncId} {fn : Func} {t : Array Value} {w : World} {R : Ending → World → Prop} {v : Value}
  (O : P.funcs[f]? = some fn) (a0 : (results fn t).run P w = .ok v w) (h : R (.returned v) w) : At P f [] t w (nrm R) := by
 intro b cs M V Z
 exact ⟨.returned v, w, { b.at ⟨t, []⟩ [] with mode := .returning }, h, by rw [rt_none Z]; exact .one step_end, rfl, rfl, rfl, V, fn, by rw [← O, ← M]; rfl, a0⟩
abbrev Env := List (Nat × Value)
def get? : Env → Nat → Option Value
 | [], _ => none
 | (j, v) :: r, i => bif Nat.beq j i then some v else get? r i
def ev (e : Env) : Operand → Option Value
 | .tmp t => get? e t
 | .const v => some v
 | .global g => some (.pointer (some ⟨g, 0, none⟩))
 | .func f => some (.func (.func f) #[] #[])
def rho (e : Env) (x : Operand) : Value := match ev e x with | some v => v | none => undef
def allSome : List (Option Value) → Bool
 | [] => true
 | some _ :: r => allSome r
 | none :: _ => false
def known (e : Env) (o : Op) : Bool := allSome (o.operands.toList.map (ev e))
def putE (e : Env) : Option Tmp → Value → Env
 | some d, v => (d, v) :: e
 | none, _ => e
def dstOk (nt : Nat) : Option Tmp → Bool
 | some d => Nat.ble (d + 1) nt
 | none => true
structure Knows (nt : Nat) (e : Env) (t : Array Value) : Prop where
 size : t.size = nt
 slot : ∀ i v, get? e i = some v → t[i]? = some v
theorem Knows.ev {nt : Nat} {e : Env} {t : Array Value} (h : Knows nt e t) {x : Operand} {v : Value} (M : ev e x = some v) (ds : List Deferred) : (Act.mk t ds).eval x = v := by
 cases x with
 | tmp i => simp only [Eng.ev] at M; simp [Act.eval, Array.getD_eq_getD_getElem?, h.slot i v M]
 | const u => simp only [Eng.ev, Option.some.injEq] at M; exact M
 | global g => simp only [Eng.ev, Option.some.injEq] at M; exact M
 | func f => simp only [Eng.ev, Option.some.injEq] at M; exact M
theorem allSome_spec : ∀ (l : List (Option Value)), allSome l = true → ∀ x ∈ l, x.isSome = true
 | [], _, _, hx => by simp at hx
 | some v :: r, h, x, hx => by
  simp only [allSome] at h
  cases hx with
  | head => rfl
  | tail _ hm => exact allSome_spec r h x hm
 | none :: r, h, _, _ => by simp [allSome] at h
theorem Knows.rho {nt : Nat} {e : Env} {t : Array Value} (h : Knows nt e t) {o : Op} (O : known e o = true) (ds : List Deferred) :
  ∀ x ∈ o.operands.toList, (Act.mk t ds).eval x = rho e x := by
 intro x V
 have := allSome_spec _ O (Eng.ev e x) (List.mem_map.2 ⟨x, V, rfl⟩)
 obtain ⟨v, M⟩ := Option.isSome_iff_exists.1 this
 rw [h.ev M, Eng.rho, M]
theorem Knows.put {nt : Nat} {e : Env} {t : Array Value} (h : Knows nt e t) {d : Option Tmp} (O : dstOk nt d = true) (v : Value) (ds : List Deferred) :
  Knows nt (putE e d v) ((Act.mk t ds).put d v).tmps := by
 cases d with
 | none => exact h
 | some d =>
  have V : d < t.size := by rw [h.size]; exact Nat.le_of_ble_eq_true O
  refine ⟨by simp [Act.put, h.size], fun i u M => ?_⟩
  simp only [putE, get?] at M
  simp only [Act.put]
  rw [Array.getElem?_setIfInBounds]
  cases hb : Nat.beq d i with
  | true =>
   have : d = i := Nat.eq_of_beq_eq_true hb
   subst this
   simp only [hb, cond_true, Option.some.injEq] at M
   simp [V, M]
  | false =>
   have Z : d ≠ i := fun e => by subst e; simp at hb
   simp only [hb, cond_false] at M
   rw [if_neg Z]
   exact h.slot i u M
def plainOp : Op → Bool
 | .select .. | .go _ | .send .. | .recv .. => false
 | _ => true
theorem resolve_congr (ρ ρ' : Operand → Value) (c : Call) (t : TypeId) (h : ∀ x ∈ c.operands.toList, ρ x = ρ' x) : resolve ρ c t = resolve ρ' c t := by
 have M : c.args.map ρ = c.args.map ρ' := by
  apply Array.map_congr_left
  intro x V
  apply h
  simp only [Call.operands, Array.toList_append, List.mem_append]
  exact .inr (by simpa using V)
 cases hc : c.callee with
 | value f =>
  have O : ρ f = ρ' f := h f (by simp [Call.operands, hc])
  simp only [resolve, hc, M, O]
 | invoke r n =>
  have O : ρ r = ρ' r := h r (by simp [Call.operands, hc])
  simp only [resolve, hc, M, O]
 | builtin b => simp only [resolve, hc, M]
theorem execOp_congr (ρ ρ' : Operand → Value) (o : Oper) (hp : plainOp o.op = true) (h : ∀ x ∈ o.op.operands.toList, ρ x = ρ' x) : execOp ρ o = execOp ρ' o := by
 obtain ⟨a0, op, V, a2, after, a1⟩ := o
 cases op <;> simp only [plainOp, Bool.false_eq_true] at hp <;> simp only [Op.operands] at h <;> simp only [execOp]
 case build t parts =>
  have : (parts.map fun (i, x) => (i, ρ x)) = (parts.map fun (i, x) => (i, ρ' x)) := by
   apply Array.map_congr_left
   rintro ⟨i, x⟩ M
   exact congrArg _ (h x (by simp; exact ⟨i, by simpa using M⟩))
  rw [this]
 case buildSlice t n parts =>
  have : (parts.map fun (i, x) => (i, ρ x)) = (parts.map fun (i, x) => (i, ρ' x)) := by
   apply Array.map_congr_left
   rintro ⟨i, x⟩ M
   exact congrArg _ (h x (by simp; exact ⟨i, by simpa using M⟩))
  rw [this]
 case makeFunc fn a b =>
  have e1 : a.map ρ = a.map ρ' := Array.map_congr_left fun x M => h x (by simp; exact .inl (by simpa using M))
  have O : b.map ρ = b.map ρ' := Array.map_congr_left fun x M => h x (by simp; exact .inr (by simpa using M))
  rw [e1, O]
 case makeMap t r => cases r with
  | none => rfl
  | some r => simp only [Option.map_some]; rw [h r (by simp)]
 case slice T x lo hi mx =>
  have e0 : ρ x = ρ' x := h x (by simp)
  have e1 : lo.map ρ = lo.map ρ' := by cases lo with | none => rfl | some y => simp only [Option.map_some]; rw [h y (by simp)]
  have O : hi.map ρ = hi.map ρ' := by cases hi with | none => rfl | some y => simp only [Option.map_some]; rw [h y (by simp)]
  have Z : mx.map ρ = mx.map ρ' := by cases mx with | none => rfl | some y => simp only [Option.map_some]; rw [h y (by simp)]
  rw [e0, e1, O, Z]
 case call c => rw [resolve_congr ρ ρ' c V h]
 case defer c => rw [resolve_congr ρ ρ' c V h]
 all_goals first
  | rfl
  | (rw [h _ (List.Mem.head _), h _ (List.Mem.tail _ (List.Mem.head _)), h _ (List.Mem.tail _ (List.Mem.tail _ (List.Mem.head _)))]; done)
  | (rw [h _ (List.Mem.head _), h _ (List.Mem.tail _ (List.Mem.head _))]; done)
  | (rw [h _ (List.Mem.head _)]; done)
abbrev SHeap := List (Nat × Obj)
structure Kept (S : List Nat) (w0 W : World) : Prop where
 os : W.os = w0.os
 tape : W.tape = w0.tape
 output : W.output = w0.output
 size : w0.heap.size ≤ W.heap.size
 block : ∀ k, k < w0.heap.size → k ∉ S → W.heap[k]? = w0.heap[k]?
structure Mem (L : SHeap) (S : List Nat) (w0 W : World) : Prop where
 nodup : (L.map (·.1)).Nodup
 here : ∀ p ∈ L, W.heap[p.1]? = some p.2
 own : ∀ p ∈ L, w0.heap.size ≤ p.1 ∨ p.1 ∈ S
 kept : Kept S w0 W
theorem Kept.refl (S : List Nat) (w : World) : Kept S w w := ⟨rfl, rfl, rfl, Nat.le_refl _, fun _ _ _ => rfl⟩
theorem Kept.trans {S : List Nat} {a b c : World} (h : Kept S a b) (k : Kept S b c) : Kept S a c :=
 ⟨k.os.trans h.os, k.tape.trans h.tape, k.output.trans h.output, Nat.le_trans h.size k.size, fun i hi M => (k.block i (Nat.lt_of_lt_of_le hi h.size) M).trans (h.block i hi M)⟩
theorem Kept.below {w W : World} (h : Kept [] w W) : Below w.heap.size w W := ⟨h.os, h.tape, h.output, h.size, fun k M => h.block k M (by simp)⟩
theorem Kept.of_below {w W : World} (h : Below w.heap.size w W) (S : List Nat) : Kept S w W := ⟨h.os, h.tape, h.output, h.size, fun k M _ => h.block k M⟩
theorem Mem.start (S : List Nat) (w : World) : Mem [] S w w := ⟨by simp, by simp, by simp, Kept.refl S w⟩
theorem Mem.lt {L : SHeap} {S : List Nat} {w0 W : World} (h : Mem L S w0 W) {p : Nat × Obj} (hp : p ∈ L) : p.1 < W.heap.size := by
 have := h.here p hp
 rcases Nat.lt_or_ge p.1 W.heap.size with h | h
 ·exact h
 ·rw [Array.getElem?_eq_none h] at this; cases this
theorem Mem.after {L : SHeap} {S : List Nat} {w0 W M : World} (h : Mem L S w0 W) (O : Below W.heap.size W M) : Mem L S w0 M :=
 ⟨h.nodup, fun p hp => (O.block p.1 (h.lt hp)).trans (h.here p hp), h.own, h.kept.trans (Kept.of_below O S)⟩
theorem Mem.alloc {L : SHeap} {S : List Nat} {w0 W : World} (h : Mem L S w0 W) (o : Obj) : Mem (L ++ [(W.heap.size, o)]) S w0 { W with heap := W.heap.push o } := by
 refine ⟨?_, ?_, ?_, ?_⟩
 ·rw [List.map_append, List.nodup_append]
  refine ⟨h.nodup, by simp, ?_⟩
  intro a M b O
  obtain ⟨p, hp, rfl⟩ := List.mem_map.1 M
  simp at O
  have := h.lt hp
  omega
 ·intro p hp
  rcases List.mem_append.1 hp with hp | hp
  ·have := h.lt hp
   show (W.heap.push o)[p.1]? = _
   rw [Array.getElem?_push, if_neg (by omega)]
   exact h.here p hp
  ·simp at hp
   subst hp
   show (W.heap.push o)[W.heap.size]? = _
   simp
 ·intro p hp
  rcases List.mem_append.1 hp with hp | hp
  ·exact h.own p hp
  ·simp at hp
   subst hp
   exact .inl h.kept.size
 ·refine h.kept.trans ⟨rfl, rfl, rfl, by simp, fun k V _ => ?_⟩
  show (W.heap.push o)[k]? = _
  rw [Array.getElem?_push, if_neg (by omega)]
theorem nodup_unique {L : SHeap} (h : (L.map (·.1)).Nodup) {p q : Nat × Obj} (hp : p ∈ L) (M : q ∈ L) (e : p.1 = q.1) : p = q := by
 induction L with
 | nil => cases hp
 | cons x r ih =>
  simp only [List.map_cons, List.nodup_cons, List.mem_map, not_exists, not_and] at h
  cases hp with
  | head => cases M with
   | head => rfl
   | tail _ M => exact absurd e.symm (h.1 q M)
  | tail _ hp => cases M with
   | head => exact absurd e (h.1 p hp)
   | tail _ M => exact ih h.2 hp M
theorem Mem.setObj {L : SHeap} {S : List Nat} {w0 W : World} (h : Mem L S w0 W) {j : Nat} {B : Nat} {o : Obj} (V : L[j]? = some (B, o)) (o' : Obj)
  {M : World} (a7 : M.os = W.os) (a8 : M.tape = W.tape) (a6 : M.output = W.output) (O : M.heap = W.heap.setIfInBounds B o') : Mem (L.set j (B, o')) S w0 M := by
 have hm : (B, o) ∈ L := List.mem_of_getElem? V
 have Z := h.lt hm
 have a1 : j < L.length := (List.getElem?_eq_some_iff.1 V).1
 have a0 : (L.set j (B, o')).map (·.1) = L.map (·.1) := by
  rw [List.map_set]
  apply List.ext_getElem?
  intro i
  rw [List.getElem?_set]
  split
  ·next e =>
   subst e
   simp only [List.length_map, a1, if_true]
   rw [List.getElem?_map, V]; rfl
  ·rfl
 refine ⟨by rw [a0]; exact h.nodup, ?_, ?_, ?_⟩
 ·intro p hp
  rw [O, Array.getElem?_setIfInBounds]
  rcases List.mem_or_eq_of_mem_set hp with hp' | hp'
  ·by_cases e : B = p.1
   ·have := nodup_unique h.nodup hm hp' e
    subst this

    have a5 : ((L.set j (B, o')).map (·.1)).Nodup := by rw [a0]; exact h.nodup
    have a3 : (B, o') ∈ L.set j (B, o') := List.mem_iff_getElem?.2 ⟨j, by rw [List.getElem?_set]; simp [a1]⟩
    have := nodup_unique a5 hp a3 rfl
    rw [this]; simp [Z]
   ·rw [if_neg e]; exact h.here p hp'
  ·subst hp'; simp [Z]
 ·intro p hp
  rcases List.mem_or_eq_of_mem_set hp with hp' | hp'
  ·exact h.own p hp'
  ·subst hp'; exact h.own (B, o) hm
 ·refine ⟨a7.trans h.kept.os, a8.trans h.kept.tape, a6.trans h.kept.output, by rw [O]; simp; exact h.kept.size, fun k a4 a2 => ?_⟩
  rw [O, Array.getElem?_setIfInBounds]
  rw [if_neg]
  ·exact h.kept.block k a4 a2
  ·intro e
   subst e
   rcases h.own _ hm with h' | h'
   ·simp at h'; omega
   ·exact a2 h'
def AtE (P : Program) (f nt : Nat) (k : List Item) (e : Env) (L : SHeap) (S : List Nat) (w0 : World) (R : Goal P) : Prop :=
 ∀ t W, Knows nt e t → Mem L S w0 W → At P f k t W R
def wantedE (ops : Array Oper) (e : Env) (o : Oper) : Option Bool :=
 match o.guard with
 | none => some true
 | some (j, want) =>
  match ops[j]? with
  | none => some false
  | some oj =>
   match oj.dst with
   | none => some false
   | some d =>
    match get? e d with
    | some (.bool b) => match b, want with | true, true => some true | false, false => some true | true, false => some false | false, true => some false
    | some (.tuple _) => some false
    | _ => none
theorem Knows.wanted {nt : Nat} {e : Env} {t : Array Value} (h : Knows nt e t) {ops : Array Oper} {o : Oper} {b : Bool} (M : wantedE ops e o = some b) :
  Region.wanted o (yielded ops t) = b := by
 unfold wantedE at M
 unfold Region.wanted
 split at M
 ·next hg => rw [hg]; simpa using M
 ·next j want hg =>
  rw [hg]
  simp only
  unfold yielded
  split at M
  ·next ho => rw [ho]; simp at M; subst M; rfl
  ·next oj ho =>
   rw [ho]
   simp only [Option.bind_some]
   split at M
   ·next hd => rw [hd]; simp at M; subst M; rfl
   ·next d hd =>
    rw [hd]
    simp only [Option.bind_some]
    split at M
    ·next b' hget =>
     rw [h.slot d _ hget]
     cases b' <;> cases want <;> simp at M <;> subst M <;> rfl
    ·next vs hget =>
     rw [h.slot d _ hget]
     simp at M; subst M; rfl
    ·cases M
def cur (nt : Nat) (k : List Item) (e : Env) : Option Oper :=
 match k with
 | .inRegion ops (i :: _) :: _ =>
  match ops[i]? with
  | some o => match wantedE ops e o with
   | some true => bif known e o.op && (plainOp o.op && dstOk nt o.dst) then some o else none
   | _ => none
  | none => none
 | _ => none
def nextK : List Item → List Item
 | .inRegion ops (_ :: rest) :: k => .inRegion ops rest :: k
 | k => k
theorem cur_spec {nt : Nat} {k : List Item} {e : Env} {o : Oper} (h : cur nt k e = some o) :
  ∃ ops i rest k', k = .inRegion ops (i :: rest) :: k' ∧ ops[i]? = some o ∧ wantedE ops e o = some true ∧ known e o.op = true ∧ plainOp o.op = true ∧ dstOk nt o.dst = true := by
 unfold cur at h
 split at h
 ·next ops i rest k' =>
  split at h
  ·next o' ho =>
   split at h
   ·next hw =>
    cases hb : (known e o'.op && (plainOp o'.op && dstOk nt o'.dst)) with
    | true =>
     rw [hb] at h
     simp only [cond_true, Option.some.injEq] at h
     subst h
     simp only [Bool.and_eq_true] at hb
     exact ⟨_, _, _, _, rfl, ho, hw, hb.1, hb.2.1, hb.2.2⟩
    | false => rw [hb] at h; simp at h
   ·cases h
  ·cases h
 ·cases h
theorem AtE.op {P : Program} {f nt : Nat} {k : List Item} {e : Env} {L : SHeap} {S : List Nat} {w0 : World} {R : Goal P} {o : Oper}
  (Z : cur nt k e = some o)
  (h : ∀ W, Mem L S w0 W → ∃ v M, (execOp (rho e) o).run P W = .ok (.value v) M ∧ ∀ t, Knows nt (putE e o.dst v) t → At P f (nextK k) t M R) : AtE P f nt k e L S w0 R := by
 intro t W O hm
 obtain ⟨ops, i, rest, k', rfl, a3, a4, a1, hp, a0⟩ := cur_spec Z
 obtain ⟨v, M, V, a2⟩ := h W hm
 rw [← execOp_congr (Act.mk t []).eval (rho e) o hp (O.rho a1 [])] at V
 exact At.value a3 (O.wanted a4) V (a2 _ (O.put a0 v []))
theorem AtE.opSkip {P : Program} {f nt : Nat} {k : List Item} {e : Env} {L : SHeap} {S : List Nat} {w0 : World} {R : Goal P} {o : Oper}
  (Z : cur nt k e = some o)
  (h : ∀ W, Mem L S w0 W → ∃ M, (execOp (rho e) o).run P W = .ok .skip M ∧ ∀ t, Knows nt (putE e o.dst undef) t → At P f (nextK k) t M R) : AtE P f nt k e L S w0 R := by
 intro t W O hm
 obtain ⟨ops, i, rest, k', rfl, a3, a4, a1, hp, a0⟩ := cur_spec Z
 obtain ⟨M, V, a2⟩ := h W hm
 rw [← execOp_congr (Act.mk t []).eval (rho e) o hp (O.rho a1 [])] at V
 exact At.skipv a3 (O.wanted a4) V (a2 _ (O.put a0 undef []))
def one (P : Program) (nt : Nat) (k : List Item) (e : Env) (w : World) : Option (List Item × Env × World) :=
 match k with
 | .code .skip :: k => some (k, e, w)
 | .code (.label _) :: k => some (k, e, w)
 | .inBlock _ :: k => some (k, e, w)
 | .code (.seq x y) :: k => some (.code x :: .code y :: k, e, w)
 | .code (.cond c x y) :: k => match ev e c with
  | some (.bool b) => match b with
   | true => some (.code x :: k, e, w)
   | false => some (.code y :: k, e, w)
  | _ => none
 | .code (.block id c) :: k => some (.code c :: .inBlock id :: k, e, w)
 | .code (.scope c) :: k => some (.code c :: .inScope c :: k, e, w)
 | .inScope _ :: k => some (k, e, w)
 | .code (.loop c) :: k => some (.code c :: .inLoop c :: k, e, w)
 | .inLoop c :: k => some (.code c :: .inLoop c :: k, e, w)
 | .code (.exit id) :: k => match exitTo id k with
  | some k' => some (k', e, w)
  | none => none
 | .code (.region _ ops draw) :: k => match draw with
  | false => some (.inRegion ops (List.range ops.size) :: k, e, w)
  | true => none
 | .inRegion _ [] :: k => some (k, e, w)
 | .inRegion ops (i :: rest) :: k => match ops[i]? with
  | none => some (.inRegion ops rest :: k, e, w)
  | some o => match wantedE ops e o with
   | none => none
   | some false => bif dstOk nt o.dst then some (.inRegion ops rest :: k, putE e o.dst undef, w) else none
   | some true => bif known e o.op && (plainOp o.op && dstOk nt o.dst) then
     match (execOp (rho e) o).run P w with
     | .ok (.value v) w' => some (.inRegion ops rest :: k, putE e o.dst v, w')
     | .ok .skip w' => some (.inRegion ops rest :: k, putE e o.dst undef, w')
     | _ => none
    else none
 | _ => none
theorem one_sound {P : Program} {f nt : Nat} {k k' : List Item} {e e' : Env} {w w' : World} {t : Array Value} {R : Goal P}
  (h : one P nt k e w = some (k', e', w')) (M : Knows nt e t) (O : ∀ t', Knows nt e' t' → At P f k' t' w' R) : At P f k t w R := by
 unfold one at h
 split at h
 ·simp at h; obtain ⟨rfl, rfl, rfl⟩ := h; exact At.step (fun _ _ _ => rstep_skip) (O t M)
 ·simp at h; obtain ⟨rfl, rfl, rfl⟩ := h; exact At.step (fun _ _ _ => rstep_label) (O t M)
 ·simp at h; obtain ⟨rfl, rfl, rfl⟩ := h; exact At.step (fun _ _ _ => rstep_inBlock) (O t M)
 ·simp at h; obtain ⟨rfl, rfl, rfl⟩ := h; exact At.step (fun _ _ _ => rstep_seq) (O t M)
 ·next c x y k =>
  split at h
  ·next b hb =>
   have V := M.ev hb []
   cases b
   ·simp at h; obtain ⟨rfl, rfl, rfl⟩ := h; exact At.step (fun _ _ _ => rstep_cond (t := false) V) (O t M)
   ·simp at h; obtain ⟨rfl, rfl, rfl⟩ := h; exact At.step (fun _ _ _ => rstep_cond (t := true) V) (O t M)
  ·cases h
 ·simp at h; obtain ⟨rfl, rfl, rfl⟩ := h; exact At.step (fun _ _ _ => rstep_block) (O t M)
 ·simp at h; obtain ⟨rfl, rfl, rfl⟩ := h; exact At.step (fun _ _ _ => rstep_scope) (O t M)
 ·simp at h; obtain ⟨rfl, rfl, rfl⟩ := h; exact At.step (fun _ _ _ => rstep_inScope) (O t M)
 ·simp at h; obtain ⟨rfl, rfl, rfl⟩ := h; exact At.step (fun _ _ _ => rstep_loop) (O t M)
 ·simp at h; obtain ⟨rfl, rfl, rfl⟩ := h; exact At.step (fun _ _ _ => rstep_inLoop) (O t M)
 ·next id k =>
  split at h
  ·next k2 hx => simp at h; obtain ⟨rfl, rfl, rfl⟩ := h; exact At.step (fun _ _ _ => rstep_exit hx) (O t M)
  ·cases h
 ·next id ops draw k =>
  cases draw
  ·simp at h; obtain ⟨rfl, rfl, rfl⟩ := h; exact At.step (fun _ _ _ => rstep_region) (O t M)
  ·simp at h
 ·simp at h; obtain ⟨rfl, rfl, rfl⟩ := h; exact At.step (fun _ _ _ => rstep_region_end) (O t M)
 ·next ops i rest k =>
  split at h
  ·next ho =>
   simp at h; obtain ⟨rfl, rfl, rfl⟩ := h
   refine At.step (fun b cs _ => ?_) (O t M)
   have a0 := rstep_op_skip (P := P) (b := b) (a := ⟨t, R.ds⟩) (k := k) (cs := cs) (w := w) (ops := ops) (i := i) (rest := rest) (by simp [ho])
   simpa only [ho, Option.bind_none, Act.put] using a0
  ·next o ho =>
   split at h
   ·cases h
   ·next hw =>
    cases hd : dstOk nt o.dst with
    | true =>
     simp [hd] at h; obtain ⟨rfl, rfl, rfl⟩ := h
     exact At.unwanted ho (M.wanted hw) (O _ (M.put hd undef []))
    | false => simp [hd] at h
   ·next hw =>
    cases hb : (known e o.op && (plainOp o.op && dstOk nt o.dst)) with
    | false => rw [hb] at h; simp at h
    | true =>
     rw [hb] at h
     simp only [Bool.and_eq_true] at hb
     simp only [cond_true] at h
     have Z := execOp_congr (Act.mk t []).eval (rho e) o hb.2.1 (M.rho hb.1 [])
     split at h
     ·next v w2 hr =>
      simp at h; obtain ⟨rfl, rfl, rfl⟩ := h
      exact At.value ho (M.wanted hw) (by rw [Z]; exact hr) (O _ (M.put hb.2.2 v []))
     ·next w2 hr =>
      simp at h; obtain ⟨rfl, rfl, rfl⟩ := h
      exact At.skipv ho (M.wanted hw) (by rw [Z]; exact hr) (O _ (M.put hb.2.2 undef []))
     ·cases h
 ·cases h
def run (P : Program) (nt : Nat) : Nat → List Item → Env → World → Option (List Item × Env × World)
 | 0, k, e, w => some (k, e, w)
 | n + 1, k, e, w => match one P nt k e w with
  | some (k', e', w') => run P nt n k' e' w'
  | none => none
theorem run_sound {P : Program} {f nt : Nat} {R : Goal P} : ∀ (n : Nat) {k k' : List Item} {e e' : Env} {w w' : World} {t : Array Value}
  (_ : run P nt n k e w = some (k', e', w')) (_ : Knows nt e t) (_ : ∀ t', Knows nt e' t' → At P f k' t' w' R), At P f k t w R
 | 0, _, _, _, _, _, _, t, h, hk, hnext => by
  simp [run] at h; obtain ⟨rfl, rfl, rfl⟩ := h; exact hnext t hk
 | n + 1, _, _, _, _, _, _, t, h, hk, hnext => by
  simp only [run] at h
  split at h
  ·next k2 e2 w2 h1 => exact one_sound h1 hk fun t' M => run_sound n h M hnext
  ·cases h
def dw : World := default
def kN (P : Program) (nt n : Nat) (k : List Item) (e : Env) : List Item := match run P nt n k e dw with | some (k', _, _) => k' | none => []
def eN (P : Program) (nt n : Nat) (k : List Item) (e : Env) : Env := match run P nt n k e dw with | some (_, e', _) => e' | none => []
theorem AtE.run {P : Program} {f nt : Nat} {k : List Item} {e : Env} {L : SHeap} {S : List Nat} {w0 : World} {R : Goal P} (n : Nat)
  (h : ∀ W, Eng.run P nt n k e W = some (kN P nt n k e, eN P nt n k e, W)) (V : AtE P f nt (kN P nt n k e) (eN P nt n k e) L S w0 R) : AtE P f nt k e L S w0 R :=
 fun _ W M hm => run_sound n (h W) M fun t' O => V t' W O hm
section
variable {P : Program} {f nt : Nat} {k : List Item} {e : Env} {L : SHeap} {S : List Nat} {w0 : World} {R : Goal P}
theorem AtE.push {i : Nat} {v : Value} (h : get? e i = some v) (hn : AtE P f nt k ((i, v) :: e) L S w0 R) : AtE P f nt k e L S w0 R := by
 intro t W O hm
 refine hn t W ⟨O.size, fun j u M => ?_⟩ hm
 simp only [get?] at M
 cases hb : Nat.beq i j with
 | true =>
  have : i = j := Nat.eq_of_beq_eq_true hb
  subst this
  rw [hb] at M; simp only [cond_true, Option.some.injEq] at M
  subst M; exact O.slot i v h
 | false => rw [hb] at M; exact O.slot j u M
def restrict (e : Env) : List Nat → Option Env
 | [] => some []
 | i :: r => match get? e i with
  | none => none
  | some v => match restrict e r with
   | none => none
   | some e' => some ((i, v) :: e')
theorem restrict_get {e : Env} : ∀ {M : List Nat} {e' : Env}, restrict e M = some e' → ∀ i v, get? e' i = some v → get? e i = some v
 | [], e', h, i, v, hv => by simp [restrict] at h; subst h; simp [get?] at hv
 | j :: r, e', h, i, v, hv => by
  simp only [restrict] at h
  split at h
  ·cases h
  ·next u hu =>
   split at h
   ·cases h
   ·next e2 h2 =>
    simp at h; subst h
    simp only [get?] at hv
    cases hb : Nat.beq j i with
    | true =>
     have : j = i := Nat.eq_of_beq_eq_true hb
     subst this
     rw [hb] at hv; simp only [cond_true, Option.some.injEq] at hv
     subst hv; exact hu
    | false => rw [hb] at hv; exact restrict_get h2 i v hv
def selL (L : SHeap) : List Nat → SHeap
 | [] => []
 | i :: r => match L[i]? with
  | some x => x :: selL L r
  | none => selL L r
def notIn (i : Nat) : List Nat → Bool
 | [] => true
 | j :: r => bif Nat.beq i j then false else notIn i r
def nodupB : List Nat → Bool
 | [] => true
 | i :: r => bif notIn i r then nodupB r else false
theorem notIn_spec {i : Nat} : ∀ {l : List Nat}, notIn i l = true → i ∉ l
 | [], _ => by simp
 | j :: r, h => by
  simp only [notIn] at h
  cases hb : Nat.beq i j with
  | true => rw [hb] at h; simp at h
  | false =>
   rw [hb] at h
   intro hm
   cases hm with
   | head => simp at hb
   | tail _ hm => exact notIn_spec (by simpa using h) hm
theorem nodupB_spec : ∀ {l : List Nat}, nodupB l = true → l.Nodup
 | [], _ => List.nodup_nil
 | i :: r, h => by
  simp only [nodupB] at h
  cases hn : notIn i r with
  | false => rw [hn] at h; simp at h
  | true => rw [hn] at h; exact List.nodup_cons.2 ⟨notIn_spec hn, nodupB_spec (by simpa using h)⟩
theorem selL_mem : ∀ {V : List Nat} {x : Nat × Obj}, x ∈ selL L V → ∃ i ∈ V, L[i]? = some x
 | [], _, h => by simp [selL] at h
 | i :: r, x, h => by
  simp only [selL] at h
  split at h
  ·next y hy =>
   cases h with
   | head => exact ⟨i, by simp, hy⟩
   | tail _ h => obtain ⟨j, M, O⟩ := selL_mem h; exact ⟨j, by simp [M], O⟩
  ·obtain ⟨j, M, O⟩ := selL_mem h; exact ⟨j, by simp [M], O⟩
theorem Mem.sel {W : World} (hm : Mem L S w0 W) {a1 : List Nat} (h : a1.Nodup) : Mem (selL L a1) S w0 W := by
 have a7 : ∀ (i j : Nat) (x y : Nat × Obj), L[i]? = some x → L[j]? = some y → x.1 = y.1 → i = j := by
  intro i j x y hi O V
  have a8 := (List.getElem?_eq_some_iff.1 hi).1
  have a9 := (List.getElem?_eq_some_iff.1 O).1
  have a2 : (L.map (·.1))[i]? = some x.1 := by rw [List.getElem?_map, hi]; rfl
  have a3 : (L.map (·.1))[j]? = some x.1 := by rw [List.getElem?_map, O]; simp [V]
  have Z : i < (L.map (·.1)).length := by simpa using a8
  have a0 : j < (L.map (·.1)).length := by simpa using a9
  rw [List.getElem?_eq_getElem Z] at a2
  rw [List.getElem?_eq_getElem a0] at a3
  have a4 : (L.map (·.1))[i] = (L.map (·.1))[j] := (Option.some.inj a2).trans (Option.some.inj a3).symm
  have a5 := List.pairwise_iff_getElem.1 hm.nodup
  rcases Nat.lt_trichotomy i j with h | h | h
  ·exact absurd a4 (a5 i j Z a0 h)
  ·exact h
  ·exact absurd a4.symm (a5 j i a0 Z h)
 refine ⟨?_, fun p hp => ?_, fun p hp => ?_, hm.kept⟩
 ·induction a1 with
  | nil => simp [selL]
  | cons i r ih =>
   simp only [selL]
   have a6 := ih (List.nodup_cons.1 h).2
   split
   ·next x M =>
    rw [List.map_cons, List.nodup_cons]
    refine ⟨fun b0 => ?_, a6⟩
    obtain ⟨y, b1, V⟩ := List.mem_map.1 b0
    obtain ⟨j, O, b3⟩ := selL_mem b1
    have := a7 i j x y M b3 V.symm
    subst this
    exact (List.nodup_cons.1 h).1 O
   ·exact a6
 ·obtain ⟨i, _, M⟩ := selL_mem hp; exact hm.here p (List.mem_of_getElem? M)
 ·obtain ⟨i, _, M⟩ := selL_mem hp; exact hm.own p (List.mem_of_getElem? M)
theorem AtE.cut (O : List Nat) {k' : List Item} {e' : Env} {L' : SHeap} (hn : AtE P f nt k' e' L' S w0 R) (h : (k, restrict e (e'.map (·.1)), selL L O, nodupB O) = (k', some e', L', true)) : AtE P f nt k e L S w0 R := by
 simp only [Prod.mk.injEq] at h
 obtain ⟨rfl, h, rfl, V⟩ := h
 intro t W M hm
 exact hn t W ⟨M.size, fun i v Z => M.slot i v (restrict_get h i v Z)⟩ (hm.sel (nodupB_spec V))
theorem AtE.split (i : Nat) {b : Bool} (h : get? e i = some (.bool b)) (O : b = true → AtE P f nt k ((i, .bool true) :: e) L S w0 R)
  (M : b = false → AtE P f nt k ((i, .bool false) :: e) L S w0 R) : AtE P f nt k e L S w0 R := by
 cases b
 ·exact AtE.push h (M rfl)
 ·exact AtE.push h (O rfl)
theorem AtE.splitP (i : Nat) {p : Prop} [Decidable p] (h : get? e i = some (.bool (decide p))) (V : p → AtE P f nt k ((i, .bool true) :: e) L S w0 R)
  (O : ¬ p → AtE P f nt k ((i, .bool false) :: e) L S w0 R) : AtE P f nt k e L S w0 R :=
 AtE.split i h (fun M => V (of_decide_eq_true M)) (fun M => O (of_decide_eq_false M))
theorem AtE.splitN (i : Nat) {p : Prop} [Decidable p] (h : get? e i = some (.bool (!decide p))) (V : ¬ p → AtE P f nt k ((i, .bool true) :: e) L S w0 R)
  (O : p → AtE P f nt k ((i, .bool false) :: e) L S w0 R) : AtE P f nt k e L S w0 R :=
 AtE.split i h (fun M => V (of_decide_eq_false (by simpa using M))) (fun M => O (of_decide_eq_true (by simpa using M)))
theorem toList_loop (a : ByteArray) : ∀ (n i : Nat) (r : List UInt8), a.size - i = n → ByteArray.toList.loop a i r = r.reverse ++ a.data.toList.drop i
 | 0, i, r, h => by
  unfold ByteArray.toList.loop
  have : ¬ i < a.size := by omega
  rw [if_neg this]
  have M : a.data.toList.length ≤ i := by simp; have : a.size = a.data.size := rfl; omega
  rw [List.drop_eq_nil_of_le M]; simp
 | n + 1, i, r, h => by
  unfold ByteArray.toList.loop
  have hi : i < a.size := by omega
  rw [if_pos hi]
  rw [toList_loop a n (i + 1) _ (by omega)]
  have O : i < a.data.toList.length := by simpa using hi
  rw [List.drop_eq_getElem_cons O]
  have : a.get! i = a.data.toList[i] := by
   show a.data[i]! = _
   rw [getElem!_pos a.data i hi]; simp
  rw [this]; simp
theorem toList_eq (a : ByteArray) : a.toList = a.data.toList := by
 unfold ByteArray.toList
 rw [toList_loop a a.size 0 [] (by omega)]; simp
theorem strEq_iff (x y : ByteArray) : (x.toList == y.toList) = true ↔ x = y := by
 rw [toList_eq, toList_eq, beq_iff_eq]
 constructor
 ·intro h; exact ByteArray.ext (Array.toList_inj.1 h)
 ·rintro rfl; rfl
theorem AtE.letI (i : Nat) {kd : IntKind} {n : Int} (h : get? e i = some (.int kd n)) (hn : ∀ x, x = n → AtE P f nt k ((i, .int kd x) :: e) L S w0 R) : AtE P f nt k e L S w0 R :=
 AtE.push h (hn n rfl)
theorem AtE.letS (i : Nat) {n : ByteArray} (h : get? e i = some (.string n)) (hn : ∀ x, x = n → AtE P f nt k ((i, .string x) :: e) L S w0 R) : AtE P f nt k e L S w0 R :=
 AtE.push h (hn n rfl)
def curO (nt : Nat) (k : List Item) (e : Env) : Oper := match cur nt k e with | some o => o | none => default
def curDst (nt : Nat) (k : List Item) (e : Env) : Option Tmp := match cur nt k e with | some o => o.dst | none => none
theorem AtE.opV {o : Oper} {v : Value} (M : cur nt k e = some o) (V : ∀ W, Mem L S w0 W → (execOp (rho e) o).run P W = .ok (.value v) W)
  (hn : AtE P f nt (nextK k) (putE e (curDst nt k e) v) L S w0 R) : AtE P f nt k e L S w0 R := by
 refine AtE.op M fun W hm => ⟨v, W, V W hm, fun t O => hn t W ?_ hm⟩
 simpa only [curDst, M] using O
def OpV (P : Program) (nt : Nat) (k : List Item) (e : Env) (L : SHeap) (S : List Nat) (w0 : World) (v : Value) : Prop := ∃ o, cur nt k e = some o ∧ ∀ W, Mem L S w0 W → (execOp (rho e) o).run P W = .ok (.value v) W
theorem OpV.E {v : Value} (h : OpV P nt k e L S w0 v) (hn : AtE P f nt (nextK k) (putE e (curDst nt k e) v) L S w0 R) : AtE P f nt k e L S w0 R := let ⟨_, h1, h2⟩ := h; AtE.opV h1 h2 hn
theorem AtE.opK {o : Oper} {L' : SHeap} (O : cur nt k e = some o) (a1 : ∀ W, Mem L S w0 W → ∃ M, (execOp (rho e) o).run P W = .ok .skip M ∧ Mem L' S w0 M)
  (hn : AtE P f nt (nextK k) (putE e (curDst nt k e) undef) L' S w0 R) : AtE P f nt k e L S w0 R := by
 refine AtE.opSkip O fun W hm => ?_
 obtain ⟨M, V, Z⟩ := a1 W hm
 exact ⟨M, V, fun t a0 => hn t M (by simpa only [curDst, O] using a0) Z⟩
theorem run_lift {s : Sem Value} {v : Value} {W M : World} (h : s.run P W = .ok v M) : (do pure (Next.value (← s)) : Sem Next).run P W = .ok (.value v) M := by
 rw [Sem.run_bind, h]; rfl
def bat (s : ByteArray) (i : Int) : Int := (((s.data.toList)[i.toNat]?).getD 0).toNat
def asIndex (P : Program) (nt : Nat) (k : List Item) (e : Env) : Option (Option TypeDesc × Value × Value) :=
 match cur nt k e with
 | some o => match o.op with
  | .index T x i => some (P.underlying T, rho e x, rho e i)
  | _ => none
 | none => none
theorem OpV.indexS {s : ByteArray} {kd : IntKind} {i : Int} (h : asIndex P nt k e = some (some .string, .string s, .int kd i)) (M : 0 ≤ i ∧ i < s.size) : OpV P nt k e L S w0 (.int .u8 (bat s i)) := by
 unfold asIndex at h
 split at h
 ·next o hc =>
  split at h
  ·next T x ix ho =>
   simp only [Option.some.injEq, Prod.mk.injEq] at h
   obtain ⟨O, Z, hi⟩ := h
   refine ⟨_, hc, fun W _ => ?_⟩
   simp only [execOp, ho, Z, hi]
   refine run_lift ?_
   rw [run_index_string _ _ _ _ _ O, dif_pos M]
   have V : i.toNat < s.data.toList.length := by have : s.size = s.data.size := rfl; simp; omega
   have : (s[i.toNat]'(by omega)) = ((s.data.toList)[i.toNat]?).getD 0 := by
    rw [List.getElem?_eq_getElem V]; simp [ByteArray.getElem_eq_getElem_data]
   rw [this]; rfl
  ·cases h
 ·cases h
theorem AtE.indexS {s : ByteArray} {kd : IntKind} {i : Int} (h : asIndex P nt k e = some (some .string, .string s, .int kd i)) (M : 0 ≤ i ∧ i < s.size) (hn : AtE P f nt (nextK k) (putE e (curDst nt k e) (.int .u8 (bat s i))) L S w0 R) : AtE P f nt k e L S w0 R := (OpV.indexS h M).E hn
def asSlice (P : Program) (nt : Nat) (k : List Item) (e : Env) : Option (Option TypeDesc × Value × Option Value × Option Value × Option Value) :=
 match cur nt k e with
 | some o => match o.op with
  | .slice T x lo hi mx => some (P.underlying T, rho e x, lo.map (rho e), hi.map (rho e), mx.map (rho e))
  | _ => none
 | none => none
theorem OpV.sliceS {s : ByteArray} {lo hi : Option Value} (h : asSlice P nt k e = some (some .string, .string s, lo, hi, none)) {a b : Int}
  (Z : (∃ kd, lo = some (.int kd a)) ∨ (lo = none ∧ a = 0)) (V : (∃ kd, hi = some (.int kd b)) ∨ (hi = none ∧ b = s.size)) (M : 0 ≤ a ∧ a ≤ b ∧ b ≤ s.size) : OpV P nt k e L S w0 (.string (s.extract a.toNat b.toNat)) := by
 unfold asSlice at h
 split at h
 ·next o hc =>
  split at h
  ·next T x l2 h2 m2 ho =>
   simp only [Option.some.injEq, Prod.mk.injEq] at h
   obtain ⟨O, a2, a1, a0, hm⟩ := h
   refine ⟨_, hc, fun W _ => ?_⟩
   simp only [execOp, ho, a2, a1, a0, hm]
   refine run_lift ?_
   rw [run_sliceAt_string _ _ _ _ _ _ O]
   rcases Z with ⟨kd, rfl⟩ | ⟨rfl, rfl⟩ <;> rcases V with ⟨kd', rfl⟩ | ⟨rfl, rfl⟩
   ·exact run_slice_string _ _ _ _ _ _ _ O M.1 M.2.1 M.2.2
   ·rw [run_slice_string_from_if _ _ _ _ _ O, if_pos ⟨M.1, M.2.1⟩]; simp
   ·rw [run_slice_string_to_if _ _ _ _ _ O, if_pos ⟨M.2.1, M.2.2⟩]; rfl
   ·rw [run_slice_string_all _ _ _ O]; simp
  ·cases h
 ·cases h
theorem AtE.sliceS {s : ByteArray} {lo hi : Option Value} (h : asSlice P nt k e = some (some .string, .string s, lo, hi, none)) {a b : Int}
  (Z : (∃ kd, lo = some (.int kd a)) ∨ (lo = none ∧ a = 0)) (V : (∃ kd, hi = some (.int kd b)) ∨ (hi = none ∧ b = s.size)) (M : 0 ≤ a ∧ a ≤ b ∧ b ≤ s.size) (hn : AtE P f nt (nextK k) (putE e (curDst nt k e) (.string (s.extract a.toNat b.toNat))) L S w0 R) : AtE P f nt k e L S w0 R := (OpV.sliceS h Z V M).E hn
def asBin (nt : Nat) (k : List Item) (e : Env) : Option (BinOp × Value × Value) :=
 match cur nt k e with
 | some o => match o.op with
  | .binOp op _ x y _ => some (op, rho e x, rho e y)
  | _ => none
 | none => none
theorem asBin_spec {op : BinOp} {a b : Value} (h : asBin nt k e = some (op, a, b)) : ∃ o T x y U, cur nt k e = some o ∧ o.op = .binOp op T x y U ∧ rho e x = a ∧ rho e y = b := by
 unfold asBin at h
 split at h
 ·next o hc =>
  split at h
  ·next op' T x y U ho =>
   simp only [Option.some.injEq, Prod.mk.injEq] at h
   obtain ⟨rfl, M, O⟩ := h
   exact ⟨o, T, x, y, U, hc, ho, M, O⟩
  ·cases h
 ·cases h
theorem eqGuard_none {op : BinOp} (T : TypeId) (x y : Operand) (a b : Value) (W : World) (h : op ≠ .eql ∧ op ≠ .neq) : (eqGuard op T x y a b).run P W = .ok () W := by
 cases op <;> simp_all [eqGuard]
theorem OpV.concat {x y : ByteArray} (h : asBin nt k e = some (.add, .string x, .string y)) (M : x.size + y.size ≤ 9223372036854775807) : OpV P nt k e L S w0 (.string (x ++ y)) := by
 obtain ⟨o, T, a, b, U, Z, a0, O, V⟩ := asBin_spec h
 refine ⟨_, Z, fun W _ => ?_⟩
 simp only [execOp, a0, O, V]
 refine run_lift ?_
 rw [Sem.run_bind, eqGuard_none _ _ _ _ _ _ (by simp)]
 simp only [Result.andThen, binOp, Op.stringOp]
 rw [if_neg (by show ¬ (((x.size + y.size : Nat) : Int) > 9223372036854775807); omega)]
 rfl
theorem AtE.concat {x y : ByteArray} (h : asBin nt k e = some (.add, .string x, .string y)) (M : x.size + y.size ≤ 9223372036854775807) (hn : AtE P f nt (nextK k) (putE e (curDst nt k e) (.string (x ++ y))) L S w0 R) : AtE P f nt k e L S w0 R := (OpV.concat h M).E hn
theorem OpV.shl {kd kc : IntKind} {x y : Int} (h : asBin nt k e = some (.shl, .int kd x, .int kc y)) (M : 0 ≤ y) : OpV P nt k e L S w0 (.int kd (kd.wrap (x * 2 ^ (min y.toNat kd.bits)))) := by
 obtain ⟨o, T, a, b, U, Z, a0, O, V⟩ := asBin_spec h
 refine ⟨_, Z, fun W _ => ?_⟩
 simp only [execOp, a0, O, V]
 refine run_lift ?_
 rw [Sem.run_bind, eqGuard_none _ _ _ _ _ _ (by simp)]
 simp only [Result.andThen, binOp, Op.shift]
 rw [if_neg (by omega)]
 rfl
theorem AtE.shl {kd kc : IntKind} {x y : Int} (h : asBin nt k e = some (.shl, .int kd x, .int kc y)) (M : 0 ≤ y) (hn : AtE P f nt (nextK k) (putE e (curDst nt k e) (.int kd (kd.wrap (x * 2 ^ (min y.toNat kd.bits))))) L S w0 R) : AtE P f nt k e L S w0 R := (OpV.shl h M).E hn
theorem OpV.rem {kd : IntKind} {x y : Int} (h : asBin nt k e = some (.rem, .int kd x, .int kd y)) (M : y ≠ 0) : OpV P nt k e L S w0 (.int kd (x.tmod y)) := by
 obtain ⟨o, T, a, b, U, Z, a0, O, V⟩ := asBin_spec h
 refine ⟨_, Z, fun W _ => ?_⟩
 simp only [execOp, a0, O, V]
 refine run_lift ?_
 rw [Sem.run_bind, eqGuard_none _ _ _ _ _ _ (by simp)]
 simp [Result.andThen, binOp, Op.intDiv, M]
theorem AtE.rem {kd : IntKind} {x y : Int} (h : asBin nt k e = some (.rem, .int kd x, .int kd y)) (M : y ≠ 0) (hn : AtE P f nt (nextK k) (putE e (curDst nt k e) (.int kd (x.tmod y))) L S w0 R) : AtE P f nt k e L S w0 R := (OpV.rem h M).E hn
def CallH (P : Program) (g : FuncId) (args : Array Value) (L : SHeap) (S : List Nat) (w0 : World) (K : Value → SHeap → Prop) : Prop :=
 ∀ W, Mem L S w0 W → Calls P g args W fun e W' => ∃ v L', e = .returned v ∧ Mem L' S w0 W' ∧ K v L'
theorem AtE.call (g : FuncId) (args : Array Value) {L1 : SHeap} {K : Value → SHeap → Prop} (a7 : ∀ W, (execOp (rho e) (curO nt k e)).run P W = .ok (.enter g args) W)
  (M : (cur nt k e, L) = (some (curO nt k e), L1)) (h : CallH P g args L1 S w0 K)
  (hn : ∀ v L', K v L' → AtE P f nt (nextK k) (putE e (curDst nt k e) v) L' S w0 R) : AtE P f nt k e L S w0 R := by
 intro t W O hm
 simp only [Prod.mk.injEq] at M
 obtain ⟨M, rfl⟩ := M
 obtain ⟨ops, i, rest, k', rfl, a6, a8, a4, hp, a1⟩ := cur_spec M
 have V := a7 W
 rw [← execOp_congr (Act.mk t []).eval (rho e) _ hp (O.rho a4 [])] at V
 refine At.enter a6 (O.wanted a8) V ((h W hm).mono fun en Z a3 => ?_)
 obtain ⟨v, L', a2, a5, a0⟩ := a3
 refine ⟨v, a2, hn v L' a0 _ Z ?_ a5⟩
 have := O.put a1 v []
 simpa only [curDst, M] using this
def PureC (P : Program) (g : FuncId) (args : Array Value) (v : Value) : Prop :=
 ∀ W, Calls P g args W fun e W' => e = .returned v ∧ Below W.heap.size W W'
theorem CallH.pure {g : FuncId} {args : Array Value} {v : Value} {K : Value → SHeap → Prop} (h : PureC P g args v) (O : K v L) : CallH P g args L S w0 K :=
 fun W hm => (h W).mono fun _ _ M => ⟨v, L, M.1, hm.after M.2, O⟩
def Fin (R : Ending → World → Prop) (L : SHeap) (S : List Nat) (w0 : World) (v : Value) : Prop := ∀ W, Mem L S w0 W → R (.returned v) W
def retV (e : Env) (rs : List ResultVar) : Option Value :=
 match rs with
 | [] => some (.tuple #[])
 | [.tmp a] => get? e a
 | [.tmp a, .tmp b] => match get? e a with
  | some x => match get? e b with
   | some y => some (.tuple #[x, y])
   | none => none
  | none => none
 | [.tmp a, .tmp b, .tmp c] => match get? e a with
  | some x => match get? e b with
   | some y => match get? e c with
    | some z => some (.tuple #[x, y, z])
    | none => none
   | none => none
  | none => none
 | _ => none
theorem Knows.getD {t : Array Value} (M : Knows nt e t) {i : Nat} {v : Value} (h : get? e i = some v) : t.getD i undef = v := by
 rw [Array.getD_eq_getD_getElem?, M.slot i v h]; rfl
theorem results_run {fn : Func} {t : Array Value} (O : Knows nt e t) {v : Value} (h : retV e fn.results.toList = some v) (W : World) : (results fn t).run P W = .ok v W := by
 have M : fn.results = fn.results.toList.toArray := by simp
 unfold retV at h
 split at h
 ·next h0 => rw [h0] at M; simp at h; subst h; exact results_none M _ _ _
 ·next a h0 => rw [h0] at M; rw [results_tmp M, O.getD h]
 ·next a b h0 =>
  rw [h0] at M
  split at h
  ·next x hx =>
   split at h
   ·next y hy => simp at h; subst h; rw [results_tmp2 M, O.getD hx, O.getD hy]
   ·cases h
  ·cases h
 ·next a b c h0 =>
  rw [h0] at M
  split at h
  ·next x hx =>
   split at h
   ·next y hy =>
    split at h
    ·next z hz => simp at h; subst h; rw [results_tmp3 M, O.getD hx, O.getD hy, O.getD hz]
    ·cases h
   ·cases h
  ·cases h
 ·cases h
def isRet : List Item → Bool
 | .code .ret :: _ => true
 | [] => true
 | _ => false
theorem AtE.ret {R : Ending → World → Prop} {fn : Func} {v : Value} {L1 : SHeap} (V : P.funcs[f]? = some fn) (M : (isRet k, retV e fn.results.toList, L) = (true, some v, L1)) (h : Fin R L1 S w0 v) : AtE P f nt k e L S w0 (nrm R) := by
 simp only [Prod.mk.injEq] at M
 obtain ⟨O, M, rfl⟩ := M
 intro t W Z hm
 unfold isRet at O
 split at O
 ·exact At.ret V (results_run Z M W) (h W hm)
 ·exact At.fin V (results_run Z M W) (h W hm)
 ·cases O
def ior (k : IntKind) (x y : Int) : Int := k.wrap ((BitVec.ofInt k.bits x ||| BitVec.ofInt k.bits y).toNat : Int)
def ixor (k : IntKind) (x y : Int) : Int := k.wrap ((BitVec.ofInt k.bits x ^^^ BitVec.ofInt k.bits y).toNat : Int)
def inot (k : IntKind) (x : Int) : Int := ixor k (if k.signed then -1 else k.max) x
def sub : Code → List Nat → Code
 | c, [] => c
 | .seq a b, i :: r => match i with | 0 => sub a r | _ => sub b r
 | .cond _ a b, i :: r => match i with | 0 => sub a r | _ => sub b r
 | .block _ b, _ :: r => sub b r
 | .loop b, _ :: r => sub b r
 | .scope b, _ :: r => sub b r
 | .rangeFunc _ _ a b, i :: r => match i with | 0 => sub a r | _ => sub b r
 | c, _ => c
def body (fn : Func) : Code := match fn.body with | some c => c | none => .skip
def argsE : Nat → List Value → Env
 | _, [] => []
 | i, v :: r => (i, v) :: argsE (i + 1) r
theorem argsE_get : ∀ (vs : List Value) (i j : Nat) (v : Value), get? (argsE i vs) j = some v → i ≤ j ∧ vs[j - i]? = some v
 | [], _, _, _, h => by simp [argsE, get?] at h
 | u :: r, i, j, v, h => by
  simp only [argsE, get?] at h
  cases hb : Nat.beq i j with
  | true =>
   have : i = j := Nat.eq_of_beq_eq_true hb
   subst this
   rw [hb] at h; simp at h; subst h; simp
  | false =>
   rw [hb] at h
   have V : i ≠ j := fun e => by subst e; simp at hb
   obtain ⟨O, M⟩ := argsE_get r (i + 1) j v h
   refine ⟨by omega, ?_⟩
   have : j - i = (j - (i + 1)) + 1 := by omega
   rw [this]; simpa using M
theorem AtE.calls {fn : Func} {args : List Value} {L : SHeap} {S : List Nat} {w0 W : World} {R : Ending → World → Prop} (a3 : P.funcs[f]? = some fn) (O : (fn.body.isSome, fn.ntmps, Nat.ble args.length nt) = (true, nt, true)) (hm : Mem L S w0 W)
  (h : AtE P f nt [.code (body fn)] (argsE 0 args) L S w0 (nrm R)) : Calls P f ⟨args⟩ W R := by
 simp only [Prod.mk.injEq] at O
 obtain ⟨Z, a0, a1⟩ := O
 obtain ⟨c, V⟩ := Option.isSome_iff_exists.1 Z
 refine At.calls a3 V ?_
 have a2 : body fn = c := by simp [body, V]
 rw [← a2]
 have a4 : args.length ≤ nt := Nat.le_of_ble_eq_true a1
 refine h _ W ⟨?_, ?_⟩ hm
 ·simp [a0]; omega
 ·intro i v M
  obtain ⟨_, M⟩ := argsE_get args 0 i v M
  simp only [Nat.sub_zero] at M
  have hi : i < args.length := (List.getElem?_eq_some_iff.1 M).1
  rw [Array.getElem?_append_left (by simpa using hi)]
  simpa using M
end
section
variable {P : Program} {f nt : Nat} {k : List Item} {e : Env} {L : SHeap} {S : List Nat} {w0 : World} {R : Goal P}
def blkL (L : SHeap) (j : Nat) : Nat := match L[j]? with | some (B, _) => B | none => 0
def cellsL (L : SHeap) (j : Nat) : List Value := match L[j]? with | some (_, .cells c _ _) => c.toList | _ => []
def elemL (L : SHeap) (j : Nat) : TypeId := match L[j]? with | some (_, .cells _ t _) => t | _ => 0
def fzL (L : SHeap) (j : Nat) : Nat × Nat := match L[j]? with | some (_, .cells _ _ fz) => fz | _ => (0, 0)
def isCellsL (L : SHeap) (j : Nat) : Bool := match L[j]? with | some (_, .cells _ _ _) => true | _ => false
def setL (L : SHeap) (j : Nat) (c : List Value) : SHeap := L.set j (blkL L j, .cells ⟨c⟩ (elemL L j) (fzL L j))
theorem isCellsL_spec {L : SHeap} {j : Nat} (h : isCellsL L j = true) : L[j]? = some (blkL L j, .cells ⟨cellsL L j⟩ (elemL L j) (fzL L j)) := by
 unfold isCellsL at h
 split at h
 ·next B c t fz hj => simp [blkL, cellsL, elemL, fzL, hj]
 ·cases h
theorem Mem.heapAt {W : World} (hm : Mem L S w0 W) {j : Nat} (h : isCellsL L j = true) : W.heap[blkL L j]? = some (.cells ⟨cellsL L j⟩ (elemL L j) (fzL L j)) :=
 hm.here _ (List.mem_of_getElem? (isCellsL_spec h))
theorem addr_add (b o j : Nat) : (⟨b, o, none⟩ : Addr).add j = ⟨b, o + j, none⟩ := by unfold Addr.add; split <;> simp_all
def aggD : TypeDesc → Bool
 | .struct _ | .array _ _ => true
 | _ => false
def valAt (P : Program) (T : TypeId) (c : List Value) (off : Nat) : Option Value :=
 match P.underlying T with
 | none => none
 | some d => match aggD d with
  | true => match P.info? T with
   | some i => bif Nat.ble (off + i.size) c.length then some (.agg ⟨(c.drop off).take i.size⟩) else none
   | none => none
  | false => c[off]?
theorem cell_of_heap {W : World} {B : Nat} {c : List Value} {t : TypeId} {fz : Nat × Nat} (h : W.heap[B]? = some (.cells ⟨c⟩ t fz)) (off : Nat) : W.cell? ⟨B, off, none⟩ = c[off]? := by
 simp [World.cell?, h]
theorem load_run {W : World} {B off : Nat} {c : List Value} {t : TypeId} {fz : Nat × Nat} {T : TypeId} {v : Value} (h : W.heap[B]? = some (.cells ⟨c⟩ t fz)) (M : valAt P T c off = some v) :
  (Instr.loadAt T (.pointer (some ⟨B, off, none⟩))).run P W = .ok v W := by
 unfold valAt at M
 split at M
 ·cases M
 ·next d hd =>
  split at M
  ·next ha =>
   split at M
   ·next i hi =>
    cases hb : Nat.ble (off + i.size) c.length with
    | false => rw [hb] at M; simp at M
    | true =>
     have Z := Nat.le_of_ble_eq_true hb
     rw [hb] at M; simp only [cond_true, Option.some.injEq] at M
     subst M
     have := run_loadAt_mid (P := P) W B off T ((c.drop off).take i.size) d (fun j u O => ?_) hd (by cases d <;> simp_all [aggD]) (by simp [hi]; omega)
     ·simpa using this
     ·rw [cell_of_heap h]
      rw [List.getElem?_take] at O
      split at O
      ·rw [List.getElem?_drop] at O; exact O
      ·cases O
   ·cases M
  ·next ha =>
   have V : (isAgg T).run P W = .ok false W := by
    unfold isAgg
    rw [Sem.run_bind, run_underlying hd W]
    cases d <;> simp_all [aggD]
   simp only [Instr.loadAt, Instr.sureAddr, Sem.run_bind, Sem.run_pure, Result.andThen_ok, loadVar, V]
   simp [run_load, cell_of_heap h, M]
def asLoad (nt : Nat) (k : List Item) (e : Env) : Option (TypeId × Value) :=
 match cur nt k e with
 | some o => match o.op with
  | .load T x => some (T, rho e x)
  | _ => none
 | none => none
theorem asLoad_spec {T : TypeId} {a : Value} (h : asLoad nt k e = some (T, a)) : ∃ o x, cur nt k e = some o ∧ o.op = .load T x ∧ rho e x = a := by
 unfold asLoad at h
 split at h
 ·next o hc =>
  split at h
  ·next T' x ho => simp only [Option.some.injEq, Prod.mk.injEq] at h; obtain ⟨rfl, M⟩ := h; exact ⟨o, x, hc, ho, M⟩
  ·cases h
 ·cases h
theorem OpV.load (j off : Nat) {T : TypeId} {v : Value} (h : (asLoad nt k e, isCellsL L j, valAt P T (cellsL L j) off) = (some (T, .pointer (some ⟨blkL L j, off, none⟩)), true, some v)) : OpV P nt k e L S w0 v := by
 simp only [Prod.mk.injEq] at h
 obtain ⟨M, O, V⟩ := h
 obtain ⟨o, x, Z, a0, a1⟩ := asLoad_spec M
 refine ⟨_, Z, fun W hm => ?_⟩
 simp only [execOp, a0, a1]
 exact run_lift (load_run (hm.heapAt O) V)
theorem AtE.load (j off : Nat) {T : TypeId} {v : Value} (h : (asLoad nt k e, isCellsL L j, valAt P T (cellsL L j) off) = (some (T, .pointer (some ⟨blkL L j, off, none⟩)), true, some v)) (hn : AtE P f nt (nextK k) (putE e (curDst nt k e) v) L S w0 R) : AtE P f nt k e L S w0 R := (OpV.load j off h).E hn
theorem OpV.loadS (j : Nat) {off : Nat} {T : TypeId} {v : Value} {c : List Value} (h : (asLoad nt k e, isCellsL L j, cellsL L j) = (some (T, .pointer (some ⟨blkL L j, off, none⟩)), true, c)) (M : valAt P T c off = some v) : OpV P nt k e L S w0 v := by
 simp only [Prod.mk.injEq] at h
 obtain ⟨O, V, Z⟩ := h
 obtain ⟨o, x, a0, a1, a2⟩ := asLoad_spec O
 refine ⟨_, a0, fun W hm => ?_⟩
 simp only [execOp, a1, a2]
 exact run_lift (load_run (hm.heapAt V) (Z ▸ M))
theorem AtE.loadS (j : Nat) {off : Nat} {T : TypeId} {v : Value} {c : List Value} (h : (asLoad nt k e, isCellsL L j, cellsL L j) = (some (T, .pointer (some ⟨blkL L j, off, none⟩)), true, c)) (M : valAt P T c off = some v) (hn : AtE P f nt (nextK k) (putE e (curDst nt k e) v) L S w0 R) : AtE P f nt k e L S w0 R := (OpV.loadS j h M).E hn
theorem valAt_one {T : TypeId} {c : List Value} {off : Nat} {v : Value} (h : c[off]? = some v) (M : (P.underlying T).map aggD = some false) : valAt P T c off = some v := by
 unfold valAt
 cases hd : P.underlying T with
 | none => rw [hd] at M; cases M
 | some d =>
  rw [hd] at M; simp at M
  simp [M, h]
theorem valAt_agg {T : TypeId} {c : List Value} {off n : Nat} {vs : List Value} (h : (c.drop off).take n = vs) (O : off + n ≤ c.length) (M : (P.underlying T).map aggD = some true) (hi : (P.info? T).map (·.size) = some n) : valAt P T c off = some (.agg ⟨vs⟩) := by
 unfold valAt
 cases hd : P.underlying T with
 | none => rw [hd] at M; cases M
 | some d =>
  rw [hd] at M; simp at M
  cases hq : P.info? T with
  | none => rw [hq] at hi; cases hi
  | some i =>
   rw [hq] at hi; simp at hi
   have : Nat.ble (off + n) c.length = true := Nat.ble_eq_true_of_le O
   simp [M, this, hi, h]
def blkW (w : World) (b : Nat) : Option (List Value) := match w.heap[b]? with | some (.cells c _ _) => some c.toList | _ => none
theorem OpV.loadW {b off : Nat} {T : TypeId} {v : Value} {c : List Value} (h : asLoad nt k e = some (T, .pointer (some ⟨b, off, none⟩))) (O : b ∉ S) (M : blkW w0 b = some c) (V : valAt P T c off = some v) : OpV P nt k e L S w0 v := by
 obtain ⟨o, x, Z, a1, a2⟩ := asLoad_spec h
 refine ⟨_, Z, fun W hm => ?_⟩
 simp only [execOp, a1, a2]
 refine run_lift ?_
 unfold blkW at M
 split at M
 ·next c' t fz hh =>
  simp at M; subst M
  have a0 : b < w0.heap.size := by
   rcases Nat.lt_or_ge b w0.heap.size with h | h
   ·exact h
   ·rw [Array.getElem?_eq_none h] at hh; cases hh
  refine load_run (t := t) (fz := fz) ?_ V
  rw [hm.kept.block b a0 O, hh]
 ·cases M
theorem AtE.loadW {b off : Nat} {T : TypeId} {v : Value} {c : List Value} (h : asLoad nt k e = some (T, .pointer (some ⟨b, off, none⟩))) (O : b ∉ S) (M : blkW w0 b = some c) (V : valAt P T c off = some v) (hn : AtE P f nt (nextK k) (putE e (curDst nt k e) v) L S w0 R) : AtE P f nt k e L S w0 R := (OpV.loadW h O M V).E hn
def asStore (nt : Nat) (k : List Item) (e : Env) : Option (TypeId × Value × Value) :=
 match cur nt k e with
 | some o => match o.op with
  | .store T x v => some (T, rho e x, rho e v)
  | _ => none
 | none => none
theorem asStore_spec {T : TypeId} {a v : Value} (h : asStore nt k e = some (T, a, v)) : ∃ o x y, cur nt k e = some o ∧ o.op = .store T x y ∧ rho e x = a ∧ rho e y = v := by
 unfold asStore at h
 split at h
 ·next o hc =>
  split at h
  ·next T' x y ho => simp only [Option.some.injEq, Prod.mk.injEq] at h; obtain ⟨rfl, M, O⟩ := h; exact ⟨o, x, y, hc, ho, M, O⟩
  ·cases h
 ·cases h
def allOne : List Value → Bool
 | [] => true
 | v :: r => bif v.oneCell' then allOne r else false
theorem allOne_spec : ∀ {l : List Value}, allOne l = true → ∀ v ∈ l, v.oneCell' = true
 | [], _, _, h => by cases h
 | v :: r, h, x, hx => by
  simp only [allOne] at h
  cases hv : v.oneCell' with
  | false => rw [hv] at h; simp at h
  | true =>
   rw [hv] at h
   cases hx with
   | head => exact hv
   | tail _ hm => exact allOne_spec (by simpa using h) x hm
def putC (P : Program) (T : TypeId) (c : List Value) (off : Nat) (v : Value) : Option (List Value) :=
 match P.info? T with
 | none => none
 | some i => bif (Nat.beq v.cells.toList.length i.size && Nat.ble (off + i.size) c.length) && allOne v.cells.toList then some (c.take off ++ v.cells.toList ++ c.drop (off + v.cells.toList.length)) else none
theorem World.setRow_heap' (W : World) (B : Nat) (c c' : Array Value) (t : TypeId) (fz : Nat × Nat) (h : W.heap[B]? = some (.cells c t fz)) : (W.setRow B c').heap = W.heap.setIfInBounds B (.cells c' t fz) := by
 apply Array.ext_getElem?
 intro i
 simp only [World.setRow, Array.getElem?_modify, Array.getElem?_setIfInBounds]
 split
 ·next hi =>
  subst hi
  have : B < W.heap.size := (Array.getElem?_eq_some_iff.1 h).1
  rw [h]; simp [this]
 ·rfl
theorem store_run {W : World} {B off : Nat} {c c' : List Value} {t : TypeId} {T : TypeId} {v : Value} (h : W.heap[B]? = some (.cells ⟨c⟩ t (0, 0))) (M : putC P T c off v = some c') :
  (Instr.storeAt T (.pointer (some ⟨B, off, none⟩)) v).run P W = .ok () (W.setRow B ⟨c'⟩) := by
 unfold putC at M
 split at M
 ·cases M
 ·next i hi =>
  cases hb : (Nat.beq v.cells.toList.length i.size && Nat.ble (off + i.size) c.length) && allOne v.cells.toList with
  | false => rw [hb] at M; simp at M
  | true =>
   rw [hb] at M
   simp only [cond_true, Option.some.injEq] at M
   subst M
   simp only [Bool.and_eq_true] at hb
   obtain ⟨⟨O, V⟩, Z⟩ := hb
   have O := Nat.eq_of_beq_eq_true O
   have V := Nat.le_of_ble_eq_true V
   have a1 := run_storeCells_at P B off t v.cells.toList 0 ⟨c⟩ W h (by simp; simp at O; omega) (allOne_spec Z)
   simp only [Instr.storeAt, Instr.sureAddr, Sem.run_bind, Sem.run_pure, Result.andThen_ok, storeVar, sizeOf, typeInfo, run_program, hi]
   have a0 : ¬ (v.cells.size ≠ i.size) := by simpa using O
   simp only [a0, if_false]
   rw [a1]; simp
theorem Mem.setRow {W : World} (hm : Mem L S w0 W) {j : Nat} (h : isCellsL L j = true) (c' : List Value) : Mem (setL L j c') S w0 (W.setRow (blkL L j) ⟨c'⟩) :=
 Mem.setObj hm (isCellsL_spec h) _ rfl rfl rfl (World.setRow_heap' W _ _ _ _ _ (hm.heapAt h))
def putOk (P : Program) (T : TypeId) (c : List Value) (off : Nat) (v : Value) : Bool := match putC P T c off v with | some _ => true | none => false
def putD (P : Program) (T : TypeId) (c : List Value) (off : Nat) (v : Value) : List Value := match putC P T c off v with | some c' => c' | none => []
theorem AtE.store (j off : Nat) {T : TypeId} {v : Value} (h : (asStore nt k e, isCellsL L j, fzL L j, putOk P T (cellsL L j) off v) = (some (T, .pointer (some ⟨blkL L j, off, none⟩), v), true, (0, 0), true))
  (hn : AtE P f nt (nextK k) (putE e (curDst nt k e) undef) (setL L j (putD P T (cellsL L j) off v)) S w0 R) : AtE P f nt k e L S w0 R := by
 simp only [Prod.mk.injEq] at h
 obtain ⟨V, M, Z, a0⟩ := h
 obtain ⟨o, x, y, a1, a3, a4, a5⟩ := asStore_spec V
 cases hp : putC P T (cellsL L j) off v with
 | none => simp [putOk, hp] at a0
 | some c' =>
  have a2 : putD P T (cellsL L j) off v = c' := by simp [putD, hp]
  rw [a2] at hn
  refine AtE.opK a1 (fun W hm => ⟨W.setRow (blkL L j) ⟨c'⟩, ?_, hm.setRow M c'⟩) hn
  simp only [execOp, a3, a4, a5]
  have O := hm.heapAt M
  rw [Z] at O
  rw [Sem.run_bind, store_run O hp]; rfl
theorem setCell_setRow {W : World} {B off : Nat} {c : List Value} {t : TypeId} {fz : Nat × Nat} {v : Value} (h : W.heap[B]? = some (.cells ⟨c⟩ t fz)) : W.setCell ⟨B, off, none⟩ v = W.setRow B ⟨c.set off v⟩ := by
 unfold World.setCell World.setRow
 congr 1
 apply Array.ext_getElem?
 intro i
 simp only [Array.getElem?_modify]
 split
 ·next hi => subst hi; rw [h]; simp
 ·rfl
theorem AtE.storeS (j : Nat) {off lo hi : Nat} {T : TypeId} {v : Value} {c : List Value} (h : (asStore nt k e, isCellsL L j, v.oneCell', (P.info? T).map (·.size), cellsL L j, fzL L j) = (some (T, .pointer (some ⟨blkL L j, off, none⟩), v), true, true, some 1, c, (lo, hi)))
  (a4 : off < c.length) (a9 : off < lo ∨ hi ≤ off)
  (hn : AtE P f nt (nextK k) (putE e (curDst nt k e) undef) (setL L j (c.set off v)) S w0 R) : AtE P f nt k e L S w0 R := by
 simp only [Prod.mk.injEq] at h
 obtain ⟨a0, V, a1, M, a2, a3⟩ := h
 obtain ⟨o, x, y, a5, b0, b1, b3⟩ := asStore_spec a0
 refine AtE.opK a5 (fun W hm => ⟨W.setRow (blkL L j) ⟨c.set off v⟩, ?_, hm.setRow V _⟩) hn
 have O := hm.heapAt V
 rw [a2, a3] at O
 cases hq : P.info? T with
 | none => rw [hq] at M; cases M
 | some i =>
  rw [hq] at M; simp at M
  have a7 : v.cells = #[v] := by cases v <;> simp_all [Value.cells, Value.oneCell']
  have a6 : W.cell? ⟨blkL L j, off, none⟩ = some (c[off]) := by rw [cell_of_heap O, List.getElem?_eq_getElem a4]
  have a8 : W.frozen? ⟨blkL L j, off, none⟩ = false := by
   simp only [World.frozen?, O]
   rcases a9 with h | h
   ·simp; intro Z; omega
   ·simp; intro Z; omega
  simp only [execOp, b0, b1, b3, Sem.run_bind, Instr.storeAt, Instr.sureAddr, Sem.run_pure, Result.andThen_ok, storeVar, sizeOf, typeInfo, run_program, hq, a7]
  simp only [M, List.size_toArray, List.length_cons, List.length_nil, Nat.zero_add, ne_eq, not_true, if_false, storeCells]
  simp only [Sem.run_bind, Addr.add_zero', run_store P W _ v _ a1, a6, a8, Bool.false_eq_true, if_false, Result.andThen_ok, Sem.run_pure]
  rw [setCell_setRow O]
theorem AtE.new (M : Nat → Value) (o : Obj) (h : ∀ W, (execOp (rho e) (curO nt k e)).run P W = .ok (.value (M W.heap.size)) { W with heap := W.heap.push o }) (O : cur nt k e = some (curO nt k e))
  (hn : ∀ B, AtE P f nt (nextK k) (putE e (curDst nt k e) (M B)) (L ++ [(B, o)]) S w0 R) : AtE P f nt k e L S w0 R := by
 refine AtE.op O fun W hm => ⟨M W.heap.size, _, h W, fun t V => hn W.heap.size t _ ?_ (hm.alloc o)⟩
 simpa only [curDst, O] using V
def asIndexAddr (P : Program) (nt : Nat) (k : List Item) (e : Env) : Option (Option TypeDesc × Value × Value) :=
 match cur nt k e with
 | some o => match o.op with
  | .indexAddr T x i => some (P.underlying T, rho e x, rho e i)
  | _ => none
 | none => none
theorem asIndexAddr_spec {d : Option TypeDesc} {a i : Value} (h : asIndexAddr P nt k e = some (d, a, i)) : ∃ o T x y, cur nt k e = some o ∧ o.op = .indexAddr T x y ∧ P.underlying T = d ∧ rho e x = a ∧ rho e y = i := by
 unfold asIndexAddr at h
 split at h
 ·next o hc =>
  split at h
  ·next T x y ho => simp only [Option.some.injEq, Prod.mk.injEq] at h; obtain ⟨M, O, V⟩ := h; exact ⟨o, T, x, y, hc, ho, M, O, V⟩
  ·cases h
 ·cases h
theorem OpV.indexAddrL {E : TypeId} {b o len cap sz o' : Nat} {kd : IntKind} {i : Int} (h : (asIndexAddr P nt k e, (P.info? E).map (·.size)) = (some (some (.slice E), .slice (some ⟨b, o, none⟩) len cap, .int kd i), some sz))
  (O : 0 ≤ i ∧ i < len) (V : o' = o + i.toNat * sz) : OpV P nt k e L S w0 (.pointer (some ⟨b, o', none⟩)) := by
 simp only [Prod.mk.injEq] at h
 obtain ⟨Z, M⟩ := h
 obtain ⟨op, T, x, y, a0, a2, a1, a3, a4⟩ := asIndexAddr_spec Z
 cases hq : P.info? E with
 | none => rw [hq] at M; cases M
 | some ii =>
  rw [hq] at M; simp at M
  refine ⟨_, a0, fun W hm => ?_⟩
  simp only [execOp, a2, a3, a4]
  refine run_lift ?_
  simp only [Instr.indexAt, asIntOf, Sem.run_bind, Sem.run_pure, Result.andThen_ok, run_underlying a1, O, and_self, if_true, sizeOf, typeInfo, run_program, hq, addr_add, M, ← V]
theorem AtE.indexAddrL {E : TypeId} {b o len cap sz o' : Nat} {kd : IntKind} {i : Int} (h : (asIndexAddr P nt k e, (P.info? E).map (·.size)) = (some (some (.slice E), .slice (some ⟨b, o, none⟩) len cap, .int kd i), some sz))
  (O : 0 ≤ i ∧ i < len) (V : o' = o + i.toNat * sz) (hn : AtE P f nt (nextK k) (putE e (curDst nt k e) (.pointer (some ⟨b, o', none⟩))) L S w0 R) : AtE P f nt k e L S w0 R := (OpV.indexAddrL h O V).E hn
theorem AtE.indexAddrA {E : TypeId} {n b o sz o' : Nat} {kd : IntKind} {i : Int} (h : (asIndexAddr P nt k e, (P.info? E).map (·.size)) = (some (some (.array n E), .pointer (some ⟨b, o, none⟩), .int kd i), some sz))
  (V : 0 ≤ i ∧ i < n) (a1 : o' = o + i.toNat * sz) (hn : AtE P f nt (nextK k) (putE e (curDst nt k e) (.pointer (some ⟨b, o', none⟩))) L S w0 R) : AtE P f nt k e L S w0 R := by
 simp only [Prod.mk.injEq] at h
 obtain ⟨O, M⟩ := h
 obtain ⟨op, T, x, y, Z, a2, a0, a3, a4⟩ := asIndexAddr_spec O
 cases hq : P.info? E with
 | none => rw [hq] at M; cases M
 | some ii =>
  rw [hq] at M; simp at M
  refine AtE.opV Z (fun W hm => ?_) hn
  simp only [execOp, a2, a3, a4]
  refine run_lift ?_
  simp only [Instr.indexAt, asIntOf, Instr.sureAddr, Sem.run_bind, Sem.run_pure, Result.andThen_ok, run_underlying a0, V, and_self, if_true, sizeOf, typeInfo, run_program, hq, addr_add, M, ← a1]
theorem OpV.sliceL {E : TypeId} {b o len cap sz o' l' c' : Nat} {lo hi : Option Value} {x y : Int} (h : (asSlice P nt k e, (P.info? E).map (·.size)) = (some (some (.slice E), .slice (some ⟨b, o, none⟩) len cap, lo, hi, none), some sz))
  (a3 : (∃ kd, lo = some (.int kd x)) ∨ (lo = none ∧ x = 0)) (a1 : (∃ kd, hi = some (.int kd y)) ∨ (hi = none ∧ y = len ∧ len ≤ cap)) (Z : 0 ≤ x ∧ x ≤ y ∧ y ≤ cap)
  (a4 : o' = if x.toNat = cap then o else o + x.toNat * sz) (a2 : l' = y.toNat - x.toNat) (a0 : c' = cap - x.toNat) : OpV P nt k e L S w0 (.slice (some ⟨b, o', none⟩) l' c') := by
 simp only [Prod.mk.injEq] at h
 obtain ⟨O, V⟩ := h
 unfold asSlice at O
 split at O
 ·next op hc =>
  split at O
  ·next T x' l2 h2' m2 hop =>
   simp only [Option.some.injEq, Prod.mk.injEq] at O
   obtain ⟨a6, b0, a8, a7, a9⟩ := O
   cases hq : P.info? E with
   | none => rw [hq] at V; cases V
   | some ii =>
    rw [hq] at V; simp at V
    refine ⟨_, hc, fun W hm => ?_⟩
    simp only [execOp, hop, b0, a8, a7, a9]
    refine run_lift ?_
    have key : (Instr.sliceBounds true len cap lo hi none).run P W = .ok (x.toNat, y.toNat, cap) W := by
     have b1 : (y.toNat : Int) = y := Int.toNat_of_nonneg (by omega)
     have a5 : ∀ kd M, (Instr.sliceBound (.int kd y) cap M).run P W = .ok y.toNat W := fun kd M => run_sliceBound W kd y cap M (by omega) Z.2.2
     have b2 : ∀ kd M, (Instr.sliceBound (.int kd x) y.toNat M).run P W = .ok x.toNat W := fun kd M => run_sliceBound W kd x y.toNat M Z.1 (by omega)
     rcases a3 with ⟨kd, rfl⟩ | ⟨rfl, rfl⟩ <;> rcases a1 with ⟨kd', rfl⟩ | ⟨rfl, rfl, _⟩
     ·simp only [Instr.sliceBounds, Sem.run_bind, Sem.run_pure, Result.andThen_ok, a5, b2]
     ·simp only [Instr.sliceBounds, Sem.run_bind, Sem.run_pure, Result.andThen_ok]
      have := b2 kd .sliceB
      simp only [Int.toNat_natCast] at this
      simp [this]
     ·simp only [Instr.sliceBounds, Sem.run_bind, Sem.run_pure, Result.andThen_ok, a5]; rfl
     ·simp only [Instr.sliceBounds, Sem.run_bind, Sem.run_pure, Result.andThen_ok]; simp
    simp only [Instr.sliceAt, Sem.run_bind, run_underlying a6, Result.andThen_ok, Instr.slice, key, sizeOf, typeInfo, run_program, hq, Sem.run_pure]
    simp only [Option.map_some, addr_add, V]
    rw [a4, a2, a0]
    congr 1
    by_cases hcx : cap = x.toNat
    ·simp [hcx]
    ·have : ¬ x.toNat = cap := fun h => hcx h.symm
     simp [hcx, this]
  ·cases O
 ·cases O
theorem AtE.sliceL {E : TypeId} {b o len cap sz o' l' c' : Nat} {lo hi : Option Value} {x y : Int} (h : (asSlice P nt k e, (P.info? E).map (·.size)) = (some (some (.slice E), .slice (some ⟨b, o, none⟩) len cap, lo, hi, none), some sz))
  (a3 : (∃ kd, lo = some (.int kd x)) ∨ (lo = none ∧ x = 0)) (a1 : (∃ kd, hi = some (.int kd y)) ∨ (hi = none ∧ y = len ∧ len ≤ cap)) (Z : 0 ≤ x ∧ x ≤ y ∧ y ≤ cap)
  (a4 : o' = if x.toNat = cap then o else o + x.toNat * sz) (a2 : l' = y.toNat - x.toNat) (a0 : c' = cap - x.toNat) (hn : AtE P f nt (nextK k) (putE e (curDst nt k e) (.slice (some ⟨b, o', none⟩) l' c')) L S w0 R) : AtE P f nt k e L S w0 R := (OpV.sliceL h a3 a1 Z a4 a2 a0).E hn
end
section
variable {P : Program} {f nt : Nat} {k : List Item} {e : Env} {L : SHeap} {S : List Nat} {w0 : World} {R : Goal P}
def bytesL (l : List UInt8) : List Value := l.map fun b => Value.int .u8 (b.toNat : Int)
def asConv (P : Program) (nt : Nat) (k : List Item) (e : Env) : Option (Option TypeDesc × Option TypeDesc × Value) :=
 match cur nt k e with
 | some o => match o.op with
  | .convert s d x => some (P.underlying s, P.underlying d, rho e x)
  | _ => none
 | none => none
theorem asConv_spec {a b : Option TypeDesc} {v : Value} (h : asConv P nt k e = some (a, b, v)) : ∃ o s d x, cur nt k e = some o ∧ o.op = .convert s d x ∧ P.underlying s = a ∧ P.underlying d = b ∧ rho e x = v := by
 unfold asConv at h
 split at h
 ·next o hc =>
  split at h
  ·next s d x ho => simp only [Option.some.injEq, Prod.mk.injEq] at h; obtain ⟨M, O, V⟩ := h; exact ⟨o, s, d, x, hc, ho, M, O, V⟩
  ·cases h
 ·cases h
theorem foldl_push (l : List UInt8) : ∀ (r : ByteArray), (l.map fun b => (b.toNat : Int)).foldl (fun r n => r.push (UInt8.ofNat n.toNat)) r = ⟨(r.data.toList ++ l).toArray⟩ := by
 induction l with
 | nil => intro r; simp
 | cons b l ih =>
  intro r
  simp only [List.map_cons, List.foldl_cons]
  rw [ih]
  congr 1
  have : UInt8.ofNat (Int.toNat (b.toNat : Int)) = b := by simp
  rw [this]
  simp
theorem AtE.toString (j : Nat) {E : TypeId} {o len cap : Nat} {c : List Value} {l : List UInt8}
  (h : (asConv P nt k e, P.underlying E, isCellsL L j, cellsL L j) = (some (some (.slice E), some .string, .slice (some ⟨blkL L j, o, none⟩) len cap), some (.int .u8), true, c))
  (O : (c.drop o).take len = bytesL l ∧ l.length = len)
  (hn : AtE P f nt (nextK k) (putE e (curDst nt k e) (.string ⟨l.toArray⟩)) L S w0 R) : AtE P f nt k e L S w0 R := by
 simp only [Prod.mk.injEq] at h
 obtain ⟨V, Z, a0, a1⟩ := h
 obtain ⟨op, a9, a8, x, a2, a5, a6, a3, a7⟩ := asConv_spec V
 refine AtE.opV a2 (fun W hm => ?_) hn
 have M := hm.heapAt a0
 rw [a1] at M
 simp only [execOp, a5, a7]
 refine run_lift ?_
 simp only [convert, Sem.run_bind, run_underlying a6, run_underlying a3, Result.andThen_ok, run_underlying Z]
 have a4 : (loadCells ⟨blkL L j, o, none⟩ len).run P W = .ok ((l.map fun b => (b.toNat : Int)).map (Value.int .u8)).toArray W := by
  have := run_loadCells_list (P := P) (w := W) ⟨blkL L j, o, none⟩ (bytesL l) (fun i u hi => ?_)
  ·have e1 : (bytesL l).length = len := by simp [bytesL, O.2]
   rw [e1] at this
   rw [this]; simp [bytesL, Function.comp_def]
  ·rw [addr_add, cell_of_heap M]
   rw [← O.1, List.getElem?_take] at hi
   split at hi
   ·rw [List.getElem?_drop] at hi; exact hi
   ·cases hi
 rw [run_bytesToString W _ _ _ _ a4, foldl_push]
 rfl
def asMake (P : Program) (nt : Nat) (k : List Item) (e : Env) : Option (Option TypeDesc × Value × Value) :=
 match cur nt k e with
 | some o => match o.op with
  | .makeSlice T l c => some (P.underlying T, rho e l, rho e c)
  | _ => none
 | none => none
def infoZ (P : Program) (E : TypeId) : Option (Option Value × Nat × Nat) := (P.info? E).map fun i => (i.zero, i.size, i.bytes)
theorem madeCells_one (z : Value) (n : Nat) : madeCells #[z] n = ⟨List.replicate n z⟩ := by
 apply Array.toList_inj.1
 simp [madeCells]
 apply List.ext_getElem?
 intro i
 simp only [List.getElem?_map, List.getElem?_replicate]
 by_cases h : i < n
 ·simp [h, Nat.mod_one]
 ·simp [h]
theorem AtE.make {E : TypeId} {kl kc : IntKind} {n m : Int} {z : Value} {bytes : Nat}
  (h : (asMake P nt k e, infoZ P E, z.cells) = (some (some (.slice E), .int kl n, .int kc m), some (some z, 1, bytes), #[z]))
  (V : 0 ≤ n ∧ n ≤ m ∧ (bytes : Int) * m ≤ 281474976710656 ∧ m ≤ 9223372036854775807)
  (hn : ∀ B, AtE P f nt (nextK k) (putE e (curDst nt k e) (.slice (some ⟨B, 0, none⟩) n.toNat m.toNat)) (L ++ [(B, .cells ⟨List.replicate m.toNat z⟩ E)]) S w0 R) : AtE P f nt k e L S w0 R := by
 simp only [Prod.mk.injEq] at h
 obtain ⟨M, O, Z⟩ := h
 unfold asMake at M
 split at M
 ·next o hc =>
  split at M
  ·next T l c ho =>
   simp only [Option.some.injEq, Prod.mk.injEq] at M
   obtain ⟨a0, a4, a2⟩ := M
   unfold infoZ at O
   cases hq : P.info? E with
   | none => rw [hq] at O; cases O
   | some i =>
    rw [hq] at O
    simp only [Option.map_some, Option.some.injEq, Prod.mk.injEq] at O
    obtain ⟨a6, a5, a1⟩ := O
    refine AtE.op hc fun W hm => ⟨.slice (some ⟨W.heap.size, 0, none⟩) n.toNat m.toNat, _, ?_, fun t a3 => hn W.heap.size t _ (by simpa only [curDst, hc] using a3) (hm.alloc (.cells ⟨List.replicate m.toNat z⟩ E))⟩
    simp only [execOp, ho, a4, a2]
    refine run_lift ?_
    rw [run_make W T E i z a0 hq a6 kl kc n m V.1 V.2.1 (by rw [a1]; exact V.2.2.1) V.2.2.2]
    rw [Z, a5, Nat.mul_one, madeCells_one]; rfl
  ·cases M
 ·cases M
def asBuiltin (nt : Nat) (k : List Item) (e : Env) : Option (Builtin × List Value × List TypeId) :=
 match cur nt k e with
 | some o => match o.op with
  | .call c => match c.callee with
   | .builtin b => some (b, c.args.toList.map (rho e), c.argTypes.toList)
   | _ => none
  | _ => none
 | none => none
theorem asBuiltin_spec {b : Builtin} {M : List Value} {O : List TypeId} (h : asBuiltin nt k e = some (b, M, O)) :
  ∃ o c, cur nt k e = some o ∧ o.op = .call c ∧ c.callee = .builtin b ∧ c.args.map (rho e) = ⟨M⟩ ∧ c.argTypes = ⟨O⟩ := by
 unfold asBuiltin at h
 split at h
 ·next o hc =>
  split at h
  ·next c ho =>
   split at h
   ·next b' hb =>
    simp only [Option.some.injEq, Prod.mk.injEq] at h
    obtain ⟨rfl, V, Z⟩ := h
    refine ⟨o, c, hc, ho, hb, ?_, ?_⟩
    ·apply Array.toList_inj.1; simpa using V
    ·apply Array.toList_inj.1; simpa using Z
   ·cases h
  ·cases h
 ·cases h
theorem run_builtin {o : Oper} {c : Call} {b : Builtin} {M : List Value} {O : List TypeId} (a0 : o.op = .call c) (Z : c.callee = .builtin b) (V : c.args.map (rho e) = ⟨M⟩) (a1 : c.argTypes = ⟨O⟩)
  (h : b ≠ .print ∧ b ≠ .println) (W : World) : (execOp (rho e) o).run P W = (Go.builtin b ⟨O⟩ o.type #[] ⟨M⟩).run P W := by
 simp only [execOp, a0, resolve, Z, V, a1, Sem.run_bind, Sem.run_pure, Result.andThen_ok, invoke]
 cases b <;> simp_all [Go.builtin]
theorem Mem.drop {W : World} (hm : Mem L S w0 W) (j : Nat) : Mem (L.eraseIdx j) S w0 W :=
 ⟨(List.Sublist.map _ (List.eraseIdx_sublist L j)).nodup hm.nodup, fun p hp => hm.here p (List.mem_of_mem_eraseIdx hp), fun p hp => hm.own p (List.mem_of_mem_eraseIdx hp), hm.kept⟩
theorem Mem.perm {L' : SHeap} {W : World} (hm : Mem L S w0 W) (hp : L'.Perm L) : Mem L' S w0 W :=
 ⟨(hp.map _).nodup_iff.2 hm.nodup, fun p h => hm.here p (hp.mem_iff.1 h), fun p h => hm.own p (hp.mem_iff.1 h), hm.kept⟩
theorem Mem.drew {W : World} (hm : Mem L S w0 W) : Mem L S w0 W.drew :=
 ⟨hm.nodup, hm.here, hm.own, ⟨hm.kept.os, hm.kept.tape, hm.kept.output, hm.kept.size, hm.kept.block⟩⟩
def Src (L : SHeap) (S : List Nat) (w0 : World) (a : Addr) (news : List Value) : Prop := ∀ W, Mem L S w0 W → ∀ j u, news[j]? = some u → W.cell? (a.add j) = some u
theorem Src.own {j o n : Nat} {c : List Value} (h : (isCellsL L j, cellsL L j) = (true, c)) : Src L S w0 ⟨blkL L j, o, none⟩ ((c.drop o).take n) := by
 simp only [Prod.mk.injEq] at h
 obtain ⟨O, V⟩ := h
 intro W hm i u hi
 have M := hm.heapAt O
 rw [V] at M
 rw [addr_add, cell_of_heap M]
 rw [List.getElem?_take] at hi
 split at hi
 ·rw [List.getElem?_drop] at hi; exact hi
 ·cases hi
theorem Src.nil (a : Addr) : Src L S w0 a [] := fun _ _ j u h => by simp at h
theorem zeroCells_len (z : Array Value) (n : Nat) : (Builtin.zeroCells z n).toList.length = n * z.size := by simp [Builtin.zeroCells]
theorem app_nil (T E : TypeId) (z : Value) (sz bytes : Nat) (a1 : P.underlying T = some (.slice E)) (O : infoZ P E = some (some z, sz, bytes)) (a8 : z.cells.size = sz)
  (a : Addr) (m c : Nat) (M : List Value) (Z : M.length = m * sz) (a5 : Src L S w0 a M) (a0 : 0 < m) (a9 : m ≤ 9223372036854775807) (b0 : m * bytes ≤ 140737488355328) (ty : TypeId) (W : World) (hm : Mem L S w0 W) :
  ∃ B cap r V, (Builtin.append_ #[T, T] ty #[.slice none 0 0, .slice (some a) m c]).run P W = .ok (.slice (some ⟨B, 0, none⟩) m cap) V ∧ m ≤ cap ∧ (M ++ r).length = cap * sz ∧
   Mem (L ++ [(B, .cells ⟨M ++ r⟩ E)]) S w0 V := by
 unfold infoZ at O
 cases hq : P.info? E with
 | none => rw [hq] at O; cases O
 | some i =>
  rw [hq] at O
  simp only [Option.map_some, Option.some.injEq, Prod.mk.injEq] at O
  obtain ⟨a7, a6, a2⟩ := O
  have a4 := run_append_nil (P := P) W T ty E i z a1 hq a7 a m c M (by rw [a6]; exact Z) (a5 W hm) a0 (by omega) (by rw [a2]; omega)
  refine ⟨W.heap.size, grownCap W m 0 E, (Builtin.zeroCells z.cells (grownCap W m 0 E - m)).toList, _, a4, grownCap_ge W m 0 E, ?_, ?_⟩
  ·rw [List.length_append, zeroCells_len, Z, a8, ← Nat.add_mul]
   congr 1
   have := grownCap_ge W m 0 E
   omega
  ·have := hm.drew.alloc (.cells ⟨M ++ (Builtin.zeroCells z.cells (grownCap W m 0 E - m)).toList⟩ E)
   have a3 : (M.toArray ++ Builtin.zeroCells z.cells (grownCap W m 0 E - m)) = ⟨M ++ (Builtin.zeroCells z.cells (grownCap W m 0 E - m)).toList⟩ := by
    apply Array.toList_inj.1; simp
   rw [a3]; exact this
theorem app_own (j : Nat) (T E : TypeId) (z : Value) (sz bytes : Nat) (b0 : P.underlying T = some (.slice E)) (O : infoZ P E = some (some z, sz, bytes)) (c6 : z.cells.size = sz)
  (n cap : Nat) (cs : List Value) (a7 : isCellsL L j = true) (b1 : cellsL L j = cs) (a4 : elemL L j = E) (a5 : fzL L j = (0, 0)) (hn : n ≤ cap) (a8 : cs.length = cap * sz)
  (a : Addr) (m c : Nat) (M : List Value) (Z : M.length = m * sz) (b4 : Src L S w0 a M) (b5 : ∀ u ∈ M, u.oneCell' = true) (c7 : n + m ≤ 9223372036854775807) (b7 : (n + m) * bytes ≤ 140737488355328)
  (ty : TypeId) (W : World) (hm : Mem L S w0 W) :
  ∃ B a2 r a9, (Builtin.append_ #[T, T] ty #[.slice (some ⟨blkL L j, 0, none⟩) n cap, .slice (some a) m c]).run P W = .ok (.slice (some ⟨B, 0, none⟩) (n + m) a2) a9 ∧ n + m ≤ a2 ∧
   (cs.take (n * sz) ++ M ++ r).length = a2 * sz ∧ Mem (L.eraseIdx j ++ [(B, .cells ⟨cs.take (n * sz) ++ M ++ r⟩ E)]) S w0 a9 := by
 have a6 := hm.heapAt a7
 rw [b1, a4, a5] at a6
 have b9 : L[j]? = some (blkL L j, .cells ⟨cs⟩ E (0, 0)) := by rw [isCellsL_spec a7, b1, a4, a5]
 have c2 : j < L.length := (List.getElem?_eq_some_iff.1 b9).1
 have c3 : n * sz ≤ cs.length := by rw [a8]; exact Nat.mul_le_mul_right _ hn
 unfold infoZ at O
 cases hq : P.info? E with
 | none => rw [hq] at O; cases O
 | some i =>
  rw [hq] at O
  simp only [Option.map_some, Option.some.injEq, Prod.mk.injEq] at O
  obtain ⟨c5, V, b8⟩ := O
  by_cases hroom : n + m ≤ cap
  ·have a0 := run_append_room (P := P) W T ty E i b0 hq (blkL L j) n cap ⟨cs⟩ a6 a m c M (by rw [V]; exact Z) (b4 W hm) b5 hroom (by
    rw [V, Z]; simp only [List.size_toArray, a8]; rw [← Nat.add_mul]; exact Nat.mul_le_mul_right _ hroom)
   rw [V] at a0
   refine ⟨blkL L j, cap, cs.drop (n * sz + M.length), _, a0, hroom, ?_, ?_⟩
   ·simp only [List.length_append, List.length_take, List.length_drop, Z, a8]
    have : (n + m) * sz ≤ cap * sz := Nat.mul_le_mul_right _ hroom
    rw [Nat.add_mul] at this
    have c8 : min (n * sz) (cap * sz) = n * sz := Nat.min_eq_left (by omega)
    omega
   ·have b6 := hm.setRow a7 (cs.take (n * sz) ++ M ++ cs.drop (n * sz + M.length))
    have a3 : (cs.toArray.toList.take (n * sz) ++ M ++ cs.toArray.toList.drop (n * sz + M.length)).toArray = ⟨cs.take (n * sz) ++ M ++ cs.drop (n * sz + M.length)⟩ := rfl
    rw [a3]
    refine b6.perm ?_
    unfold setL
    rw [a4, a5]

    have key : ∀ (l : SHeap) (i : Nat) (x : Nat × Obj), i < l.length → (l.eraseIdx i ++ [x]).Perm (l.set i x) := by
     intro l
     induction l with
     | nil => intro i x h; simp at h
     | cons y l ih =>
      intro i x h
      cases i with
      | zero =>
       simp only [List.eraseIdx_cons_zero, List.set_cons_zero]
       exact (List.perm_append_comm (l₁ := l) (l₂ := [x]))
      | succ i =>
       simp only [List.eraseIdx_cons_succ, List.set_cons_succ, List.cons_append]
       exact (ih i x (by simpa using h)).cons y
    exact key L j _ c2
  ·have c4 : ∀ q u, (cs.take (n * sz))[q]? = some u → W.cell? ((⟨blkL L j, 0, none⟩ : Addr).add q) = some u := by
    intro q u a1
    rw [addr_add, cell_of_heap a6, Nat.zero_add]
    rw [List.getElem?_take] at a1
    split at a1
    ·exact a1
    ·cases a1
   have b3 : (cs.take (n * sz)).length = n * i.size := by rw [List.length_take, V]; exact Nat.min_eq_left c3
   have a0 := run_append_grow (P := P) W T ty E i z b0 hq c5 ⟨blkL L j, 0, none⟩ n cap (cs.take (n * sz)) b3 c4 a m c M (by rw [V]; exact Z) (b4 W hm) (by omega) (by omega) (growslice_fits (by omega) (by rw [b8]; exact b7))
   refine ⟨W.heap.size, grownCap W (n + m) cap E, (Builtin.zeroCells z.cells (grownCap W (n + m) cap E - (n + m))).toList, _, a0, grownCap_ge W (n + m) cap E, ?_, ?_⟩
   ·rw [List.length_append, List.length_append, zeroCells_len, Z, c6, b3, V, ← Nat.add_mul, ← Nat.add_mul]
    congr 1
    have := grownCap_ge W (n + m) cap E
    omega
   ·have := (hm.drop j).drew.alloc (.cells ⟨cs.take (n * sz) ++ M ++ (Builtin.zeroCells z.cells (grownCap W (n + m) cap E - (n + m))).toList⟩ E)
    have a3 : ((cs.take (n * sz)).toArray ++ M.toArray ++ Builtin.zeroCells z.cells (grownCap W (n + m) cap E - (n + m))) = ⟨cs.take (n * sz) ++ M ++ (Builtin.zeroCells z.cells (grownCap W (n + m) cap E - (n + m))).toList⟩ := by
     apply Array.toList_inj.1; simp
    rw [a3]; exact this
theorem AtE.opB {o : Oper} {c : Call} {b : Builtin} {O : List Value} {Z : List TypeId} (V : cur nt k e = some o) (a5 : o.op = .call c) (a3 : c.callee = .builtin b) (a2 : c.args.map (rho e) = ⟨O⟩) (a6 : c.argTypes = ⟨Z⟩) (hp : b ≠ .print ∧ b ≠ .println)
  (h : ∀ W, Mem L S w0 W → ∃ v M, (Go.builtin b ⟨Z⟩ o.type #[] ⟨O⟩).run P W = .ok (.value v) M ∧ ∀ t, Knows nt (putE e (curDst nt k e) v) t → At P f (nextK k) t M R) : AtE P f nt k e L S w0 R := by
 refine AtE.op V fun W hm => ?_
 obtain ⟨v, M, a0, a1⟩ := h W hm
 refine ⟨v, M, ?_, fun t a4 => a1 t (by simpa only [curDst, V] using a4)⟩
 rw [run_builtin a5 a3 a2 a6 hp W]; exact a0
theorem AtE.appendN {T E : TypeId} {z : Value} {sz bytes : Nat} {a : Addr} {m c : Nat} (M : List Value)
  (h : (asBuiltin nt k e, P.underlying T, infoZ P E, z.cells.size) = (some (.append, [.slice none 0 0, .slice (some a) m c], [T, T]), some (.slice E), some (some z, sz, bytes), sz))
  (b5 : Src L S w0 a M) (a9 : M.length = m * sz) (Z : 0 < m) (V : m ≤ 9223372036854775807 ∧ m * bytes ≤ 140737488355328)
  (hn : ∀ B cap r, m ≤ cap → (M ++ r).length = cap * sz → AtE P f nt (nextK k) (putE e (curDst nt k e) (.slice (some ⟨B, 0, none⟩) m cap)) (L ++ [(B, .cells ⟨M ++ r⟩ E)]) S w0 R) : AtE P f nt k e L S w0 R := by
 simp only [Prod.mk.injEq] at h
 obtain ⟨a0, a1, a2, a3⟩ := h
 obtain ⟨o, cl, a5, b3, a7, a4, b6⟩ := asBuiltin_spec a0
 refine AtE.opB a5 b3 a7 a4 b6 (by simp) fun W hm => ?_
 obtain ⟨B, cap, r, O, b4, a6, b0, b1⟩ := app_nil T E z sz bytes a1 a2 a3 a m c M a9 b5 Z V.1 V.2 o.type W hm
 exact ⟨_, O, run_lift b4, fun t a8 => hn B cap r a6 b0 t O a8 b1⟩
theorem AtE.appendO (j : Nat) {T E : TypeId} {z : Value} {sz bytes n cap : Nat} {a : Addr} {m c : Nat} {cs : List Value} (M : List Value)
  (h : (asBuiltin nt k e, P.underlying T, infoZ P E, z.cells.size, isCellsL L j, cellsL L j, elemL L j, fzL L j) =
   (some (.append, [.slice (some ⟨blkL L j, 0, none⟩) n cap, .slice (some a) m c], [T, T]), some (.slice E), some (some z, sz, bytes), sz, true, cs, E, (0, 0)))
  (c3 : Src L S w0 a M) (b6 : M.length = m * sz) (a1 : ∀ u ∈ M, u.oneCell' = true) (a0 : n ≤ cap ∧ cs.length = cap * sz) (Z : n + m ≤ 9223372036854775807 ∧ (n + m) * bytes ≤ 140737488355328)
  (hn : ∀ B O r, n + m ≤ O → (cs.take (n * sz) ++ M ++ r).length = O * sz → AtE P f nt (nextK k) (putE e (curDst nt k e) (.slice (some ⟨B, 0, none⟩) (n + m) O)) (L.eraseIdx j ++ [(B, .cells ⟨cs.take (n * sz) ++ M ++ r⟩ E)]) S w0 R) :
  AtE P f nt k e L S w0 R := by
 simp only [Prod.mk.injEq] at h
 obtain ⟨a2, a3, a4, a5, a6, a7, a8, a9⟩ := h
 obtain ⟨o, cl, b1, b9, b4, b0, c4⟩ := asBuiltin_spec a2
 refine AtE.opB b1 b9 b4 b0 c4 (by simp) fun W hm => ?_
 obtain ⟨B, O, r, V, c2, b3, b7, b8⟩ := app_own j T E z sz bytes a3 a4 a5 n cap cs a6 a7 a8 a9 a0.1 a0.2 a m c M b6 c3 a1 Z.1 Z.2 o.type W hm
 exact ⟨_, V, run_lift c2, fun t b5 => hn B O r b3 b7 t V b5 b8⟩
def over (c : List Value) (o : Nat) (cs : List Value) : List Value := c.take o ++ cs ++ c.drop (o + cs.length)
theorem over_length {c : List Value} {o : Nat} {cs : List Value} (h : o + cs.length ≤ c.length) : (over c o cs).length = c.length := by simp [over]; omega
theorem bytesL_one (l : List UInt8) : ∀ u ∈ bytesL l, u.oneCell' = true := by
 intro u M
 obtain ⟨b, _, rfl⟩ := List.mem_map.1 M
 rfl
theorem AtE.copyS (j : Nat) {T E U : TypeId} {o dl dc : Nat} {s : ByteArray} {c : List Value}
  (h : (asBuiltin nt k e, P.underlying T, (P.info? E).map (·.size), P.underlying E, isCellsL L j, cellsL L j, fzL L j) =
   (some (.copy, [.slice (some ⟨blkL L j, o, none⟩) dl dc, .string s], [T, U]), some (.slice E), some 1, some (.int .u8), true, c, (0, 0)))
  (b4 : o + dl ≤ c.length)
  (hn : AtE P f nt (nextK k) (putE e (curDst nt k e) (.int .i64 ((min s.size dl : Nat) : Int))) (setL L j (over c o (bytesL (s.data.toList.take dl)))) S w0 R) : AtE P f nt k e L S w0 R := by
 simp only [Prod.mk.injEq] at h
 obtain ⟨Z, a0, M, b3, O, a1, a2⟩ := h
 obtain ⟨op, cl, a4, a9, a5, a3, b1⟩ := asBuiltin_spec Z
 refine AtE.opB a4 a9 a5 a3 b1 (by simp) fun W hm => ?_
 have V := hm.heapAt O
 rw [a1, a2] at V
 refine ⟨_, W.setRow (blkL L j) ⟨over c o (bytesL (s.data.toList.take dl))⟩, run_lift (v := .int .i64 ((min s.size dl : Nat) : Int)) ?_, fun t a7 => hn t _ a7 (hm.setRow O _)⟩
 have b6 : s.data.toList.length = s.size := by simp
 have b5 : (bytesL (s.data.toList.take dl)).length ≤ dl := by simp only [bytesL, List.length_map, List.length_take]; omega
 have b0 := run_storeCells_at P (blkL L j) o (elemL L j) (bytesL (s.data.toList.take dl)) 0 ⟨c⟩ W V (by simp only [Nat.add_zero, List.size_toArray]; omega) (bytesL_one _)
 cases hq : P.info? E with
 | none => rw [hq] at M; cases M
 | some i =>
  rw [hq] at M; simp at M
  have a6 : List.take (min s.size dl) (List.map (fun b => Value.int .u8 (b.toNat : Int)) s.data.toList) = bytesL (s.data.toList.take dl) := by
   simp only [bytesL, List.map_take]
   rcases Nat.le_total s.size dl with hle | hle
   ·rw [Nat.min_eq_left hle, List.take_of_length_le (by simp), List.take_of_length_le (by simp; omega)]
   ·rw [Nat.min_eq_right hle]
  have a8 : ∀ x y : Nat, Nat.min x y = min x y := fun _ _ => rfl
  show (Builtin.copy_ #[T, U] op.type #[.slice (some ⟨blkL L j, o, none⟩) dl dc, .string s]).run P W = _
  simp [Builtin.copy_, run_underlying a0, Builtin.lenOf, sizeOf, typeInfo, hq, Builtin.firstCells, a8]
  rw [a6, b0]
  simp [over, goInt, Result.andThen]
theorem AtE.copyO (j : Nat) {T E : TypeId} {o dl dc n m : Nat} {a : Addr} {c : List Value} (cs : List Value)
  (h : (asBuiltin nt k e, P.underlying T, (P.info? E).map (·.size), isCellsL L j, cellsL L j, fzL L j) =
   (some (.copy, [.slice (some ⟨blkL L j, o, none⟩) dl dc, .slice (some a) n m], [T, T]), some (.slice E), some 1, true, c, (0, 0)))
  (b1 : Src L S w0 a cs) (a9 : cs.length = min n dl) (V : ∀ u ∈ cs, u.oneCell' = true) (a7 : o + cs.length ≤ c.length)
  (hn : AtE P f nt (nextK k) (putE e (curDst nt k e) (.int .i64 (cs.length : Int))) (setL L j (over c o cs)) S w0 R) : AtE P f nt k e L S w0 R := by
 simp only [Prod.mk.injEq] at h
 obtain ⟨Z, a0, a1, M, a2, a3⟩ := h
 obtain ⟨op, cl, a5, b0, a6, a4, b3⟩ := asBuiltin_spec Z
 refine AtE.opB a5 b0 a6 a4 b3 (by simp) fun W hm => ?_
 have O := hm.heapAt M
 rw [a2, a3] at O
 refine ⟨_, W.setRow (blkL L j) ⟨over c o cs⟩, run_lift (v := .int .i64 (cs.length : Int)) ?_, fun t a8 => hn t _ a8 (hm.setRow M _)⟩
 have := run_copy_row (P := P) W T T op.type E (blkL L j) o dl dc a n m ⟨c⟩ (elemL L j) cs a0 a1 O (by rw [a9]) (b1 W hm) (by simpa using a7) V
 rw [this]
 simp [goInt, over]
end
section
section
variable {P : Program} {f : FuncId} {ops : Array Oper} {R : Goal P} {C : World → Prop}
def wpAnyLQ (P : Program) (md : Region.Mode) (ops : Array Oper) (C : World → Prop) (n : Nat) (L : Array Bool → Act → Prop) : Nat → Array Bool → Act → Prop
 | 0, listed, a => L listed a
 | f + 1, listed, a =>
  Region.ready md ops listed ≠ [] ∧ ∀ i ∈ Region.ready md ops listed, i < n ∧ qOp P ops C i (wpAnyLQ P md ops C n L f (listed.setIfInBounds i true)) a
theorem wpAnyLQ_first {md : Region.Mode} {n i : Nat} {a1 : Oper} {v : Value} {L : Array Bool → Act → Prop} (hi : ops[i]? = some a1) (b1 : ∀ (j : Nat) (o : Oper) cs b, ops[j]? = some o → o.op ≠ .select cs b)
  (b0 : n < ops.size → Region.sinkB md ops n = true ∧ Region.chainB md ops n = true) (c3 : i < n)
  (b7 : ∀ listed a, L listed a → ∀ j ∈ Region.ready md ops listed, n ≤ j) :
  ∀ (f : Nat) (listed : Array Bool) (a : Act), HeadInv md ops n listed →
   (∀ j Z, ops[j]? = some Z → j ≠ i → listed.getD j true = false → (∀ e ∈ Z.after, Region.binds md e = true → e.on ≠ i) → a1.apart ops Z = true) →
   i ∈ Region.ready md ops listed → YieldsIn P ops C a1 v a →
   wpAnyLQ P md ops C n L f (listed.setIfInBounds i true) (a.put a1.dst v) → wpAnyLQ P md ops C n L (f + 1) listed a := by
 have a9 : ∀ listed, HeadInv md ops n listed → listed.getD i true = false → ∀ j ∈ Region.ready md ops listed, j < n := by
  intro listed a0 O j M
  rcases Nat.lt_or_ge j n with h | h
  ·exact h
  ·obtain ⟨_, Z, a2, _⟩ := mem_ready.1 M
   have c8 : j < ops.size := (Array.getElem?_eq_some_iff.1 a2).1
   have hn : n < ops.size := by omega
   exact absurd M (tail_waits (b0 hn).1 (b0 hn).2 hn a0 _ i rfl c3 O j h)
 intro f
 induction f with
 | zero =>
  intro listed a a0 _ V a5 H
  have O := (mem_ready.1 V).1
  refine ⟨fun h => (by rw [h] at V; cases V), fun j M => ?_⟩
  have a4 := a9 listed a0 O j M
  refine ⟨a4, ?_⟩
  by_cases hji : j = i
  ·subst hji; exact a5.qOp hi H
  ·have := b7 _ _ H j (ready_mono M hji)
   omega
 | succ f ih =>
  intro listed a a0 a7 V a5 H
  have O := (mem_ready.1 V).1
  refine ⟨fun h => (by rw [h] at V; cases V), fun j M => ?_⟩
  have a4 := a9 listed a0 O j M
  refine ⟨a4, ?_⟩
  by_cases hji : j = i
  ·subst hji; exact a5.qOp hi H
  ·have a3 := (H.2 j (ready_mono M hji)).2
   obtain ⟨a8, Z, a2, b5⟩ := mem_ready.1 M
   have c7 : ∀ e ∈ Z.after, Region.binds md e = true → e.on ≠ i := fun e b8 b6 b9 => by
    have a3 := b5 e b8 b6
    rw [b9, getD_both O] at a3
    cases a3
   have b4 := qOp_put a2 (a7 j Z a2 hji a8 c7) (fun cs b => b1 i a1 cs b hi) (fun cs b => b1 j Z cs b a2) a5 a3
   have c2 : ∀ k ok, ops[k]? = some ok → k ≠ i → (listed.setIfInBounds j true).getD k true = false →
     (∀ e ∈ ok.after, Region.binds md e = true → e.on ≠ i) → a1.apart ops ok = true := fun k ok c4 c5 O c6 => by
    refine a7 k ok c4 c5 ?_ c6
    by_cases hjk : j = k
    ·subst hjk; exact a8
    ·rw [getD_set_ne true hjk] at O; exact O
   refine qOp_mono (fun b3 a6 => ih (listed.setIfInBounds j true) b3 (a0.set M a4) c2 (ready_mono V (Ne.symm hji)) a6.1 ?_) b4
   rw [Array.setIfInBounds_comm _ _ hji]
   exact a6.2
theorem wpAnyLQ_lex {md : Region.Mode} {n g : Nat} {Lq : Act → Prop} (a1 : Region.noSelect ops = true) (a0 : n < ops.size → Region.sinkB md ops n = true ∧ Region.chainB md ops n = true) :
  ∀ (l : List Oper) (k : Nat) (listed : Array Bool) (a : Act), (∀ j, j < l.length → l[j]? = ops[k + j]?) → k + l.length = n → HeadInv md ops n listed →
  Region.lexHead md ops g l.length k listed = true → wpQuiet P ops C Lq l a →
  wpAnyLQ P md ops C n (fun a2 O => Region.seqB md ops g n a2 = true ∧ Lq O) l.length listed a
 | [], k, listed, a, _, hk, _, hB, h => by
  have : k = n := by simpa using hk
  subst this
  exact ⟨by simpa [Region.lexHead] using hB, h⟩
 | o :: l, k, listed, a, hl, hk, inv, hB, h => by
  have M : ops[k]? = some o := by simpa using (hl 0 (by simp)).symm
  simp only [List.length_cons, Region.lexHead, Bool.and_eq_true] at hB
  obtain ⟨⟨a7, a6⟩, a3⟩ := hB
  have V : k < n := by simp only [List.length_cons] at hk; omega
  have Z : k ∈ Region.ready md ops listed := by simpa using a7
  have a8 : qOp P ops C k (wpQuiet P ops C Lq l) a := by unfold qOp; simp only [M]; exact h
  obtain ⟨v, a9, a4⟩ := yieldsIn_of_qOp M a8
  exact wpAnyLQ_first M (Region.noSelect_spec a1) a0 V (fun a2 O a5 => seqB_ready a5.1) l.length listed a inv (Region.free_spec M a6) Z a9
   (wpAnyLQ_lex a1 a0 l (k + 1) _ _ (fun j b0 => by have := hl (j + 1) (by simp; omega); simpa [Nat.add_assoc, Nat.add_comm 1 j] using this) (by simp only [List.length_cons] at hk; omega) (inv.set Z V) a3 a4)
theorem put_defers {a : Act} {d : Option Tmp} {v : Value} (h : a.defers = []) : (a.put d v).defers = [] := by cases d <;> exact h
theorem At.ofQ {i : Nat} {rest : List Nat} {k : List Item} {a : Act} {K : Act → Prop} (a1 : a.defers = []) (O : qOp P ops C i K a) {w : World} (Z : C w)
  (V : ∀ a0 w', a0.defers = [] → C w' → K a0 → At P f (.inRegion ops rest :: k) a0.tmps w' R) : At P f (.inRegion ops (i :: rest) :: k) a.tmps w R := by
 obtain ⟨t, ds⟩ := a
 simp only at a1
 subst a1
 unfold qOp at O
 split at O
 ·next ho =>
  refine At.step (fun b cs _ => ?_) (V _ w rfl Z O)
  have a4 := rstep_op_skip (P := P) (b := b) (a := ⟨t, R.ds⟩) (k := k) (cs := cs) (w := w) (ops := ops) (i := i) (rest := rest) (by simp [ho])
  simpa only [ho, Option.bind_none, Act.put] using a4
 ·next o ho =>
  split at O
  ·next hwt =>
   obtain ⟨v, a5, hn⟩ := O
   have M := a5 w Z
   unfold Oper.quietAt at M
   cases hr : (execOp (Act.mk t []).eval o).run P w with
   | halt x w' => rw [hr] at M; exact M.elim
   | ok nx w' =>
    rw [hr] at M
    cases nx <;> simp only [Oper.quietUpon] at M
    case value u =>
     obtain ⟨rfl, rfl⟩ := M
     exact At.value ho hwt hr (V _ _ (put_defers rfl) Z hn)
    case skip =>
     obtain ⟨rfl, rfl⟩ := M
     exact At.skipv ho hwt hr (V _ _ (put_defers rfl) Z hn)
    case enter g args =>
     obtain ⟨rfl, a3⟩ := M
     refine At.enter ho hwt hr (a3.mono fun e a6 a2 => ?_)
     exact ⟨v, a2.1, V _ _ (put_defers rfl) a2.2 hn⟩
  ·next hwt => exact At.unwanted ho (by simpa using hwt) (V _ _ (put_defers rfl) Z O)
theorem go_cons (md : Region.Mode) (M t : Nat) (listed : Array Bool) : Region.linearise.go md ops (M + 1) t listed [] =
  match (Region.ready md ops listed)[t % (Region.ready md ops listed).length]? with
  | some i => i :: Region.linearise.go md ops M (t / (Region.ready md ops listed).length) (listed.setIfInBounds i true) []
  | none => [] := by
 show (match (Region.ready md ops listed)[t % (Region.ready md ops listed).length]? with
   | some i => Region.linearise.go md ops M (t / (Region.ready md ops listed).length) (listed.setIfInBounds i true) [i]
   | none => [].reverse) = _
 split
 ·rw [linearise_go_acc]; rfl
 ·rfl
theorem go_seq {md : Region.Mode} : ∀ (g n t : Nat) (listed : Array Bool), Region.seqB md ops g n listed = true → Region.linearise.go md ops g t listed [] = List.range' n g
 | 0, _, _, _, _ => by simp [Region.linearise.go]
 | g + 1, n, t, listed, h => by
  simp only [Region.seqB, Bool.and_eq_true, decide_eq_true_eq] at h
  rw [go_cons, h.1]
  simp only [List.length_singleton, Nat.mod_one, List.getElem?_cons_zero, Nat.div_one]
  rw [go_seq g (n + 1) t _ h.2]
  rfl
theorem At.ofLQ {md : Region.Mode} {n g : Nat} {Lq : Act → Prop} {k : List Item}
  (O : ∀ a w, a.defers = [] → C w → Lq a → At P f (.inRegion ops (List.range' n g) :: k) a.tmps w R) :
  ∀ (m : Nat) (listed : Array Bool) (a : Act) (w : World) (t : Nat), a.defers = [] → C w →
   wpAnyLQ P md ops C n (fun a3 M => Region.seqB md ops g n a3 = true ∧ Lq M) m listed a →
   At P f (.inRegion ops (Region.linearise.go md ops (m + g) t listed []) :: k) a.tmps w R
 | 0, listed, a, w, t, ha, hw, h => by
  rw [Nat.zero_add, go_seq g n t listed h.1]
  exact O a w ha hw h.2
 | m + 1, listed, a, w, t, ha, hw, h => by
  rw [show m + 1 + g = (m + g) + 1 by omega, go_cons]
  have a1 : 0 < (Region.ready md ops listed).length := by
   cases hr : Region.ready md ops listed with
   | nil => exact absurd hr h.1
   | cons x xs => simp
  have V : t % (Region.ready md ops listed).length < (Region.ready md ops listed).length := Nat.mod_lt _ a1
  rw [List.getElem?_eq_getElem V]
  have hi := h.2 _ (List.getElem_mem V)
  exact At.ofQ ha hi.2 hw (fun M w' a0 a2 Z => At.ofLQ O m _ M w' _ a0 a2 Z)
def drawB (ops : Array Oper) (n : Nat) : Bool :=
 Region.noSelect ops && Nat.ble n ops.size && (Nat.beq n ops.size || (Region.sinkB .any ops n && Region.chainB .any ops n)) && Region.lexHead .any ops (ops.size - n) n 0 (Array.replicate ops.size false)
theorem At.draw {id : Nat} {k : List Item} {t : Array Value} {w : World} (n : Nat) (hm : P.follows .mixedOrders = true) (Z : drawB ops n = true) (a1 : C { w with drawn := w.drawn + 1 })
  (h : wpQuiet P ops C (fun a => a.defers = [] → ∀ w', C w' → At P f (.inRegion ops (List.range' n (ops.size - n)) :: k) a.tmps w' R) (ops.toList.take n) ⟨t, []⟩) :
  At P f (.code (.region id ops true) :: k) t w R := by
 simp only [drawB, Bool.and_eq_true, Bool.or_eq_true] at Z
 obtain ⟨⟨⟨a8, hn⟩, M⟩, a5⟩ := Z
 have hn := Nat.le_of_ble_eq_true hn
 have a6 : n < ops.size → Region.sinkB .any ops n = true ∧ Region.chainB .any ops n = true := fun b3 => by
  rcases M with M | M
  ·have := Nat.eq_of_beq_eq_true M; omega
  ·exact M
 have V : (ops.toList.take n).length = n := by simp; omega
 have b1 : HeadInv .any ops n (Array.replicate ops.size false) :=
  ⟨by simp, fun j b4 _ O => (by rw [getD_replicate_false] at O; cases O), fun t _ a9 => getD_in (by simpa using a9) (getD_replicate_false _ _)⟩
 have H := wpAnyLQ_lex (md := .any) (g := ops.size - n) a8 a6 (ops.toList.take n) 0 _ _ (fun j a0 => by
  have a4 : j < n := by rw [V] at a0; exact a0
  simp [a4]) (by simpa using V) b1 (by rw [V]; exact a5) h
 have a7 : ∀ τ, Region.schedule (P.follows .mixedOrders) ops τ = Region.linearise.go .any ops ops.size τ (Array.replicate ops.size false) [] := fun τ => by
  simp only [Region.schedule, hm, Bool.true_or, if_true]; rfl
 refine At.step (k' := .inRegion ops (Region.schedule (P.follows .mixedOrders) ops (w.tape w.drawn (.order f id))) :: k) (t' := t) (w' := { w with drawn := w.drawn + 1 })
  (fun b cs a3 => by have := rstep_region_draw (P := P) (b := b) (a := ⟨t, R.ds⟩) (k := k) (cs := cs) (w := w) (id := id) (ops := ops); rw [a3] at this; exact this) ?_
 rw [a7]
 rw [V] at H
 have key := At.ofLQ (P := P) (f := f) (R := R) (C := C) (ops := ops) (md := .any) (n := n) (g := ops.size - n) (k := k)
  (Lq := fun a => a.defers = [] → ∀ w', C w' → At P f (.inRegion ops (List.range' n (ops.size - n)) :: k) a.tmps w' R)
  (fun a w a2 b0 O => O a2 w b0) n (Array.replicate ops.size false) ⟨t, []⟩ { w with drawn := w.drawn + 1 } (w.tape w.drawn (.order f id)) rfl a1 H
 rw [show n + (ops.size - n) = ops.size by omega] at key
 exact key
end
variable {P : Program} {f nt : Nat} {k : List Item} {e : Env} {L : SHeap} {S : List Nat} {w0 : World} {R : Goal P} {ops : Array Oper} {n : Nat} {kk : List Item}
def AtQ (P : Program) (f nt : Nat) (ops : Array Oper) (n : Nat) (kk : List Item) (k : List Item) (e : Env) (L : SHeap) (S : List Nat) (w0 : World) (R : Goal P) : Prop :=
 ∀ i, k = [.inRegion ops (List.range' i (n - i))] → i ≤ n → ∀ t, Knows nt e t →
  wpQuiet P ops (Mem L S w0) (fun a => a.defers = [] → ∀ w', Mem L S w0 w' → At P f (.inRegion ops (List.range' n (ops.size - n)) :: kk) a.tmps w' R) ((ops.toList.take n).drop i) ⟨t, []⟩
def qK (ops : Array Oper) (n : Nat) : List Item := [.inRegion ops (List.range' 0 n)]
def tailK (ops : Array Oper) (n : Nat) (kk : List Item) : List Item := .inRegion ops (List.range' n (ops.size - n)) :: kk
def regOps : List Item → Array Oper
 | .code (.region _ ops _) :: _ => ops
 | _ => #[]
def restK : List Item → List Item
 | _ :: k => k
 | [] => []
def isDraw : List Item → Bool
 | .code (.region _ _ true) :: _ => true
 | _ => false
theorem AtE.draw (n : Nat) (O : (isDraw k, P.follows .mixedOrders, drawB (regOps k) n) = (true, true, true))
  (h : AtQ P f nt (regOps k) n (restK k) (qK (regOps k) n) e L S w0 R) : AtE P f nt k e L S w0 R := by
 simp only [Prod.mk.injEq] at O
 obtain ⟨M, V, Z⟩ := O
 unfold isDraw at M
 split at M
 ·next id ops k' =>
  intro t W a0 hm
  have := h 0 rfl (Nat.zero_le _) t a0
  simp only [List.drop_zero] at this
  exact At.draw n V Z ⟨hm.nodup, hm.here, hm.own, ⟨hm.kept.os, hm.kept.tape, hm.kept.output, hm.kept.size, hm.kept.block⟩⟩ this
 ·cases M
theorem AtQ.done (h : k = [.inRegion ops []]) (hn : AtE P f nt (tailK ops n kk) e L S w0 R) : AtQ P f nt ops n kk k e L S w0 R := by
 intro i hi V t M
 rw [h] at hi
 simp only [List.cons.injEq, Item.inRegion.injEq, true_and, and_true] at hi
 have O := congrArg List.length hi
 simp only [List.length_range', List.length_nil] at O
 rw [List.drop_eq_nil_of_le (by simp; omega)]
 exact fun _ w' hm => hn t w' M hm
theorem AtQ.push {i : Nat} {v : Value} (h : get? e i = some v) (hn : AtQ P f nt ops n kk k ((i, v) :: e) L S w0 R) : AtQ P f nt ops n kk k e L S w0 R := by
 intro j M V t O
 refine hn j M V t ⟨O.size, fun j u M => ?_⟩
 simp only [get?] at M
 cases hb : Nat.beq i j with
 | true =>
  have : i = j := Nat.eq_of_beq_eq_true hb
  subst this
  rw [hb] at M; simp only [cond_true, Option.some.injEq] at M
  subst M; exact O.slot i v h
 | false => rw [hb] at M; exact O.slot j u M
theorem range_head {i n j : Nat} {rest : List Nat} (h : i :: rest = List.range' j (n - j)) : j = i ∧ j < n ∧ rest = List.range' (j + 1) (n - (j + 1)) := by
 rcases Nat.eq_zero_or_pos (n - j) with h0 | h0
 ·rw [h0] at h; cases h
 ·have M : n - j = (n - (j + 1)) + 1 := by omega
  rw [M, List.range'_succ] at h
  exact ⟨(List.cons.inj h).1.symm, by omega, (List.cons.inj h).2⟩
theorem drop_head {i : Nat} {o : Oper} (V : ops[i]? = some o) (hn : i < n) : (ops.toList.take n).drop i = o :: (ops.toList.take n).drop (i + 1) := by
 have Z : i < ops.toList.length := by have := (Array.getElem?_eq_some_iff.1 V).1; simpa using this
 have O : i < (ops.toList.take n).length := by simp only [List.length_take]; omega
 rw [List.drop_eq_getElem_cons O]
 congr 1
 have M : (ops.toList.take n)[i]? = some o := by rw [List.getElem?_take, if_pos hn]; simpa using V
 rw [List.getElem?_eq_getElem O] at M
 exact Option.some.inj M
theorem AtQ.opQ {o : Oper} {v : Value} (V : cur nt k e = some o)
  (a7 : ∀ W, Mem L S w0 W → (execOp (rho e) o).run P W = .ok (.value v) W ∨ ∃ g args, (execOp (rho e) o).run P W = .ok (.enter g args) W ∧ Calls P g args W fun en a0 => en = .returned v ∧ Mem L S w0 a0)
  (hn : AtQ P f nt ops n kk (nextK k) (putE e (curDst nt k e) v) L S w0 R) : AtQ P f nt ops n kk k e L S w0 R := by
 intro j M b0 t O
 obtain ⟨Z, i, rest, k', rfl, a6, a9, a4, hp, a2⟩ := cur_spec V
 simp only [List.cons.injEq, Item.inRegion.injEq] at M
 obtain ⟨⟨rfl, M⟩, rfl⟩ := M
 obtain ⟨rfl, a3, a8⟩ := range_head M
 rw [drop_head a6 a3]
 have a1 : curDst nt (.inRegion Z (j :: rest) :: []) e = o.dst := by simp only [curDst, V]
 rw [a1] at hn
 have a5 := hn (j + 1) (by simp only [nextK, a8]) (by omega) _ (O.put a2 v [])
 show (if Region.wanted o (yielded Z (Act.mk t []).tmps) then _ else _)
 rw [if_pos (O.wanted a9)]
 refine ⟨v, fun W hm => ?_, by rw [put_eta]; exact a5⟩
 unfold Oper.quietAt
 rw [execOp_congr (Act.mk t []).eval (rho e) o hp (O.rho a4 [])]
 rcases a7 W hm with h | ⟨g, args, h, hcalls⟩
 ·rw [h]; exact ⟨rfl, rfl⟩
 ·rw [h]; exact ⟨rfl, hcalls⟩
theorem AtQ.opV {o : Oper} {v : Value} (M : cur nt k e = some o) (O : ∀ W, Mem L S w0 W → (execOp (rho e) o).run P W = .ok (.value v) W)
  (hn : AtQ P f nt ops n kk (nextK k) (putE e (curDst nt k e) v) L S w0 R) : AtQ P f nt ops n kk k e L S w0 R :=
 AtQ.opQ M (fun W hm => .inl (O W hm)) hn
theorem OpV.Q {v : Value} (h : OpV P nt k e L S w0 v) (hn : AtQ P f nt ops n kk (nextK k) (putE e (curDst nt k e) v) L S w0 R) : AtQ P f nt ops n kk k e L S w0 R := let ⟨_, h1, h2⟩ := h; AtQ.opV h1 h2 hn
def vQ (P : Program) (nt : Nat) (k : List Item) (e : Env) : Value := match (execOp (rho e) (curO nt k e)).run P dw with | .ok (.value v) _ => v | _ => undef
theorem AtQ.pure (M : cur nt k e = some (curO nt k e)) (h : ∀ W, (execOp (rho e) (curO nt k e)).run P W = .ok (.value (vQ P nt k e)) W)
  (hn : AtQ P f nt ops n kk (nextK k) (putE e (curDst nt k e) (vQ P nt k e)) L S w0 R) : AtQ P f nt ops n kk k e L S w0 R :=
 AtQ.opV M (fun W _ => h W) hn
def skipO (nt : Nat) (k : List Item) (e : Env) : Option (Option Tmp) :=
 match k with
 | .inRegion ops (i :: _) :: _ => match ops[i]? with
  | some o => match wantedE ops e o with
   | some false => bif dstOk nt o.dst then some o.dst else none
   | _ => none
  | none => none
 | _ => none
def skipD (nt : Nat) (k : List Item) (e : Env) : Option Tmp := match skipO nt k e with | some d => d | none => none
theorem AtQ.skip (h : skipO nt k e = some (skipD nt k e)) (hn : AtQ P f nt ops n kk (nextK k) (putE e (skipD nt k e) undef) L S w0 R) : AtQ P f nt ops n kk k e L S w0 R := by
 intro j M a1 t O
 generalize skipD nt k e = d at h hn
 unfold skipO at h
 split at h
 ·next ops' i rest k' =>
  split at h
  ·next o ho =>
   split at h
   ·next hw =>
    cases hd : dstOk nt o.dst with
    | false => simp [hd] at h
    | true =>
     simp only [hd, cond_true, Option.some.injEq] at h
     subst h
     simp only [List.cons.injEq, Item.inRegion.injEq] at M
     obtain ⟨⟨rfl, M⟩, rfl⟩ := M
     obtain ⟨rfl, V, a0⟩ := range_head M
     rw [drop_head ho V]
     have Z := hn (j + 1) (by simp only [nextK, a0]) (by omega) _ (O.put hd undef [])
     show (if Region.wanted o (yielded ops' (Act.mk t []).tmps) then _ else _)
     rw [if_neg (by rw [O.wanted hw]; simp)]
     rw [put_eta]; exact Z
   ·cases h
  ·cases h
 ·cases h
def QCall (P : Program) (g : FuncId) (args : Array Value) (L : SHeap) (S : List Nat) (w0 : World) (v : Value) : Prop :=
 ∀ W, Mem L S w0 W → Calls P g args W fun e W' => e = .returned v ∧ Mem L S w0 W'
theorem QCall.of {g : FuncId} {args : Array Value} {v : Value} (h : PureC P g args v) : QCall P g args L S w0 v := fun W hm => (h W).mono fun _ _ M => ⟨M.1, hm.after M.2⟩
theorem AtQ.call (g : FuncId) (args : Array Value) {v : Value} {L1 : SHeap} (O : ∀ W, (execOp (rho e) (curO nt k e)).run P W = .ok (.enter g args) W)
  (M : (cur nt k e, L) = (some (curO nt k e), L1)) (h : QCall P g args L1 S w0 v)
  (hn : AtQ P f nt ops n kk (nextK k) (putE e (curDst nt k e) v) L S w0 R) : AtQ P f nt ops n kk k e L S w0 R := by
 simp only [Prod.mk.injEq] at M
 obtain ⟨M, rfl⟩ := M
 exact AtQ.opQ M (fun W hm => .inr ⟨g, args, O W, h W hm⟩) hn
end
section
variable {P : Program} {f nt : Nat} {k : List Item} {e : Env} {L : SHeap} {S : List Nat} {w0 : World} {R : Goal P} {ops : Array Oper} {nq : Nat} {kk : List Item}
theorem AtQ.split (i : Nat) {b : Bool} (h : get? e i = some (.bool b)) (O : b = true → AtQ P f nt ops nq kk k ((i, .bool true) :: e) L S w0 R)
  (M : b = false → AtQ P f nt ops nq kk k ((i, .bool false) :: e) L S w0 R) : AtQ P f nt ops nq kk k e L S w0 R := by
 cases b
 ·exact AtQ.push h (M rfl)
 ·exact AtQ.push h (O rfl)
theorem AtQ.splitN (i : Nat) {p : Prop} [Decidable p] (h : get? e i = some (.bool (!decide p))) (V : ¬ p → AtQ P f nt ops nq kk k ((i, .bool true) :: e) L S w0 R)
  (O : p → AtQ P f nt ops nq kk k ((i, .bool false) :: e) L S w0 R) : AtQ P f nt ops nq kk k e L S w0 R :=
 AtQ.split i h (fun M => V (of_decide_eq_false (by simpa using M))) (fun M => O (of_decide_eq_true (by simpa using M)))
theorem AtQ.indexS {s : ByteArray} {kd : IntKind} {i : Int} (h : asIndex P nt k e = some (some .string, .string s, .int kd i)) (M : 0 ≤ i ∧ i < s.size)
  (hn : AtQ P f nt ops nq kk (nextK k) (putE e (curDst nt k e) (.int .u8 (bat s i))) L S w0 R) : AtQ P f nt ops nq kk k e L S w0 R := (OpV.indexS h M).Q hn
theorem AtQ.sliceS {s : ByteArray} {lo hi : Option Value} (h : asSlice P nt k e = some (some .string, .string s, lo, hi, none)) {a b : Int}
  (V : (∃ kd, lo = some (.int kd a)) ∨ (lo = none ∧ a = 0)) (O : (∃ kd, hi = some (.int kd b)) ∨ (hi = none ∧ b = s.size)) (M : 0 ≤ a ∧ a ≤ b ∧ b ≤ s.size)
  (hn : AtQ P f nt ops nq kk (nextK k) (putE e (curDst nt k e) (.string (s.extract a.toNat b.toNat))) L S w0 R) : AtQ P f nt ops nq kk k e L S w0 R := (OpV.sliceS h V O M).Q hn
theorem AtQ.concat {x y : ByteArray} (h : asBin nt k e = some (.add, .string x, .string y)) (M : x.size + y.size ≤ 9223372036854775807)
  (hn : AtQ P f nt ops nq kk (nextK k) (putE e (curDst nt k e) (.string (x ++ y))) L S w0 R) : AtQ P f nt ops nq kk k e L S w0 R := (OpV.concat h M).Q hn
theorem AtQ.shl {kd kc : IntKind} {x y : Int} (h : asBin nt k e = some (.shl, .int kd x, .int kc y)) (M : 0 ≤ y)
  (hn : AtQ P f nt ops nq kk (nextK k) (putE e (curDst nt k e) (.int kd (kd.wrap (x * 2 ^ (min y.toNat kd.bits))))) L S w0 R) : AtQ P f nt ops nq kk k e L S w0 R := (OpV.shl h M).Q hn
theorem AtQ.rem {kd : IntKind} {x y : Int} (h : asBin nt k e = some (.rem, .int kd x, .int kd y)) (M : y ≠ 0)
  (hn : AtQ P f nt ops nq kk (nextK k) (putE e (curDst nt k e) (.int kd (x.tmod y))) L S w0 R) : AtQ P f nt ops nq kk k e L S w0 R := (OpV.rem h M).Q hn
theorem AtQ.load (j off : Nat) {T : TypeId} {v : Value} (h : (asLoad nt k e, isCellsL L j, valAt P T (cellsL L j) off) = (some (T, .pointer (some ⟨blkL L j, off, none⟩)), true, some v))
  (hn : AtQ P f nt ops nq kk (nextK k) (putE e (curDst nt k e) v) L S w0 R) : AtQ P f nt ops nq kk k e L S w0 R := (OpV.load j off h).Q hn
theorem AtQ.loadW {b off : Nat} {T : TypeId} {v : Value} {c : List Value} (h : asLoad nt k e = some (T, .pointer (some ⟨b, off, none⟩))) (M : b ∉ S) (O : blkW w0 b = some c) (V : valAt P T c off = some v)
  (hn : AtQ P f nt ops nq kk (nextK k) (putE e (curDst nt k e) v) L S w0 R) : AtQ P f nt ops nq kk k e L S w0 R := (OpV.loadW h M O V).Q hn
theorem AtQ.indexAddrL {E : TypeId} {b o len cap sz o' : Nat} {kd : IntKind} {i : Int} (h : (asIndexAddr P nt k e, (P.info? E).map (·.size)) = (some (some (.slice E), .slice (some ⟨b, o, none⟩) len cap, .int kd i), some sz))
  (M : 0 ≤ i ∧ i < len) (O : o' = o + i.toNat * sz) (hn : AtQ P f nt ops nq kk (nextK k) (putE e (curDst nt k e) (.pointer (some ⟨b, o', none⟩))) L S w0 R) : AtQ P f nt ops nq kk k e L S w0 R := (OpV.indexAddrL h M O).Q hn
theorem AtQ.sliceL {E : TypeId} {b o len cap sz o' l' c' : Nat} {lo hi : Option Value} {x y : Int} (h : (asSlice P nt k e, (P.info? E).map (·.size)) = (some (some (.slice E), .slice (some ⟨b, o, none⟩) len cap, lo, hi, none), some sz))
  (a0 : (∃ kd, lo = some (.int kd x)) ∨ (lo = none ∧ x = 0)) (V : (∃ kd, hi = some (.int kd y)) ∨ (hi = none ∧ y = len ∧ len ≤ cap)) (M : 0 ≤ x ∧ x ≤ y ∧ y ≤ cap)
  (a1 : o' = if x.toNat = cap then o else o + x.toNat * sz) (Z : l' = y.toNat - x.toNat) (O : c' = cap - x.toNat)
  (hn : AtQ P f nt ops nq kk (nextK k) (putE e (curDst nt k e) (.slice (some ⟨b, o', none⟩) l' c')) L S w0 R) : AtQ P f nt ops nq kk k e L S w0 R := (OpV.sliceL h a0 V M a1 Z O).Q hn
end
section
variable {P : Program} {f nt : Nat} {k : List Item} {e : Env} {L : SHeap} {S : List Nat} {w0 : World} {R : Goal P}
def AtL (P : Program) (f nt : Nat) (ops : Array Oper) (fuel : Nat) (listed : Array Bool) (k : List Item) (e : Env) (L : SHeap) (S : List Nat) (w0 : World) (R : Goal P) : Prop :=
 ∀ t, AtE P f nt (.inRegion ops (Region.linearise.go .any ops fuel t listed []) :: k) e L S w0 R
def AllI (Φ : Nat → Prop) : List Nat → Prop
 | [] => True
 | i :: r => Φ i ∧ AllI Φ r
theorem AllI.get {Φ : Nat → Prop} : ∀ {l : List Nat}, AllI Φ l → ∀ i ∈ l, Φ i
 | _ :: _, h, _, .head _ => h.1
 | _ :: _, h, _, .tail _ hm => AllI.get h.2 _ hm
theorem AtL.step {ops : Array Oper} {V : Nat} {listed : Array Bool} (M : List Nat) (O : (Region.ready .any ops listed, M.isEmpty) = (M, false))
  (h : AllI (fun i => ∀ t, AtE P f nt (.inRegion ops (i :: Region.linearise.go .any ops V t (listed.setIfInBounds i true) []) :: k) e L S w0 R) M) :
  AtL P f nt ops (V + 1) listed k e L S w0 R := by
 intro t
 simp only [Prod.mk.injEq] at O
 obtain ⟨O, a0⟩ := O
 have a1 : 0 < M.length := by
  cases M with
  | nil => simp at a0
  | cons x xs => simp
 rw [go_cons, O]
 have Z : t % M.length < M.length := Nat.mod_lt _ a1
 rw [List.getElem?_eq_getElem Z]
 exact h.get _ (List.getElem_mem Z) _
theorem AtE.drawAny {V : Nat} {listed : Array Bool} {a1 : Array Oper} {a0 : List Item} (Z : (isDraw k, P.follows .mixedOrders, regOps k, restK k, (regOps k).size, Array.replicate (regOps k).size false) = (true, true, a1, a0, V, listed))
  (h : AtL P f nt a1 V listed a0 e L S w0 R) : AtE P f nt k e L S w0 R := by
 simp only [Prod.mk.injEq] at Z
 obtain ⟨O, hm, rfl, rfl, rfl, rfl⟩ := Z
 unfold isDraw at O
 split at O
 ·next id ops k' =>
  intro t w a3 M
  have a4 : ∀ τ, Region.schedule (P.follows .mixedOrders) ops τ = Region.linearise.go .any ops ops.size τ (Array.replicate ops.size false) [] := fun τ => by
   simp only [Region.schedule, hm, Bool.true_or, if_true]; rfl
  refine At.step (k' := .inRegion ops (Region.schedule (P.follows .mixedOrders) ops (w.tape w.drawn (.order f id))) :: k') (t' := t) (w' := { w with drawn := w.drawn + 1 })
   (fun b cs a2 => by have := rstep_region_draw (P := P) (b := b) (a := ⟨t, R.ds⟩) (k := k') (cs := cs) (w := w) (id := id) (ops := ops); rw [a2] at this; exact this) ?_
  rw [a4]
  exact h _ _ _ a3 ⟨M.nodup, M.here, M.own, ⟨M.kept.os, M.kept.tape, M.kept.output, M.kept.size, M.kept.block⟩⟩
 ·cases O
end
section
variable {P : Program} {f nt : Nat} {k : List Item} {e : Env} {L : SHeap} {S : List Nat} {w0 : World} {R : Goal P}
theorem AtE.front {x : Nat × Obj} (hn : AtE P f nt k e (x :: L) S w0 R) : AtE P f nt k e (L ++ [x]) S w0 R :=
 fun t W M hm => hn t W M (hm.perm (by simpa using (List.perm_append_comm (l₁ := [x]) (l₂ := L))))
def EffC (P : Program) (g : FuncId) (args : Array Value) (L0 : SHeap) (K : Value → SHeap → Prop) : Prop :=
 ∀ W, Mem L0 (L0.map (·.1)) W W → Calls P g args W fun e W' => ∃ v L', e = .returned v ∧ Mem L' (L0.map (·.1)) W W' ∧ K v L'
theorem CallH.eff {g : FuncId} {args : Array Value} {L0 L1 : SHeap} {K K' : Value → SHeap → Prop} (h : EffC P g args L0 K) (hp : (L0 ++ L1).Perm L) (a6 : ∀ v L', K v L' → ∃ a0, (L' ++ L1).Perm a0 ∧ K' v a0) : CallH P g args L S w0 K' := by
 intro W hm
 have M : Mem (L0 ++ L1) S w0 W := hm.perm hp
 have a3 := M.nodup
 rw [List.map_append, List.nodup_append] at a3
 obtain ⟨b3, n1, a5⟩ := a3
 refine (h W ⟨b3, fun p hp => M.here p (List.mem_append_left _ hp), fun p hp => .inr (List.mem_map_of_mem hp), Kept.refl _ W⟩).mono ?_
 rintro e b4 ⟨v, L', rfl, O, a9⟩
 obtain ⟨a0, b1, b0⟩ := a6 v L' a9
 refine ⟨v, a0, rfl, Mem.perm (L := L' ++ L1) ⟨?_, ?_, ?_, ?_⟩ b1.symm, b0⟩
 ·rw [List.map_append, List.nodup_append]
  refine ⟨O.nodup, n1, ?_⟩
  intro a a7 b a2 a8
  subst a8
  obtain ⟨p, hp, rfl⟩ := List.mem_map.1 a7
  obtain ⟨q, V, Z⟩ := List.mem_map.1 a2
  rcases O.own p hp with h1 | h1
  ·have := M.lt (List.mem_append_right L0 V)
   omega
  ·exact a5 _ h1 _ a2 rfl
 ·intro p hp
  rcases List.mem_append.1 hp with hp | hp
  ·exact O.here p hp
  ·rw [O.kept.block p.1 (M.lt (List.mem_append_right _ hp)) (fun a1 => a5 _ a1 _ (List.mem_map_of_mem hp) rfl)]
   exact M.here p (List.mem_append_right _ hp)
 ·intro p hp
  rcases List.mem_append.1 hp with hp | hp
  ·rcases O.own p hp with h1 | h1
   ·exact .inl (Nat.le_trans M.kept.size h1)
   ·obtain ⟨q, V, Z⟩ := List.mem_map.1 h1
    have := M.own q (List.mem_append_left _ V)
    rw [Z] at this; exact this
  ·exact M.own p (List.mem_append_right _ hp)
 ·refine ⟨O.kept.os.trans M.kept.os, O.kept.tape.trans M.kept.tape, O.kept.output.trans M.kept.output, Nat.le_trans M.kept.size O.kept.size, fun i hi a4 => ?_⟩
  rw [O.kept.block i (Nat.lt_of_lt_of_le hi M.kept.size) (fun a1 => ?_)]
  ·exact M.kept.block i hi a4
  ·obtain ⟨q, V, Z⟩ := List.mem_map.1 a1
   rcases M.own q (List.mem_append_left _ V) with h1 | h1
   ·rw [Z] at h1; omega
   ·rw [Z] at h1; exact a4 h1
theorem AtE.retC {R : Ending → World → Prop} {fn : Func} {a : Tmp} {T : TypeId} {v : Value} {L1 : SHeap} (j off : Nat) (O : P.funcs[f]? = some fn)
  (a0 : (isRet k, fn.results.toList.length, get? e a, isCellsL L j, valAt P T (cellsL L j) off, L) = (true, 1, some (.pointer (some ⟨blkL L j, off, none⟩)), true, some v, L1)) (a5 : fn.results = #[.cell a T])
  (h : Fin R L1 S w0 v) : AtE P f nt k e L S w0 (nrm R) := by
 simp only [Prod.mk.injEq] at a0
 obtain ⟨M, _, a1, a2, a3, rfl⟩ := a0
 intro t W a4 hm
 have Z : (results fn t).run P W = .ok v W := by
  have V := load_run (P := P) (hm.heapAt a2) a3
  have a6 := a4.getD a1
  have a7 : t[a]?.getD undef = .pointer (some ⟨blkL L j, off, none⟩) := by rw [← Array.getD_eq_getD_getElem?]; exact a6
  simp only [Instr.loadAt, Sem.run_bind, Instr.sureAddr, Sem.run_pure, Result.andThen] at V
  simp [results, a5, a7, asAddr, V]
 unfold isRet at M
 split at M
 ·exact At.ret O Z (h W hm)
 ·exact At.fin O Z (h W hm)
 ·cases M
theorem Mem.selT {A T : SHeap} {W : World} (hm : Mem (A ++ T) S w0 W) {O : List Nat} (h : O.Nodup) : Mem (selL A O ++ T) S w0 W := by
 have V := hm.nodup
 rw [List.map_append, List.nodup_append] at V
 obtain ⟨a4, n1, a5⟩ := V
 have Z : Mem A S w0 W := ⟨a4, fun p hp => hm.here p (List.mem_append_left _ hp), fun p hp => hm.own p (List.mem_append_left _ hp), hm.kept⟩
 have M := Z.sel h
 have sub : ∀ p ∈ selL A O, p ∈ A := fun p hp => by
  obtain ⟨i, _, a3⟩ := selL_mem hp; exact List.mem_of_getElem? a3
 refine ⟨?_, fun p hp => ?_, fun p hp => ?_, hm.kept⟩
 ·rw [List.map_append, List.nodup_append]
  refine ⟨M.nodup, n1, fun a a0 b a2 a1 => ?_⟩
  obtain ⟨p, hp, rfl⟩ := List.mem_map.1 a0
  exact a5 _ (List.mem_map_of_mem (sub p hp)) _ a2 a1
 ·rcases List.mem_append.1 hp with hp | hp
  ·exact M.here p hp
  ·exact hm.here p (List.mem_append_right _ hp)
 ·rcases List.mem_append.1 hp with hp | hp
  ·exact M.own p hp
  ·exact hm.own p (List.mem_append_right _ hp)
theorem AtE.cutT (O : List Nat) (m : Nat) {k' : List Item} {e' : Env} {L' : SHeap} (hn : AtE P f nt k' e' L' S w0 R) (h : (k, restrict e (e'.map (·.1)), selL (L.take m) O ++ L.drop m, nodupB O) = (k', some e', L', true)) : AtE P f nt k e L S w0 R := by
 simp only [Prod.mk.injEq] at h
 obtain ⟨rfl, h, rfl, Z⟩ := h
 intro t W M hm
 have V : Mem (L.take m ++ L.drop m) S w0 W := by rw [List.take_append_drop]; exact hm
 exact hn t W ⟨M.size, fun i v a0 => M.slot i v (restrict_get h i v a0)⟩ (V.selT (nodupB_spec Z))
def noughtL (zs : Array Value) (n : Nat) : List Value := (Builtin.zeroCells zs n).toList
theorem noughtL_len (zs : Array Value) (n : Nat) : (noughtL zs n).length = n * zs.size := by simp [noughtL, Builtin.zeroCells]
theorem noughtL_one {zs : Array Value} (h : ∀ u ∈ zs.toList, u.oneCell' = true) (n : Nat) : ∀ u ∈ noughtL zs n, u.oneCell' = true := by
 intro u M
 simp only [noughtL, Builtin.zeroCells, Array.toList_map, Array.toList_range, List.mem_map, List.mem_range] at M
 obtain ⟨i, hi, rfl⟩ := M
 have V : 0 < zs.size := by
  rcases Nat.eq_zero_or_pos zs.size with h0 | h0
  ·rw [h0, Nat.mul_zero] at hi; omega
  ·exact h0
 have O : i % zs.size < zs.size := Nat.mod_lt _ V
 rw [getElem!_pos zs _ O]
 exact h _ (by simp)
theorem AtE.clearO (j : Nat) {T E : TypeId} {o n cap : Nat} {z : Value} {sz bytes : Nat} {c : List Value}
  (h : (asBuiltin nt k e, P.underlying T, infoZ P E, z.cells.size, isCellsL L j, cellsL L j, fzL L j) =
   (some (.clear, [.slice (some ⟨blkL L j, o, none⟩) n cap], [T]), some (.slice E), some (some z, sz, bytes), sz, true, c, (0, 0)))
  (a1 : (z.cells.toList.all fun u => u.oneCell') = true) (c2 : o + n * sz ≤ c.length)
  (hn : AtE P f nt (nextK k) (putE e (curDst nt k e) (.tuple #[])) (setL L j (over c o (noughtL z.cells n))) S w0 R) : AtE P f nt k e L S w0 R := by
 simp only [Prod.mk.injEq] at h
 obtain ⟨a7, V, M, a2, Z, a3, a4⟩ := h
 obtain ⟨op, cl, a8, b3, a9, a6, b7⟩ := asBuiltin_spec a7
 refine AtE.opB a8 b3 a9 a6 b7 (by simp) fun W hm => ?_
 have O := hm.heapAt Z
 rw [a3, a4] at O
 refine ⟨_, W.setRow (blkL L j) ⟨over c o (noughtL z.cells n)⟩, run_lift (v := .tuple #[]) ?_, fun t b1 => hn t _ b1 (hm.setRow Z _)⟩
 have c3 : (noughtL z.cells n).length = n * sz := by rw [noughtL_len, a2]
 have b6 := run_storeCells_at P (blkL L j) o (elemL L j) (noughtL z.cells n) 0 ⟨c⟩ W O (by simp only [Nat.add_zero, List.size_toArray]; omega) (noughtL_one (fun u b8 => List.all_eq_true.1 a1 u b8) n)
 show (Builtin.clear_ #[T] op.type #[.slice (some ⟨blkL L j, o, none⟩) n cap]).run P W = _
 have b9 : (zeroValue E).run P W = .ok z W := by
  unfold infoZ at M
  cases hq : P.info? E with
  | none => rw [hq] at M; cases M
  | some i =>
   rw [hq] at M; simp at M
   simp [zeroValue, typeInfo, hq, M.1]
 cases n with
 | zero =>
  have b4 : over c o (noughtL z.cells 0) = c := by
   have : noughtL z.cells 0 = [] := by apply List.length_eq_zero_iff.1; rw [noughtL_len]; simp
   rw [this, over]; simp
  rw [b4]
  have b5 : W.setRow (blkL L j) ⟨c⟩ = W := by
   have b0 : (W.heap.modify (blkL L j) fun x => match x with | Obj.cells _ elem frozen => Obj.cells ⟨c⟩ elem frozen | o => o) = W.heap := by
    apply Array.ext_getElem?
    intro i
    rw [Array.getElem?_modify]
    split
    ·next heq => subst heq; rw [O]; rfl
    ·rfl
   have a5 : (W.setRow (blkL L j) ⟨c⟩).heap = W.heap := b0
   show ({ W with heap := (W.setRow (blkL L j) ⟨c⟩).heap } : World) = W
   rw [a5]
  rw [b5]
  simp [Builtin.clear_, run_underlying V]
 | succ n =>
  simp [Builtin.clear_, run_underlying V, b9, Result.andThen]
  have a0 := b6
  simp only [Nat.add_zero, noughtL] at a0
  rw [a0]
  simp [over, noughtL]
end
section
variable {P : Program} {f nt : Nat} {k : List Item} {e : Env} {L : SHeap} {S : List Nat} {w0 : World} {R : Goal P}
theorem AtE.norm {k' : List Item} {e' : Env} {L' : SHeap} (hn : AtE P f nt k' e' L' S w0 R) (h : (k, restrict e (e'.map (·.1)), L) = (k', some e', L')) : AtE P f nt k e L S w0 R := by
 simp only [Prod.mk.injEq] at h
 obtain ⟨rfl, h, rfl⟩ := h
 intro t W M hm
 exact hn t W ⟨M.size, fun i v O => M.slot i v (restrict_get h i v O)⟩ hm
theorem AtE.sliceU {E : TypeId} {p : Option Addr} {len cap : Nat} {lo hi : Option Value} {y : Int} {sz : Nat} (h : (asSlice P nt k e, (P.info? E).map (·.size)) = (some (some (.slice E), .slice p len cap, lo, hi, none), some sz))
  (a6 : (∃ kd, lo = some (.int kd 0)) ∨ lo = none) (a4 : (∃ kd, hi = some (.int kd y)) ∨ (hi = none ∧ y = len ∧ len ≤ cap)) (a2 : 0 ≤ y ∧ y ≤ cap)
  (hn : AtE P f nt (nextK k) (putE e (curDst nt k e) (.slice p y.toNat cap)) L S w0 R) : AtE P f nt k e L S w0 R := by
 simp only [Prod.mk.injEq] at h
 obtain ⟨O, V⟩ := h
 unfold asSlice at O
 split at O
 ·next op hc =>
  split at O
  ·next T x' l2 h2' m2 hop =>
   simp only [Option.some.injEq, Prod.mk.injEq] at O
   obtain ⟨a1, a8, a5, a3, a7⟩ := O
   cases hq : P.info? E with
   | none => rw [hq] at V; cases V
   | some ii =>
    rw [hq] at V; simp at V
    refine AtE.opV hc (fun W hm => ?_) hn
    simp only [execOp, hop, a8, a5, a3, a7]
    refine run_lift ?_
    have key : (Instr.sliceBounds true len cap lo hi none).run P W = .ok (0, y.toNat, cap) W := by
     have a9 : (y.toNat : Int) = y := Int.toNat_of_nonneg (by omega)
     have Z : ∀ kd M, (Instr.sliceBound (.int kd y) cap M).run P W = .ok y.toNat W := fun kd M => run_sliceBound W kd y cap M (by omega) a2.2
     have b2 : ∀ kd M, (Instr.sliceBound (.int kd 0) y.toNat M).run P W = .ok 0 W := fun kd M => run_sliceBound W kd 0 y.toNat M (by omega) (by omega)
     have a0 : ∀ kd M, (Instr.sliceBound (.int kd 0) len M).run P W = .ok 0 W := fun kd M => run_sliceBound W kd 0 len M (by omega) (by omega)
     rcases a6 with ⟨kd, rfl⟩ | rfl <;> rcases a4 with ⟨kd', rfl⟩ | ⟨rfl, rfl, _⟩
     ·simp only [Instr.sliceBounds, Sem.run_bind, Sem.run_pure, Result.andThen_ok, Z, b2]
     ·simp [Instr.sliceBounds, a0, Result.andThen]
     ·simp only [Instr.sliceBounds, Sem.run_bind, Sem.run_pure, Result.andThen_ok, Z]
     ·simp [Instr.sliceBounds]
    simp only [Instr.sliceAt, Sem.run_bind, run_underlying a1, Result.andThen_ok, Instr.slice, key, sizeOf, typeInfo, run_program, hq, Sem.run_pure]
    have hp : (if cap = 0 then p else p.map (·.add (0 * ii.size))) = p := by
     split
     ·rfl
     ·cases p with
      | none => rfl
      | some a => simp [Addr.add]
    rw [hp]; simp
  ·cases O
 ·cases O
end
section
variable {P : Program} {f nt : Nat} {k : List Item} {e : Env} {L : SHeap} {S : List Nat} {w0 : World} {G : Goal P}
def RaiseE (P : Program) (f nt : Nat) (e : Env) (ch : List PanicEntry) (L : SHeap) (S : List Nat) (w0 : World) (G : Goal P) : Prop :=
 ∀ t W k, Knows nt e t → Mem L S w0 W → ∀ (b : Frame) (cs : List Frame), b.fn = f → G.ok b cs (lone { rt b ⟨t, G.ds⟩ k with mode := .panicking ch } cs W)
def CallP (P : Program) (g : FuncId) (args : Array Value) (L : SHeap) (S : List Nat) (w0 : World) (K : Value → SHeap → Prop) (K' : List PanicEntry → SHeap → Prop) : Prop :=
 ∀ W, Mem L S w0 W → Calls P g args W fun e W' => (∃ v L', e = .returned v ∧ Mem L' S w0 W' ∧ K v L') ∨ ∃ ch L', e = .panicked ch ∧ Mem L' S w0 W' ∧ K' ch L'
theorem CallP.of {g : FuncId} {args : Array Value} {K : Value → SHeap → Prop} {K' : List PanicEntry → SHeap → Prop} (h : CallH P g args L S w0 K) : CallP P g args L S w0 K K' :=
 fun W hm => (h W hm).mono fun _ _ M => .inl M
theorem At.enterP {t : Array Value} {w w' : World} {ops : Array Oper} {i : Nat} {rest : List Nat} {o : Oper} {g : FuncId} {args : Array Value} {k : List Item}
  (a2 : ops[i]? = some o) (a8 : Region.wanted o (yielded ops t) = true) (a3 : (execOp (Act.mk t []).eval o).run P w = .ok (.enter g args) w')
  (h : Calls P g args w' fun e V => (∃ v, e = .returned v ∧ At P f (.inRegion ops rest :: k) ((Act.mk t []).put o.dst v).tmps V G) ∨
   ∃ O, e = .panicked O ∧ ∀ (b : Frame) (cs : List Frame), b.fn = f → G.ok b cs (lone { rt b ⟨t, G.ds⟩ (.inRegion ops (i :: rest) :: k) with mode := .panicking O } cs V)) :
  At P f (.inRegion ops (i :: rest) :: k) t w G := by
 intro b cs Z
 have a6 := rstepG_op (P := P) (b := b) (a := ⟨t, G.ds⟩) (k := k) (cs := cs) (w := w) (rest := rest) a2 a8 (.inr (not_defer a3 rfl))
 have a7 : (execOp (Act.mk t G.ds).eval o).run P w = .ok (.enter g args) w' := a3
 obtain ⟨e, V, fr, M, a4, _, a1⟩ := h (rt b ⟨t, G.ds⟩ (.inRegion ops (i :: rest) :: k) :: cs)
 have a0 : Go.step P (lone (rt b ⟨t, G.ds⟩ (.inRegion ops (i :: rest) :: k)) cs w) =
   .next (lone (Frame.enter P g args .normal) (rt b ⟨t, G.ds⟩ (.inRegion ops (i :: rest) :: k) :: cs) w') :=
  step_lone_go (by rw [a6]; simp [stepG.apply, a7, rt, Frame.at])
 rcases M with ⟨v, rfl, M⟩ | ⟨O, rfl, M⟩
 ·have a5 : (rt b ⟨t, G.ds⟩ (.inRegion ops (i :: rest) :: k)).finish v = rt b ⟨((Act.mk t []).put o.dst v).tmps, G.ds⟩ (.inRegion ops rest :: k) := by
   rw [rt_finish, a2]
   show rt b ((Act.mk t G.ds).put o.dst v) _ = _
   rw [put_eta]
  refine G.back _ _ _ _ (.head a0 (Steps.trans a4 (.one (step_leave_returned a1)))) ?_
  rw [a5]; exact M b cs Z
 ·refine G.back _ _ _ _ (.head a0 (Steps.trans a4 (.one (step_leave_panicked a1)))) ?_
  rw [rt_raise]; exact M b cs Z
theorem AtE.callP (g : FuncId) (args : Array Value) {L1 : SHeap} {K : Value → SHeap → Prop} {K' : List PanicEntry → SHeap → Prop} (a7 : ∀ W, (execOp (rho e) (curO nt k e)).run P W = .ok (.enter g args) W)
  (O : (cur nt k e, L) = (some (curO nt k e), L1)) (h : CallP P g args L1 S w0 K K')
  (hn : ∀ v L', K v L' → AtE P f nt (nextK k) (putE e (curDst nt k e) v) L' S w0 G) (hp : ∀ M L', K' M L' → RaiseE P f nt e M L' S w0 G) : AtE P f nt k e L S w0 G := by
 intro t W V hm
 simp only [Prod.mk.injEq] at O
 obtain ⟨O, rfl⟩ := O
 obtain ⟨ops, i, rest, k', rfl, a5, a8, a4, a6, a2⟩ := cur_spec O
 have a0 := a7 W
 rw [← execOp_congr (Act.mk t []).eval (rho e) _ a6 (V.rho a4 [])] at a0
 refine At.enterP a5 (V.wanted a8) a0 ((h W hm).mono fun en Z a3 => ?_)
 rcases a3 with ⟨v, L', he, hm', hK⟩ | ⟨M, L', he, hm', hK⟩
 ·refine .inl ⟨v, he, hn v L' hK _ Z ?_ hm'⟩
  have := V.put a2 v []
  simpa only [curDst, O] using this
 ·exact .inr ⟨M, he, fun b cs a1 => hp M L' hK _ Z _ V hm' b cs a1⟩
def asPanic (nt : Nat) (k : List Item) (e : Env) : Option Value :=
 match cur nt k e with
 | some o => match o.op with
  | .panic x => some (rho e x)
  | _ => none
 | none => none
theorem AtE.panic {t : TypeId} {v : Value} (h : asPanic nt k e = some (.iface t v)) (hn : RaiseE P f nt e [{ v := .iface t v, recovered := false }] L S w0 G) : AtE P f nt k e L S w0 G := by
 unfold asPanic at h
 split at h
 ·next o hc =>
  split at h
  ·next x ho =>
   simp only [Option.some.injEq] at h
   intro M W O hm b cs Z
   obtain ⟨ops, i, rest, k', rfl, a2, a5, a1, a3, a6⟩ := cur_spec hc
   have V : (execOp (rho e) o).run P W = .halt (.panic (.iface t v)) W := by
    simp only [execOp, ho, h]
    rfl
   rw [← execOp_congr (Act.mk M []).eval (rho e) o a3 (O.rho a1 [])] at V
   have a4 : (execOp (Act.mk M G.ds).eval o).run P W = .halt (.panic (.iface t v)) W := V
   have a0 := rstepG_op (P := P) (b := b) (a := ⟨M, G.ds⟩) (k := k') (cs := cs) (w := W) (rest := rest) a2 (O.wanted a5) (.inr fun c h => by rw [h] at ho; cases ho)
   refine G.back _ _ _ _ (.one (step_lone_go ?_)) (hn M W (.inRegion ops (i :: rest) :: k') O hm b cs Z)
   rw [a0, ← rt_raise]; simp [stepG.apply, a4]
  ·cases h
 ·cases h
def ResOk (P : Program) (fn : Func) (nt : Nat) (e : Env) (L : SHeap) (S : List Nat) (w0 : World) (v : Value) : Prop :=
 ∀ t W, Knows nt e t → Mem L S w0 W → (results fn t).run P W = .ok v W
theorem load_res {W : World} (hm : Mem L S w0 W) {j off : Nat} {T : TypeId} {v : Value} (O : isCellsL L j = true) (V : valAt P T (cellsL L j) off = some v) :
  (loadVar T ⟨blkL L j, off, none⟩).run P W = .ok v W := by
 have M := load_run (P := P) (hm.heapAt O) V
 simp only [Instr.loadAt, Sem.run_bind, Instr.sureAddr, Sem.run_pure, Result.andThen] at M
 simpa using M
theorem ResOk.cells2 {fn : Func} {a b : Tmp} {T U : TypeId} {u v : Value} (j off M O : Nat) (a7 : fn.results = #[.cell a T, .cell b U])
  (h : (get? e a, isCellsL L j, valAt P T (cellsL L j) off, get? e b, isCellsL L M, valAt P U (cellsL L M) O) = (some (.pointer (some ⟨blkL L j, off, none⟩)), true, some u, some (.pointer (some ⟨blkL L M, O, none⟩)), true, some v)) :
  ResOk P fn nt e L S w0 (.tuple #[u, v]) := by
 simp only [Prod.mk.injEq] at h
 obtain ⟨Z, a0, a1, a2, a3, a4⟩ := h
 intro t W V hm
 have a8 := load_res (P := P) hm a0 a1
 have a9 := load_res (P := P) hm a3 a4
 have a5 : t[a]?.getD undef = .pointer (some ⟨blkL L j, off, none⟩) := by rw [← Array.getD_eq_getD_getElem?]; exact V.getD Z
 have a6 : t[b]?.getD undef = .pointer (some ⟨blkL L M, O, none⟩) := by rw [← Array.getD_eq_getD_getElem?]; exact V.getD a2
 simp [results, a7, a5, a6, asAddr, Sem.run_bind, Result.andThen, a8, a9]
theorem ResOk.ct {fn : Func} {a b : Tmp} {T : TypeId} {u v : Value} (j off : Nat) (a3 : fn.results = #[.cell a T, .tmp b])
  (h : (get? e a, isCellsL L j, valAt P T (cellsL L j) off, get? e b) = (some (.pointer (some ⟨blkL L j, off, none⟩)), true, some u, some v)) :
  ResOk P fn nt e L S w0 (.tuple #[u, v]) := by
 simp only [Prod.mk.injEq] at h
 obtain ⟨O, V, Z, a0⟩ := h
 intro t W M hm
 have a4 := load_res (P := P) hm V Z
 have a1 : t[a]?.getD undef = .pointer (some ⟨blkL L j, off, none⟩) := by rw [← Array.getD_eq_getD_getElem?]; exact M.getD O
 have a2 : t[b]?.getD undef = v := by rw [← Array.getD_eq_getD_getElem?]; exact M.getD a0
 simp [results, a3, a1, a2, asAddr, Result.andThen, a4]
theorem AtE.retR {R : Ending → World → Prop} {fn : Func} {v : Value} {L1 : SHeap} (O : P.funcs[f]? = some fn) (M : (isRet k, L) = (true, L1)) (Z : ResOk P fn nt e L S w0 v) (h : Fin R L1 S w0 v) : AtE P f nt k e L S w0 (Eng.nrm R) := by
 simp only [Prod.mk.injEq] at M
 obtain ⟨M, rfl⟩ := M
 intro t W V hm
 unfold isRet at M
 split at M
 ·exact At.ret O (Z t W V hm) (h W hm)
 ·exact At.fin O (Z t W V hm) (h W hm)
 ·cases M
def FinP (R : Ending → World → Prop) (L : SHeap) (S : List Nat) (w0 : World) (ch : List PanicEntry) : Prop := ∀ W, Mem L S w0 W → R (.panicked ch) W
theorem RaiseE.nrm {R : Ending → World → Prop} {fn : Func} {M : List PanicEntry} (V : P.funcs[f]? = some fn) (h : FinP R L S w0 M) : RaiseE P f nt e M L S w0 (nrm R) := by
 intro t W k Z hm b cs O a0 a1
 exact ⟨.panicked M, W, _, h W hm, Steps.refl P _, rfl, rfl, rfl, fn, by rw [← V, ← O]; rfl⟩
def DCall (P : Program) (g : FuncId) (args : Array Value) (L : SHeap) (S : List Nat) (w0 : World) (u : FrameMode) (K : FrameMode → SHeap → Prop) : Prop :=
 ∀ W, Mem L S w0 W → CallsD P g args u W fun e u' W' => ∃ v L', e = .returned v ∧ Mem L' S w0 W' ∧ K u' L'
theorem leaves_one {fn : Func} {t : Array Value} {R : Ending → World → Prop} {d : Deferred} {V : Fn} {cap : Array Value} {g : FuncId} {args : Array Value} {u : FrameMode} (a8 : u ≠ .run) (a4 : d.target = .fn V cap)
  (hi : ∀ W, (invoke d.target d.args).run P W = .ok (.enter g args) W) (a6 : Knows nt e t)
  (h : DCall P g args L S w0 u fun O L' => settle O = .returning ∧ ∃ v, ResOk P fn nt e L' S w0 v ∧ Fin R L' S w0 v) {W : World} (hm : Mem L S w0 W) : Leaves P fn t R [d] u W := by
 refine ⟨a8, V, cap, g, args, a4, hi W, fun c cs a3 => ?_⟩
 obtain ⟨en, O, M, fr, ⟨v, L', rfl, Z, a7, x, a9, a5⟩, a0, a1, a2⟩ := h W hm c cs a3
 refine ⟨.returned v, O, M, fr, ?_, a0, a1, a2⟩
 show Leaves P fn t R [] (settle O) M
 rw [a7]
 exact ⟨x, a9 t M a6 Z, a5 M Z⟩
theorem RaiseE.dfr {R : Ending → World → Prop} {fn : Func} {d : Deferred} {V : Fn} {cap : Array Value} {g : FuncId} {args : Array Value} {M : List PanicEntry} (a2 : P.funcs[f]? = some fn) (a1 : d.target = .fn V cap)
  (hi : ∀ W, (invoke d.target d.args).run P W = .ok (.enter g args) W)
  (h : DCall P g args L S w0 (.panicking M) fun b0 L' => settle b0 = .returning ∧ ∃ v, ResOk P fn nt e L' S w0 v ∧ Fin R L' S w0 v) : RaiseE P f nt e M L S w0 (dfr [d] R) := by
 intro t W k a4 hm b cs a0 a5 a8
 show ∃ e w' fr, R e w' ∧ Comes P (lone { rt b ⟨t, [d]⟩ k with mode := .panicking M } cs W) (lone fr cs w') e ∧ fr.fn = b.fn ∧ fr.leaving P w' e
 rw [rt_none a8]
 have a6 := leaves_one (fn := fn) (R := R) (by simp) a1 hi a4 h hm
 obtain ⟨e', b1, O, Z, a9, a3, a7⟩ := leaves_steps [d] (.panicking M) W { b.at ⟨t, [d]⟩ k with mode := .panicking M } cs rfl rfl rfl (by rw [← a2, ← a0]; rfl) a5 a6
 exact ⟨e', b1, O, Z, a9, a3, a7⟩
theorem AtE.retD {R : Ending → World → Prop} {fn : Func} {d : Deferred} {a7 : Fn} {cap : Array Value} {g : FuncId} {args : Array Value} (a4 : P.funcs[f]? = some fn) (a8 : d.target = .fn a7 cap)
  (hi : ∀ W, (invoke d.target d.args).run P W = .ok (.enter g args) W) (Z : isRet k = true)
  (h : DCall P g args L S w0 .returning fun b1 L' => settle b1 = .returning ∧ ∃ v, ResOk P fn nt e L' S w0 v ∧ Fin R L' S w0 v) : AtE P f nt k e L S w0 (dfr [d] R) := by
 intro t W a9 hm b cs a3 a5 b0
 show ∃ e w' fr, R e w' ∧ Comes P (lone (rt b ⟨t, [d]⟩ k) cs W) (lone fr cs w') e ∧ fr.fn = b.fn ∧ fr.leaving P w' e
 rw [rt_none b0]
 have a6 := leaves_one (fn := fn) (R := R) (by simp) a8 hi a9 h hm
 unfold isRet at Z
 split at Z
 ·obtain ⟨e', a2, M, O, a1, V, a0⟩ := leaves_steps [d] .returning W { b.at ⟨t, [d]⟩ (.code .ret :: _) with mode := .returning } cs rfl rfl rfl (by rw [← a4, ← a3]; rfl) a5 a6
  exact ⟨e', a2, M, O, Comes.of_steps (.one step_ret) a1, V, a0⟩
 ·obtain ⟨e', a2, M, O, a1, V, a0⟩ := leaves_steps [d] .returning W { b.at ⟨t, [d]⟩ [] with mode := .returning } cs rfl rfl rfl (by rw [← a4, ← a3]; rfl) a5 a6
  exact ⟨e', a2, M, O, Comes.of_steps (.one step_end) a1, V, a0⟩
 ·cases Z
theorem DCall.mono {g : FuncId} {args : Array Value} {u : FrameMode} {K K' : FrameMode → SHeap → Prop} (h : DCall P g args L S w0 u K) (a3 : ∀ M L', K M L' → K' M L') : DCall P g args L S w0 u K' := by
 intro W hm c cs a2
 obtain ⟨en, M, O, fr, ⟨v, L', V, Z, a0⟩, a1⟩ := h W hm c cs a2
 exact ⟨en, M, O, fr, ⟨v, L', V, Z, a3 M L' a0⟩, a1⟩
theorem AtE.defer {R : Ending → World → Prop} {d : Deferred} (M : cur nt k e = some (curO nt k e)) (a1 : ∀ W, (execOp (rho e) (curO nt k e)).run P W = .ok (.defer d) W)
  (hn : AtE P f nt (nextK k) (putE e (curDst nt k e) undef) L S w0 (dfr [d] R)) : AtE P f nt k e L S w0 (Eng.nrm R) := by
 intro t W O hm b cs a6 b0 V
 show ∃ e w' fr, R e w' ∧ Comes P (lone (rt b ⟨t, []⟩ k) cs W) (lone fr cs w') e ∧ fr.fn = b.fn ∧ fr.leaving P w' e
 rw [rt_none V]
 generalize curO nt k e = o at M a1
 obtain ⟨ops, i, rest, k', rfl, a0, b5, b1, b4, a7⟩ := cur_spec M
 have a2 := a1 W
 rw [← execOp_congr (Act.mk t []).eval (rho e) o b4 (O.rho b1 [])] at a2
 have a9 := stepG_op (P := P) (b := b) (a := ⟨t, []⟩) (k := k') (cs := cs) (w := W) (rest := rest) a0 (O.wanted b5)
 have b3 := hn ((Act.mk t []).put o.dst undef).tmps W (by have := O.put a7 undef []; simpa only [curDst, M] using this) hm b cs a6 b0 V
 have Z : ∃ e w' fr, R e w' ∧ Comes P (lone (rt b ⟨((Act.mk t []).put o.dst undef).tmps, [d]⟩ (.inRegion ops rest :: k')) cs W) (lone fr cs w') e ∧ fr.fn = b.fn ∧ fr.leaving P w' e := b3
 rw [rt_none V] at Z
 obtain ⟨en, w', fr, a3, a4, a5⟩ := Z
 refine ⟨en, w', fr, a3, Comes.of_steps (.one (step_lone_go ?_)) a4, a5⟩
 have a8 : ({ b.at ⟨t, []⟩ (.inRegion ops (i :: rest) :: k') with defers := d :: [] } : Frame).finish undef = b.at ⟨((Act.mk t []).put o.dst undef).tmps, [d]⟩ (.inRegion ops rest :: k') := by
  have := Frame.finish_at b ⟨t, [d]⟩ ops i rest k' undef
  rw [a0] at this
  rw [← put_eta]
  exact this
 show GStep.bare (stepG P true { frame := b.at ⟨t, []⟩ (.inRegion ops (i :: rest) :: k'), callers := cs, status := .running, dying := none } W) = GStep.go { frame := b.at ⟨((Act.mk t []).put o.dst undef).tmps, [d]⟩ (.inRegion ops rest :: k'), callers := cs, status := .running, dying := none } W
 rw [a9]; simp only [stepG.apply, Sem.runT_eq, a2, GStep.bare_after]
 exact congrArg (fun fr => GStep.go { frame := fr, callers := cs, status := .running, dying := none } W) a8
def dgoal {P : Program} (u : FrameMode) (R : Ending → FrameMode → World → Prop) : Goal P where
 ds := []
 ok b cs m := b.kind = .deferred → b.roundOf = none → ∀ c cs', cs = c :: cs' → c.mode = u →
  ∃ e u' w' fr, R e u' w' ∧ Comes P m (lone fr ({ c with mode := u' } :: cs') w') e ∧ fr.kind = .deferred ∧ fr.going P w' e
 back b cs m m1 hs h hk hr c cs' hc hu := by
  obtain ⟨e, u', w', fr, h1, h2, h3⟩ := h hk hr c cs' hc hu
  exact ⟨e, u', w', fr, h1, Comes.of_steps hs h2, h3⟩
theorem AtE.callsD {fn : Func} {args : List Value} {W : World} {u : FrameMode} {R : Ending → FrameMode → World → Prop} (a7 : P.funcs[f]? = some fn) (V : (fn.body.isSome, fn.ntmps, Nat.ble args.length nt) = (true, nt, true)) (hm : Mem L S w0 W)
  (h : AtE P f nt [.code (body fn)] (argsE 0 args) L S w0 (dgoal u R)) : CallsD P f ⟨args⟩ u W R := by
 simp only [Prod.mk.injEq] at V
 obtain ⟨a1, a2, a3⟩ := V
 obtain ⟨c, Z⟩ := Option.isSome_iff_exists.1 a1
 have a5 : body fn = c := by simp [body, Z]
 rw [a5] at h
 have b0 : args.length ≤ nt := Nat.le_of_ble_eq_true a3
 intro O cs a9
 have a6 : Frame.enter P f ⟨args⟩ .deferred =
   ({ (default : Frame) with fn := f, kind := .deferred } : Frame).at { tmps := (⟨args⟩ : Array Value) ++ Array.replicate (fn.ntmps - (⟨args⟩ : Array Value).size) undef, defers := [] } [.code c] := by
  simp [Frame.enter, Frame.at, a7, Z]
 rw [a6]
 have a4 : ∀ t, Knows nt (argsE 0 args) t → ∃ e a0 w' fr, R e a0 w' ∧ Comes P (lone (({ (default : Frame) with fn := f, kind := .deferred } : Frame).at ⟨t, []⟩ [.code c]) (O :: cs) W) (lone fr ({ O with mode := a0 } :: cs) w') e ∧ fr.kind = .deferred ∧ fr.going P w' e := by
  intro t a8
  have := h t W a8 hm { (default : Frame) with fn := f, kind := .deferred } (O :: cs) rfl rfl rfl O cs rfl a9
  rw [rt_none rfl] at this
  exact this
 refine a4 _ ⟨?_, ?_⟩
 ·simp [a2]; omega
 ·intro i v M
  obtain ⟨_, M⟩ := argsE_get args 0 i v M
  simp only [Nat.sub_zero] at M
  have hi : i < args.length := (List.getElem?_eq_some_iff.1 M).1
  rw [Array.getElem?_append_left (by simpa using hi)]
  simpa using M
def FinD (R : Ending → FrameMode → World → Prop) (u : FrameMode) (L : SHeap) (S : List Nat) (w0 : World) (v : Value) : Prop := ∀ W, Mem L S w0 W → R (.returned v) u W
theorem AtE.retG {R : Ending → FrameMode → World → Prop} {u : FrameMode} {fn : Func} {v : Value} {L1 : SHeap} (a1 : P.funcs[f]? = some fn) (M : (isRet k, retV e fn.results.toList, L) = (true, some v, L1)) (h : FinD R u L1 S w0 v) : AtE P f nt k e L S w0 (dgoal u R) := by
 simp only [Prod.mk.injEq] at M
 obtain ⟨O, M, rfl⟩ := M
 intro t W a6 hm b cs V a2 a7 c a5 Z a8
 show ∃ e a4 w' fr, R e a4 w' ∧ Comes P (lone (rt b ⟨t, []⟩ k) cs W) (lone fr ({ c with mode := a4 } :: a5) w') e ∧ fr.kind = .deferred ∧ fr.going P w' e
 rw [rt_none a7]
 have a3 := results_run (P := P) a6 M W
 have a0 : ({ c with mode := u } : Frame) = c := by rw [← a8]
 unfold isRet at O
 split at O
 ·exact ⟨.returned v, u, W, { b.at ⟨t, []⟩ (.code .ret :: _) with mode := .returning }, h W hm, by rw [a0, Z]; exact .one step_ret, a2, rfl, rfl, fn, by rw [← a1, ← V]; rfl, a3⟩
 ·exact ⟨.returned v, u, W, { b.at ⟨t, []⟩ [] with mode := .returning }, h W hm, by rw [a0, Z]; exact .one step_end, a2, rfl, rfl, fn, by rw [← a1, ← V]; rfl, a3⟩
 ·cases O
theorem AtE.recoverP {R : Ending → FrameMode → World → Prop} {v : Value} {V : List PanicEntry} (Z : cur nt k e = some (curO nt k e)) (a5 : ∀ W, (execOp (rho e) (curO nt k e)).run P W = .ok .recover W)
  (hn : AtE P f nt (nextK k) (putE e (curDst nt k e) v) L S w0 (dgoal (.panicking ({ v, recovered := true } :: V)) R)) :
  AtE P f nt k e L S w0 (dgoal (.panicking ({ v, recovered := false } :: V)) R) := by
 intro t W a0 hm b cs b1 a3 a1 c M b3 c3
 subst b3
 show ∃ e O w' fr, R e O w' ∧ Comes P (lone (rt b ⟨t, []⟩ k) (c :: M) W) (lone fr ({ c with mode := O } :: M) w') e ∧ fr.kind = .deferred ∧ fr.going P w' e
 rw [rt_none a1]
 generalize curO nt k e = o at Z a5
 obtain ⟨ops, i, rest, k', rfl, a4, c4, b7, b9, b4⟩ := cur_spec Z
 have a6 := a5 W
 rw [← execOp_congr (Act.mk t []).eval (rho e) o b9 (a0.rho b7 [])] at a6
 have b6 := stepG_op (P := P) (b := b) (a := ⟨t, []⟩) (k := k') (cs := c :: M) (w := W) (rest := rest) a4 (a0.wanted c4)
 have b8 := hn ((Act.mk t []).put o.dst v).tmps W (by have := a0.put b4 v []; simpa only [curDst, Z] using this) hm b ({ c with mode := .panicking ({ v, recovered := true } :: V) } :: M) b1 a3 a1 _ M rfl rfl
 obtain ⟨en, O, w', fr, a8, a9, b0⟩ := b8
 have a2 : Comes P (lone (rt b ⟨((Act.mk t []).put o.dst v).tmps, []⟩ (.inRegion ops rest :: k')) _ W) (lone fr ({ c with mode := O } :: M) w') en := a9
 rw [rt_none a1] at a2
 have a7 := tryRecover_deferred (fr := b.at ⟨t, []⟩ (.inRegion ops (i :: rest) :: k')) a3 (c :: M)
 have c2 : recoverD (c :: M) = some (v, { c with mode := .panicking ({ v, recovered := true } :: V) } :: M) := by
  simp [recoverD, c3]
 refine ⟨en, O, w', fr, a8, Comes.of_steps (.one (step_lone_go ?_)) a2, b0⟩
 have b5 : (b.at ⟨t, []⟩ (.inRegion ops (i :: rest) :: k')).finish v = b.at ⟨((Act.mk t []).put o.dst v).tmps, []⟩ (.inRegion ops rest :: k') := by
  rw [Frame.finish_at, a4]; show b.at ((Act.mk t []).put o.dst v) _ = _; rw [put_eta]
 show GStep.bare (stepG P true { frame := b.at ⟨t, []⟩ (.inRegion ops (i :: rest) :: k'), callers := c :: M, status := .running, dying := none } W) = GStep.go { frame := b.at ⟨((Act.mk t []).put o.dst v).tmps, []⟩ (.inRegion ops rest :: k'), callers := _, status := .running, dying := none } W
 rw [b6, ← b5]
 simp only [Frame.at] at a7 ⊢
 simp [stepG.apply, a6, a7, c2]
theorem AtE.recoverN {R : Ending → FrameMode → World → Prop} (V : cur nt k e = some (curO nt k e)) (a4 : ∀ W, (execOp (rho e) (curO nt k e)).run P W = .ok .recover W)
  (hn : AtE P f nt (nextK k) (putE e (curDst nt k e) .nilIface) L S w0 (dgoal .returning R)) :
  AtE P f nt k e L S w0 (dgoal .returning R) := by
 intro t W Z hm b cs b1 a2 a0 c M b3 a7
 subst b3
 show ∃ e O w' fr, R e O w' ∧ Comes P (lone (rt b ⟨t, []⟩ k) (c :: M) W) (lone fr ({ c with mode := O } :: M) w') e ∧ fr.kind = .deferred ∧ fr.going P w' e
 rw [rt_none a0]
 generalize curO nt k e = o at V a4
 obtain ⟨ops, i, rest, k', rfl, a3, c3, b7, b9, b4⟩ := cur_spec V
 have a5 := a4 W
 rw [← execOp_congr (Act.mk t []).eval (rho e) o b9 (Z.rho b7 [])] at a5
 have b6 := stepG_op (P := P) (b := b) (a := ⟨t, []⟩) (k := k') (cs := c :: M) (w := W) (rest := rest) a3 (Z.wanted c3)
 have b8 := hn ((Act.mk t []).put o.dst .nilIface).tmps W (by have := Z.put b4 .nilIface []; simpa only [curDst, V] using this) hm b (c :: M) b1 a2 a0 c M rfl a7
 obtain ⟨en, O, w', fr, a8, a9, b0⟩ := b8
 have a1 : Comes P (lone (rt b ⟨((Act.mk t []).put o.dst .nilIface).tmps, []⟩ (.inRegion ops rest :: k')) _ W) (lone fr ({ c with mode := O } :: M) w') en := a9
 rw [rt_none a0] at a1
 have a6 := tryRecover_deferred (fr := b.at ⟨t, []⟩ (.inRegion ops (i :: rest) :: k')) a2 (c :: M)
 have c2 : recoverD (c :: M) = none := by simp [recoverD, a7]
 refine ⟨en, O, w', fr, a8, Comes.of_steps (.one (step_lone_go ?_)) a1, b0⟩
 have b5 : (b.at ⟨t, []⟩ (.inRegion ops (i :: rest) :: k')).finish .nilIface = b.at ⟨((Act.mk t []).put o.dst .nilIface).tmps, []⟩ (.inRegion ops rest :: k') := by
  rw [Frame.finish_at, a3]; show b.at ((Act.mk t []).put o.dst .nilIface) _ = _; rw [put_eta]
 show GStep.bare (stepG P true { frame := b.at ⟨t, []⟩ (.inRegion ops (i :: rest) :: k'), callers := c :: M, status := .running, dying := none } W) = GStep.go { frame := b.at ⟨((Act.mk t []).put o.dst .nilIface).tmps, []⟩ (.inRegion ops rest :: k'), callers := _, status := .running, dying := none } W
 rw [b6, ← b5]
 simp only [Frame.at] at a6 ⊢
 simp [stepG.apply, a5, a6, c2]
end
section
variable {P : Program} {f nt : Nat} {L L0 : SHeap} {S : List Nat} {w0 : World} {ops : Array Oper}
def isIn (i : Nat) : List Nat → Bool
 | [] => false
 | j :: r => bif Nat.beq i j then true else isIn i r
theorem isIn_spec {i : Nat} : ∀ {l : List Nat}, isIn i l = true → i ∈ l
 | j :: r, h => by
  simp only [isIn] at h
  cases hb : Nat.beq i j with
  | true => rw [Nat.eq_of_beq_eq_true hb]; exact .head _
  | false => rw [hb] at h; exact .tail _ (isIn_spec h)
theorem isIn_no {i : Nat} : ∀ {l : List Nat}, isIn i l = false → i ∉ l
 | [], _ => by simp
 | j :: r, h => by
  simp only [isIn] at h
  cases hb : Nat.beq i j with
  | true => rw [hb] at h; cases h
  | false =>
   rw [hb] at h
   intro hm
   cases hm with
   | head => simp at hb
   | tail _ hm => exact isIn_no h hm
def allN (p : Nat → Bool) : Nat → Bool
 | 0 => true
 | n + 1 => bif p n then allN p n else false
theorem allN_spec {p : Nat → Bool} : ∀ {n : Nat}, allN p n = true → ∀ i, i < n → p i = true
 | n + 1, h, i, hi => by
  simp only [allN] at h
  cases hp : p n with
  | false => rw [hp] at h; cases h
  | true =>
   rw [hp] at h
   by_cases hc : i = n
   ·subst hc; exact hp
   ·exact allN_spec h i (by omega)
def anyN (p : Nat → Bool) : Nat → Bool
 | 0 => false
 | n + 1 => bif p n then true else anyN p n
theorem anyN_spec {p : Nat → Bool} : ∀ {n : Nat}, anyN p n = true → ∃ i, i < n ∧ p i = true
 | n + 1, h => by
  simp only [anyN] at h
  cases hp : p n with
  | true => exact ⟨n, by omega, hp⟩
  | false => rw [hp] at h; obtain ⟨i, hi, h⟩ := anyN_spec h; exact ⟨i, by omega, h⟩
def anyL (p : Nat → Bool) : List Nat → Bool
 | [] => false
 | i :: r => bif p i then true else anyL p r
theorem anyL_spec {p : Nat → Bool} : ∀ {l : List Nat}, anyL p l = true → ∃ i ∈ l, p i = true
 | i :: r, h => by
  simp only [anyL] at h
  cases hp : p i with
  | true => exact ⟨i, .head _, hp⟩
  | false => rw [hp] at h; obtain ⟨j, M, h⟩ := anyL_spec h; exact ⟨j, .tail _ M, h⟩
def allL (p : Nat → Bool) : List Nat → Bool
 | [] => true
 | i :: r => bif p i then allL p r else false
theorem allL_spec {p : Nat → Bool} : ∀ {l : List Nat}, allL p l = true → ∀ i ∈ l, p i = true
 | j :: r, h, i, hi => by
  simp only [allL] at h
  cases hp : p j with
  | false => rw [hp] at h; cases h
  | true =>
   rw [hp] at h
   cases hi with
   | head => exact hp
   | tail _ hi => exact allL_spec h i hi
def depsE : List Edge → List Nat
 | [] => []
 | e :: r => bif Region.binds .any e then e.on :: depsE r else depsE r
def deps (ops : Array Oper) (i : Nat) : List Nat := match ops[i]? with | some o => depsE o.after.toList | none => []
theorem depsE_mem : ∀ {l : List Edge} {e : Edge}, e ∈ l → Region.binds .any e = true → e.on ∈ depsE l
 | a :: r, e, h, hb => by
  simp only [depsE]
  cases h with
  | head => rw [hb]; exact .head _
  | tail _ h =>
   cases Region.binds .any a with
   | true => exact .tail _ (depsE_mem h hb)
   | false => exact depsE_mem h hb
theorem depsE_of : ∀ {l : List Edge} {j : Nat}, j ∈ depsE l → ∃ e ∈ l, Region.binds .any e = true ∧ e.on = j
 | a :: r, j, h => by
  simp only [depsE] at h
  cases hb : Region.binds .any a with
  | true =>
   rw [hb] at h
   cases h with
   | head => exact ⟨a, .head _, hb, rfl⟩
   | tail _ h => obtain ⟨e, V, M, O⟩ := depsE_of h; exact ⟨e, .tail _ V, M, O⟩
  | false => rw [hb] at h; obtain ⟨e, V, M, O⟩ := depsE_of h; exact ⟨e, .tail _ V, M, O⟩
def dstOf (ops : Array Oper) (i : Nat) : Option Tmp := match ops[i]? with | some o => o.dst | none => none
def tmpsOf : List Operand → List Nat
 | [] => []
 | .tmp t :: r => t :: tmpsOf r
 | _ :: r => tmpsOf r
theorem tmpsOf_mem {t : Nat} : ∀ {l : List Operand}, Operand.tmp t ∈ l → t ∈ tmpsOf l
 | .tmp u :: r, h => by
  simp only [tmpsOf]
  cases h with
  | head => exact .head _
  | tail _ h => exact .tail _ (tmpsOf_mem h)
 | .const _ :: r, h => by cases h with | tail _ h => exact tmpsOf_mem (l := r) h
 | .global _ :: r, h => by cases h with | tail _ h => exact tmpsOf_mem (l := r) h
 | .func _ :: r, h => by cases h with | tail _ h => exact tmpsOf_mem (l := r) h
def slotsOf (ops : Array Oper) (o : Oper) : List Nat :=
 (match o.guard with
  | some (j, _) => match dstOf ops j with | some d => [d] | none => []
  | none => []) ++ tmpsOf o.op.operands.toList
def slotsAt (ops : Array Oper) (i : Nat) : List Nat := match ops[i]? with | some o => slotsOf ops o | none => []
def On (ops : Array Oper) (o : Oper) (e : Env) (t : Array Value) : Prop := ∀ s ∈ slotsOf ops o, ∀ v, get? e s = some v → t[s]? = some v
theorem On.rho {o : Oper} {e : Env} {t : Array Value} (h : On ops o e t) (V : known e o.op = true) (ds : List Deferred) : ∀ x ∈ o.op.operands.toList, (Act.mk t ds).eval x = rho e x := by
 intro x O
 have := allSome_spec _ V (Eng.ev e x) (List.mem_map.2 ⟨x, O, rfl⟩)
 obtain ⟨v, M⟩ := Option.isSome_iff_exists.1 this
 rw [Eng.rho, M]
 cases x with
 | tmp i =>
  have := h i (List.mem_append_right _ (tmpsOf_mem O)) v M
  simp [Act.eval, Array.getD_eq_getD_getElem?, this]
 | const u => simp only [Eng.ev, Option.some.injEq] at M; exact M
 | global g => simp only [Eng.ev, Option.some.injEq] at M; exact M
 | func f => simp only [Eng.ev, Option.some.injEq] at M; exact M
theorem On.wanted {o : Oper} {e : Env} {t : Array Value} (h : On ops o e t) {b : Bool} (M : wantedE ops e o = some b) : Region.wanted o (yielded ops t) = b := by
 unfold wantedE at M
 unfold Region.wanted
 split at M
 ·next hg => rw [hg]; simpa using M
 ·next j want hg =>
  rw [hg]
  simp only
  unfold yielded
  split at M
  ·next ho => rw [ho]; simp at M; subst M; rfl
  ·next oj ho =>
   rw [ho]
   simp only [Option.bind_some]
   split at M
   ·next hd => rw [hd]; simp at M; subst M; rfl
   ·next d hd =>
    rw [hd]
    simp only [Option.bind_some]
    have O : d ∈ slotsOf ops o := by simp [slotsOf, hg, dstOf, ho, hd]
    split at M
    ·next b' hget =>
     rw [h d O _ hget]
     cases b' <;> cases want <;> simp at M <;> subst M <;> rfl
    ·next vs hget =>
     rw [h d O _ hget]
     simp at M; subst M; rfl
    ·cases M
def StepQ (P : Program) (nt : Nat) (ops : Array Oper) (L : SHeap) (S : List Nat) (w0 : World) (i : Nat) (e : Env) (v : Value) : Prop :=
  ∃ o, ops[i]? = some o ∧ dstOk nt o.dst = true ∧
    ((wantedE ops e o = some true ∧ known e o.op = true ∧ plainOp o.op = true ∧
        ∀ W, Mem L S w0 W → (execOp (rho e) o).run P W = .ok (.value v) W ∨ ∃ g args, (execOp (rho e) o).run P W = .ok (.enter g args) W ∧ Calls P g args W fun en W' => en = .returned v ∧ Below W.heap.size W W') ∨
     (wantedE ops e o = some false ∧ v = undef))
def gext (a b : Env) : Prop := ∀ s, get? a s = get? b s
theorem gext.put {a b : Env} (h : gext a b) (d : Option Tmp) (v : Value) : gext (putE a d v) (putE b d v) := by
 cases d with
 | none => exact h
 | some d => intro s; simp only [putE, get?, h s]
theorem gext.ev {a b : Env} (h : gext a b) (x : Operand) : ev a x = ev b x := by cases x <;> simp [Eng.ev, h _]
theorem gext.rho {a b : Env} (h : gext a b) : rho a = rho b := by funext x; simp only [Eng.rho, h.ev x]
theorem gext.known {a b : Env} (h : gext a b) (o : Op) : known a o = known b o := by
 simp only [Eng.known]; congr 1; exact List.map_congr_left fun x _ => h.ev x
theorem gext.wanted {a b : Env} (h : gext a b) (o : Oper) : wantedE ops a o = wantedE ops b o := by
 unfold wantedE; split <;> try rfl
 split <;> try rfl
 split <;> try rfl
 rw [h _]
theorem StepQ.ext {i : Nat} {a b : Env} {v : Value} (h : StepQ P nt ops L S w0 i a v) (M : gext a b) : StepQ P nt ops L S w0 i b v := by
 obtain ⟨o, O, V, Z⟩ := h
 refine ⟨o, O, V, ?_⟩
 rw [← M.wanted o, ← M.known, ← M.rho]
 exact Z
def FreeF (P : Program) (nt : Nat) (ops : Array Oper) (L : SHeap) (S : List Nat) (w0 : World) (val : Nat → Value) : List Nat → Env → (Env → Prop) → Prop
 | [], e, K => K e
 | i :: r, e, K => StepQ P nt ops L S w0 i e (val i) ∧ FreeF P nt ops L S w0 val r (putE e (dstOf ops i) (val i)) K
theorem FreeF.ext {val : Nat → Value} {K : Env → Prop} (M : ∀ a b, gext a b → K a → K b) : ∀ {F : List Nat} {a b : Env}, gext a b → FreeF P nt ops L S w0 val F a K → FreeF P nt ops L S w0 val F b K
 | [], _, _, hx, h => M _ _ hx h
 | i :: r, _, _, hx, h => ⟨h.1.ext hx, FreeF.ext M (hx.put _ _) h.2⟩
theorem FreeF.congr {val M : Nat → Value} {K : Env → Prop} : ∀ {F : List Nat} {e : Env}, (∀ j ∈ F, val j = M j) → FreeF P nt ops L S w0 val F e K → FreeF P nt ops L S w0 M F e K
 | [], _, _, h => h
 | i :: r, e, hv, h => by
  have hi := hv i (.head _)
  refine ⟨hi ▸ h.1, ?_⟩
  rw [← hi]
  exact FreeF.congr (fun j O => hv j (.tail _ O)) h.2
def Src' (ops : Array Oper) (val : Nat → Value) (F : List Nat) (e e' : Env) : Prop := ∀ s v, get? e' s = some v → get? e s = some v ∨ ∃ j ∈ F, dstOf ops j = some s ∧ val j = v
theorem Src'.put {val : Nat → Value} {F : List Nat} {e e' : Env} (h : Src' ops val F e e') {i : Nat} (hi : i ∈ F) : Src' ops val F e (putE e' (dstOf ops i) (val i)) := by
 intro s v M
 cases hd : dstOf ops i with
 | none => rw [hd] at M; exact h s v M
 | some d =>
  rw [hd] at M
  simp only [putE, get?] at M
  cases hb : Nat.beq d s with
  | true =>
   rw [hb] at M
   simp only [cond_true, Option.some.injEq] at M
   exact .inr ⟨i, hi, by rw [hd, Nat.eq_of_beq_eq_true hb], M⟩
  | false => rw [hb] at M; exact h s v M
theorem FreeF.get {val : Nat → Value} {K : Env → Prop} {F0 : List Nat} {e0 : Env} : ∀ {F : List Nat} {e : Env}, (∀ i ∈ F, i ∈ F0) → Src' ops val F0 e0 e → FreeF P nt ops L S w0 val F e K →
  (∀ i ∈ F, ∃ e', StepQ P nt ops L S w0 i e' (val i) ∧ Src' ops val F0 e0 e') ∧ ∃ e', K e' ∧ Src' ops val F0 e0 e'
 | [], e, _, hs, h => ⟨fun i hi => (by cases hi), e, h, hs⟩
 | i :: r, e, hF, hs, h => by
  obtain ⟨O, V⟩ := FreeF.get (fun j M => hF j (.tail _ M)) (hs.put (hF i (.head _))) h.2
  refine ⟨fun j M => ?_, V⟩
  cases M with
  | head => exact ⟨e, h.1, hs⟩
  | tail _ M => exact O j M
def AtF (P : Program) (nt : Nat) (k : List Item) (e : Env) (L : SHeap) (S : List Nat) (w0 : World) (K : Env → Prop) : Prop :=
 ∀ ops F, k = [.inRegion ops F] → F.Nodup → ∃ val, FreeF P nt ops L S w0 val F e fun e' => ∃ eF, (∀ s v, get? eF s = some v → get? e' s = some v) ∧ K eF
variable {k : List Item} {e : Env} {K : Env → Prop}
def doneK : List Item → Bool
 | [.inRegion _ []] => true
 | _ => false
theorem AtF.done (h : doneK k = true) (hn : K e) : AtF P nt k e L S w0 K := by
 intro O F M _
 rw [M] at h
 unfold doneK at h
 split at h
 ·next hh =>
  simp only [List.cons.injEq, Item.inRegion.injEq, and_true] at hh
  obtain ⟨_, rfl⟩ := hh
  exact ⟨fun _ => undef, e, fun _ _ h => h, hn⟩
 ·cases h
theorem AtF.push {i : Nat} {v : Value} (h : get? e i = some v) (hn : AtF P nt k ((i, v) :: e) L S w0 K) : AtF P nt k e L S w0 K := by
 intro ops F a1 Z
 obtain ⟨val, a0⟩ := hn ops F a1 Z
 refine ⟨val, FreeF.ext ?_ (fun s => ?_) a0⟩
 ·rintro a b a3 ⟨M, O, V⟩
  exact ⟨M, fun s v a2 => by rw [← a3 s]; exact O s v a2, V⟩
 ·simp only [get?]
  cases hb : Nat.beq i s with
  | true => rw [← Nat.eq_of_beq_eq_true hb, h]; rfl
  | false => rfl
theorem AtF.opQ {o : Oper} {v : Value} (V : cur nt k e = some o)
  (a9 : ∀ W, Mem L S w0 W → (execOp (rho e) o).run P W = .ok (.value v) W ∨ ∃ g args, (execOp (rho e) o).run P W = .ok (.enter g args) W ∧ Calls P g args W fun en a1 => en = .returned v ∧ Below W.heap.size W a1)
  (hn : AtF P nt (nextK k) (putE e (curDst nt k e) v) L S w0 K) : AtF P nt k e L S w0 K := by
 intro ops F Z O
 obtain ⟨M, i, rest, k', rfl, a0, b0, a7, hp, a3⟩ := cur_spec V
 simp only [List.cons.injEq, Item.inRegion.injEq] at Z
 obtain ⟨⟨rfl, rfl⟩, rfl⟩ := Z
 have a2 : curDst nt (.inRegion M (i :: rest) :: []) e = o.dst := by simp only [curDst, V]
 rw [a2] at hn
 obtain ⟨val, a5⟩ := hn M rest rfl (List.nodup_cons.1 O).2
 have a8 := (List.nodup_cons.1 O).1
 have a4 : dstOf M i = o.dst := by simp only [dstOf, a0]
 refine ⟨fun j => if j = i then v else val j, ?_, ?_⟩
 ·show StepQ P nt M L S w0 i e (if i = i then v else val i)
  rw [if_pos rfl]
  exact ⟨o, a0, a3, .inl ⟨b0, a7, hp, a9⟩⟩
 ·simp only [if_true, a4]
  exact FreeF.congr (fun j a6 => by rw [if_neg (fun h : j = i => a8 (h ▸ a6))]) a5
theorem AtF.opV {o : Oper} {v : Value} (M : cur nt k e = some o) (O : ∀ W, Mem L S w0 W → (execOp (rho e) o).run P W = .ok (.value v) W)
  (hn : AtF P nt (nextK k) (putE e (curDst nt k e) v) L S w0 K) : AtF P nt k e L S w0 K :=
 AtF.opQ M (fun W hm => .inl (O W hm)) hn
theorem OpV.F {v : Value} (h : OpV P nt k e L S w0 v) (hn : AtF P nt (nextK k) (putE e (curDst nt k e) v) L S w0 K) : AtF P nt k e L S w0 K := let ⟨_, h1, h2⟩ := h; AtF.opV h1 h2 hn
theorem AtF.pure (M : cur nt k e = some (curO nt k e)) (h : ∀ W, (execOp (rho e) (curO nt k e)).run P W = .ok (.value (vQ P nt k e)) W)
  (hn : AtF P nt (nextK k) (putE e (curDst nt k e) (vQ P nt k e)) L S w0 K) : AtF P nt k e L S w0 K :=
 AtF.opV M (fun W _ => h W) hn
theorem AtF.skip (h : skipO nt k e = some (skipD nt k e)) (hn : AtF P nt (nextK k) (putE e (skipD nt k e) undef) L S w0 K) : AtF P nt k e L S w0 K := by
 intro ops F O M
 generalize skipD nt k e = d at h hn
 unfold skipO at h
 split at h
 ·next ops' i rest k' =>
  simp only [List.cons.injEq, Item.inRegion.injEq] at O
  obtain ⟨⟨rfl, rfl⟩, rfl⟩ := O
  split at h
  ·next o ho =>
   split at h
   ·next hw =>
    cases hd : dstOk nt o.dst with
    | false => simp [hd] at h
    | true =>
     simp only [hd, cond_true, Option.some.injEq] at h
     subst h
     obtain ⟨val, Z⟩ := hn ops' rest rfl (List.nodup_cons.1 M).2
     have a1 := (List.nodup_cons.1 M).1
     have V : dstOf ops' i = o.dst := by simp only [dstOf, ho]
     refine ⟨fun j => if j = i then undef else val j, ?_, ?_⟩
     ·show StepQ P nt ops' L S w0 i e (if i = i then undef else val i)
      rw [if_pos rfl]
      exact ⟨o, ho, hd, .inr ⟨hw, rfl⟩⟩
     ·simp only [if_true, V]
      exact FreeF.congr (fun j a0 => by rw [if_neg (fun h : j = i => a1 (h ▸ a0))]) Z
   ·cases h
  ·cases h
 ·cases h
def QCallB (P : Program) (g : FuncId) (args : Array Value) (L : SHeap) (S : List Nat) (w0 : World) (v : Value) : Prop := ∀ W, Mem L S w0 W → Calls P g args W fun en W' => en = .returned v ∧ Below W.heap.size W W'
theorem QCallB.of {g : FuncId} {args : Array Value} {v : Value} (h : PureC P g args v) : QCallB P g args L S w0 v := fun W _ => h W
theorem AtF.call (g : FuncId) (args : Array Value) {v : Value} {L1 : SHeap} (O : ∀ W, (execOp (rho e) (curO nt k e)).run P W = .ok (.enter g args) W) (M : (cur nt k e, L) = (some (curO nt k e), L1)) (h : QCallB P g args L1 S w0 v)
  (hn : AtF P nt (nextK k) (putE e (curDst nt k e) v) L1 S w0 K) : AtF P nt k e L S w0 K := by
 simp only [Prod.mk.injEq] at M
 obtain ⟨M, rfl⟩ := M
 exact AtF.opQ M (fun W hm => .inr ⟨g, args, O W, h W hm⟩) hn
def LoudOp (P : Program) (nt : Nat) (ops : Array Oper) (L : SHeap) (S : List Nat) (w0 : World) (m : Nat) (E : Env) (K : Value → SHeap → Prop) : Prop :=
  ∃ o, ops[m]? = some o ∧ dstOk nt o.dst = true ∧
    ((wantedE ops E o = some true ∧ known E o.op = true ∧ plainOp o.op = true ∧
        ∀ W, Mem L S w0 W → (∃ v L' W', (execOp (rho E) o).run P W = .ok (.value v) W' ∧ Mem L' S w0 W' ∧ K v L') ∨
          (∃ L' W', (execOp (rho E) o).run P W = .ok .skip W' ∧ Mem L' S w0 W' ∧ K undef L') ∨
          ∃ g args, (execOp (rho E) o).run P W = .ok (.enter g args) W ∧ Calls P g args W fun en W' => ∃ v L', en = .returned v ∧ Mem L' S w0 W' ∧ K v L') ∨
     (wantedE ops E o = some false ∧ K undef L))
def firstN (n s : Nat) : Array Bool := ⟨List.replicate n true ++ List.replicate (s - n) false⟩
def AtD (P : Program) (f nt : Nat) (ops : Array Oper) (n : Nat) (kk : List Item) (e : Env) (L : SHeap) (S : List Nat) (w0 : World) (R : Goal P) : Prop :=
 ∀ t, AtE P f nt (.inRegion ops (Region.linearise.go .any ops (ops.size - n) t (firstN n ops.size) []) :: kk) e L S w0 R
def AtMl (P : Program) (f nt : Nat) (ops : Array Oper) (n : Nat) (kk : List Item) (L0 : SHeap) (S : List Nat) (w0 : World) (R : Goal P) : List Nat → Env → SHeap → Prop
 | [], E, L => (∃ L1, L = L0 ++ L1) ∧ AtD P f nt ops n kk E L S w0 R
 | m :: r, E, L => (∃ L1, L = L0 ++ L1) ∧ LoudOp P nt ops L S w0 m E fun v L' => AtMl P f nt ops n kk L0 S w0 R r (putE E (dstOf ops m) v) L'
def AtM (P : Program) (f nt : Nat) (ops : Array Oper) (n : Nat) (kk : List Item) (L0 : SHeap) (k : List Item) (e : Env) (L : SHeap) (S : List Nat) (w0 : World) (R : Goal P) : Prop :=
 ∀ M, k = [.inRegion ops M] → AtMl P f nt ops n kk L0 S w0 R M e L
variable {n : Nat} {kk : List Item} {R : Goal P}
theorem AtM.done (L1 : SHeap) (h : k = [.inRegion ops []]) (O : L = L0 ++ L1) (hn : AtD P f nt ops n kk e L S w0 R) : AtM P f nt ops n kk L0 k e L S w0 R := by
 intro V M
 rw [h] at M
 simp only [List.cons.injEq, Item.inRegion.injEq, true_and, and_true] at M
 subst M
 exact ⟨⟨L1, O⟩, hn⟩
theorem AtM.skip (L1 : SHeap) (h : skipO nt k e = some (skipD nt k e)) (V : L = L0 ++ L1) (hn : AtM P f nt ops n kk L0 (nextK k) (putE e (skipD nt k e) undef) L S w0 R) : AtM P f nt ops n kk L0 k e L S w0 R := by
 intro Z M
 generalize skipD nt k e = d at h hn
 unfold skipO at h
 split at h
 ·next ops' i rest k' =>
  simp only [List.cons.injEq, Item.inRegion.injEq] at M
  obtain ⟨⟨rfl, rfl⟩, rfl⟩ := M
  split at h
  ·next o ho =>
   split at h
   ·next hw =>
    cases hd : dstOk nt o.dst with
    | false => simp [hd] at h
    | true =>
     simp only [hd, cond_true, Option.some.injEq] at h
     subst h
     have O : dstOf ops' i = o.dst := by simp only [dstOf, ho]
     refine ⟨⟨L1, V⟩, o, ho, hd, .inr ⟨hw, ?_⟩⟩
     rw [O]
     exact hn rest rfl
   ·cases h
  ·cases h
 ·cases h
theorem AtM.new (L1 : SHeap) (O : Nat → Value) (o : Obj) (a4 : L = L0 ++ L1) (h : ∀ W, (execOp (rho e) (curO nt k e)).run P W = .ok (.value (O W.heap.size)) { W with heap := W.heap.push o }) (M : cur nt k e = some (curO nt k e))
  (hn : ∀ B, AtM P f nt ops n kk L0 (nextK k) (putE e (curDst nt k e) (O B)) (L ++ [(B, o)]) S w0 R) : AtM P f nt ops n kk L0 k e L S w0 R := by
 intro a7 V
 have a0 : curDst nt k e = (curO nt k e).dst := by simp only [curDst, M]
 rw [a0] at hn
 generalize curO nt k e = o' at h M hn
 obtain ⟨a6, i, rest, k', rfl, Z, a5, a3, hp, a1⟩ := cur_spec M
 simp only [List.cons.injEq, Item.inRegion.injEq] at V
 obtain ⟨⟨rfl, rfl⟩, rfl⟩ := V
 have a2 : dstOf a6 i = o'.dst := by simp only [dstOf, Z]
 refine ⟨⟨L1, a4⟩, o', Z, a1, .inl ⟨a5, a3, hp, fun W hm => .inl ⟨O W.heap.size, _, _, h W, hm.alloc o, ?_⟩⟩⟩
 rw [a2]
 exact hn W.heap.size rest rfl
theorem AtM.call (L1 : SHeap) (g : FuncId) (args : Array Value) {O : SHeap} {K : Value → SHeap → Prop} (a8 : L = L0 ++ L1) (a0 : ∀ W, (execOp (rho e) (curO nt k e)).run P W = .ok (.enter g args) W)
  (M : (cur nt k e, L) = (some (curO nt k e), O)) (h : CallH P g args O S w0 K)
  (hn : ∀ v L', K v L' → AtM P f nt ops n kk L0 (nextK k) (putE e (curDst nt k e) v) L' S w0 R) : AtM P f nt ops n kk L0 k e L S w0 R := by
 intro b3 V
 simp only [Prod.mk.injEq] at M
 obtain ⟨M, rfl⟩ := M
 have a2 : curDst nt k e = (curO nt k e).dst := by simp only [curDst, M]
 rw [a2] at hn
 generalize curO nt k e = o' at a0 M hn
 obtain ⟨b1, i, rest, k', rfl, Z, b0, a7, hp, a3⟩ := cur_spec M
 simp only [List.cons.injEq, Item.inRegion.injEq] at V
 obtain ⟨⟨rfl, rfl⟩, rfl⟩ := V
 have a4 : dstOf b1 i = o'.dst := by simp only [dstOf, Z]
 refine ⟨⟨L1, a8⟩, o', Z, a3, .inl ⟨b0, a7, hp, fun W hm => .inr (.inr ⟨g, args, a0 W, (h W hm).mono fun en b4 a6 => ?_⟩)⟩⟩
 obtain ⟨v, L', a5, a9, a1⟩ := a6
 refine ⟨v, L', a5, a9, ?_⟩
 rw [a4]
 exact hn v L' a1 rest rfl
theorem AtM.opK (L1 : SHeap) {o' : Oper} {L' : SHeap} (a6 : L = L0 ++ L1) (O : cur nt k e = some o') (a7 : ∀ W, Mem L S w0 W → ∃ M, (execOp (rho e) o').run P W = .ok .skip M ∧ Mem L' S w0 M)
  (hn : AtM P f nt ops n kk L0 (nextK k) (putE e (curDst nt k e) undef) L' S w0 R) : AtM P f nt ops n kk L0 k e L S w0 R := by
 intro b0 V
 have a2 : curDst nt k e = o'.dst := by simp only [curDst, O]
 rw [a2] at hn
 obtain ⟨a9, i, rest, k', rfl, Z, a8, a5, hp, a3⟩ := cur_spec O
 simp only [List.cons.injEq, Item.inRegion.injEq] at V
 obtain ⟨⟨rfl, rfl⟩, rfl⟩ := V
 have a4 : dstOf a9 i = o'.dst := by simp only [dstOf, Z]
 refine ⟨⟨L1, a6⟩, o', Z, a3, .inl ⟨a8, a5, hp, fun W hm => .inr (.inl ?_)⟩⟩
 obtain ⟨M, a0, a1⟩ := a7 W hm
 refine ⟨L', M, a0, a1, ?_⟩
 rw [a4]
 exact hn rest rfl
theorem AtM.opW (L1 : SHeap) {o' : Oper} (a8 : L = L0 ++ L1) (O : cur nt k e = some o')
  (a0 : ∀ W, Mem L S w0 W → ∃ v L' M, (execOp (rho e) o').run P W = .ok (.value v) M ∧ Mem L' S w0 M ∧ AtM P f nt ops n kk L0 (nextK k) (putE e (curDst nt k e) v) L' S w0 R) : AtM P f nt ops n kk L0 k e L S w0 R := by
 intro b1 V
 have a4 : curDst nt k e = o'.dst := by simp only [curDst, O]
 rw [a4] at a0
 obtain ⟨b0, i, rest, k', rfl, Z, a9, a7, hp, a5⟩ := cur_spec O
 simp only [List.cons.injEq, Item.inRegion.injEq] at V
 obtain ⟨⟨rfl, rfl⟩, rfl⟩ := V
 have a6 : dstOf b0 i = o'.dst := by simp only [dstOf, Z]
 refine ⟨⟨L1, a8⟩, o', Z, a5, .inl ⟨a9, a7, hp, fun W hm => .inl ?_⟩⟩
 obtain ⟨v, L', M, a1, a2, a3⟩ := a0 W hm
 refine ⟨v, L', M, a1, a2, ?_⟩
 rw [a6]
 exact a3 rest rfl
def hasDst (ops : Array Oper) (j : Nat) (l : List Nat) : Bool := match dstOf ops j with | some d => isIn d l | none => false
def sameDst (ops : Array Oper) (i j : Nat) : Bool := match dstOf ops i with
 | some d => match dstOf ops j with | some d' => Nat.beq d d' | none => false
 | none => false
def bothB (a b : Bool) : Bool := bif a then b else true
def chainM (ops : Array Oper) : List Nat → Bool
 | [] => true
 | [_] => true
 | a :: b :: r => bif isIn a (deps ops b) then chainM ops (b :: r) else false
def ndB : List Nat → Bool
 | [] => true
 | a :: r => bif isIn a r then false else ndB r
def freeOf (e : Env) (o : Option Tmp) : Bool := match o with | some d => (match get? e d with | some _ => false | none => true) | none => true
def chainU (ops : Array Oper) (n : Nat) : Bool := allN (fun t => bif Nat.ble t n then true else anyL (fun s => Nat.ble n s) (deps ops t)) ops.size
def planB (ops : Array Oper) (n1 n : Nat) (e : Env) (F M : List Nat) : Bool :=
 Nat.ble n1 n && (Nat.ble n ops.size && ((Nat.beq n ops.size || (allN (fun i => bif Nat.blt i n1 then true else anyN (fun j => bif Nat.blt i j then isIn i (deps ops j) else false) (n + 1)) n && chainU ops n)) &&
  (allN (fun i => bif Nat.blt i n1 then true else bif isIn i F then !isIn i M else isIn i M) n && (ndB F && (ndB M && (allL (fun i => Nat.ble n1 i && Nat.blt i n) F && (allL (fun i => Nat.ble n1 i && Nat.blt i n) M &&
  (allN (fun i => allL (fun j => Nat.blt j i) (deps ops i)) n && (allN (fun i => bif Nat.blt i n1 then true else freeOf e (dstOf ops i)) n && (chainM ops M &&
  allN (fun i => bif Nat.blt i n1 then true else allN (fun j => bif Nat.blt j n1 then true else bothB (hasDst ops j (slotsAt ops i)) (isIn j (deps ops i)) && bothB (sameDst ops i j) (Nat.beq i j)) n) n))))))))))
theorem ndB_spec : ∀ {l : List Nat}, ndB l = true → l.Nodup
 | [], _ => by simp
 | a :: r, h => by
  simp only [ndB] at h
  cases hb : isIn a r with
  | true => rw [hb] at h; cases h
  | false => rw [hb] at h; exact List.nodup_cons.2 ⟨isIn_no hb, ndB_spec h⟩
theorem isIn_of {i : Nat} {l : List Nat} (h : i ∈ l) : isIn i l = true := by
 cases hb : isIn i l with
 | true => rfl
 | false => exact absurd h (isIn_no hb)
structure Plan (ops : Array Oper) (n1 n : Nat) (e : Env) (F M : List Nat) : Prop where
 le1 : n1 ≤ n
 le : n ≤ ops.size
 sink : n < ops.size → (∀ i, n1 ≤ i → i < n → ∃ j, i < j ∧ j ≤ n ∧ i ∈ deps ops j) ∧ ∀ t, n < t → t < ops.size → ∃ s ∈ deps ops t, n ≤ s
 cover : ∀ i, n1 ≤ i → i < n → i ∈ F ∨ i ∈ M
 apart : ∀ i ∈ F, i ∉ M
 nodF : F.Nodup
 nodM : M.Nodup
 inF : ∀ i ∈ F, n1 ≤ i ∧ i < n
 inM : ∀ i ∈ M, n1 ≤ i ∧ i < n
 back : ∀ i, i < n → ∀ j ∈ deps ops i, j < i
 fresh : ∀ i, n1 ≤ i → i < n → ∀ d, dstOf ops i = some d → get? e d = none
 chain : chainM ops M = true
 reads : ∀ i, n1 ≤ i → i < n → ∀ j, n1 ≤ j → j < n → ∀ d, dstOf ops j = some d → d ∈ slotsAt ops i → j ∈ deps ops i
 dst : ∀ i, n1 ≤ i → i < n → ∀ j, n1 ≤ j → j < n → ∀ d, dstOf ops i = some d → dstOf ops j = some d → i = j
theorem blt_no {a b : Nat} (h : b ≤ a) : Nat.blt a b = false := by
 cases hb : Nat.blt a b with
 | false => rfl
 | true => simp only [Nat.blt_eq] at hb; omega
theorem Plan.of {n1 : Nat} {F a1 : List Nat} (h : planB ops n1 n e F a1 = true) : Plan ops n1 n e F a1 := by
 simp only [planB, Bool.and_eq_true, Bool.or_eq_true] at h
 obtain ⟨a7, b1, Z, a6, b3, b4, b5, b6, a8, a9, b0, a5⟩ := h
 have a2 : ∀ i ∈ F, n1 ≤ i ∧ i < n := fun i hi => by
  have := allL_spec b5 i hi
  simp only [Bool.and_eq_true, Nat.blt_eq] at this
  exact ⟨Nat.le_of_ble_eq_true this.1, this.2⟩
 have b7 : ∀ i ∈ a1, n1 ≤ i ∧ i < n := fun i hi => by
  have := allL_spec b6 i hi
  simp only [Bool.and_eq_true, Nat.blt_eq] at this
  exact ⟨Nat.le_of_ble_eq_true this.1, this.2⟩
 refine ⟨Nat.le_of_ble_eq_true a7, Nat.le_of_ble_eq_true b1, fun c3 => ?_, fun i O hi => ?_, fun i hi hm => ?_, ndB_spec b3, ndB_spec b4, a2, b7, fun i hi j V => ?_, fun i O hi d a0 => ?_, b0, fun i O hi j a3 V d a0 a4 => ?_, fun i O hi j a3 V d a0 b9 => ?_⟩
 ·rcases Z with Z | ⟨Z, h4⟩
  ·have := Nat.eq_of_beq_eq_true Z; omega
  ·refine ⟨fun i O hi => ?_, fun t c4 c2 => ?_⟩
   ·have := allN_spec Z i hi
    simp only [blt_no O, cond_false] at this
    obtain ⟨j, V, M⟩ := anyN_spec this
    cases hc : Nat.blt i j with
    | false => rw [hc] at M; cases M
    | true =>
     rw [hc] at M
     simp only [Nat.blt_eq] at hc
     exact ⟨j, hc, by omega, isIn_spec M⟩
   ·have := allN_spec h4 t c2
    have hn : Nat.ble t n = false := by
     cases M : Nat.ble t n with
     | false => rfl
     | true => have := Nat.le_of_ble_eq_true M; omega
    rw [hn] at this
    obtain ⟨s, a4, M⟩ := anyL_spec this
    exact ⟨s, a4, Nat.le_of_ble_eq_true M⟩
 ·have := allN_spec a6 i hi
  simp only [blt_no O, cond_false] at this
  cases M : isIn i F with
  | true => exact .inl (isIn_spec M)
  | false => rw [M] at this; exact .inr (isIn_spec this)
 ·have := allN_spec a6 i (a2 i hi).2
  simp only [blt_no (a2 i hi).1, cond_false, isIn_of hi, isIn_of hm] at this
  cases this
 ·have := allL_spec (allN_spec a8 i hi) j V
  simpa [Nat.blt_eq] using this
 ·have := allN_spec a9 i hi
  simp only [blt_no O, cond_false, a0, freeOf] at this
  cases hg : get? e d with
  | none => rfl
  | some u => rw [hg] at this; cases this
 ·have := allN_spec a5 i hi
  simp only [blt_no O, cond_false] at this
  have := allN_spec this j V
  simp only [blt_no a3, cond_false, Bool.and_eq_true, hasDst, a0, isIn_of a4, bothB, cond_true] at this
  exact isIn_spec this.1
 ·have := allN_spec a5 i hi
  simp only [blt_no O, cond_false] at this
  have := allN_spec this j V
  have b8 : Nat.beq d d = true := by simp
  simp only [blt_no a3, cond_false, Bool.and_eq_true, sameDst, a0, b9, b8, bothB, cond_true] at this
  exact Nat.eq_of_beq_eq_true this.2
theorem Plan.waits {n1 : Nat} {F a8 : List Nat} (hp : Plan ops n1 n e F a8) (b4 : n < ops.size) {listed : Array Bool} (a2 : HeadInv .any ops n listed) (b3 : ∀ j, j < n1 → listed.getD j false = true) :
  ∀ (d i : Nat), n - i = d → i < n → listed.getD i false = false → ∀ t, n ≤ t → t ∉ Region.ready .any ops listed := by
 obtain ⟨b5, b0⟩ := hp.sink b4
 intro d
 induction d using Nat.strongRecOn with
 | _ d ih =>
  intro i c2 hi M t c5 a7
  have b1 : n1 ≤ i := by
   rcases Nat.lt_or_ge i n1 with h | h
   ·rw [b3 i h] at M; cases M
   ·exact h
  obtain ⟨_, c6, a6, a9⟩ := mem_ready.1 a7
  have b9 : t < ops.size := (Array.getElem?_eq_some_iff.1 a6).1
  have a3 : ∀ j ∈ deps ops t, listed.getD j false = true := fun j a4 => by
   simp only [deps, a6] at a4
   obtain ⟨O, a0, Z, rfl⟩ := depsE_of a4
   exact a9 O (Array.mem_toList_iff.1 a0) Z
  by_cases htn : t = n
  ·subst htn
   obtain ⟨j, c3, c4, a1⟩ := b5 i b1 hi
   by_cases hjt : j = t
   ·subst hjt
    rw [a3 i a1] at M; cases M
   ·cases hl : listed.getD j false with
    | true =>
     have a5 : j < ops.size := by omega
     simp only [deps, Array.getElem?_eq_getElem a5] at a1
     obtain ⟨O, a0, Z, rfl⟩ := depsE_of a1
     rw [a2.closed j _ (Array.getElem?_eq_getElem a5) hl O (Array.mem_toList_iff.1 a0) Z] at M
     cases M
    | false => exact ih (t - j) (by omega) j rfl (by omega) hl t (Nat.le_refl _) a7
  ·obtain ⟨s, b6, b7⟩ := b0 t (by omega) b9
   have V := a3 s b6
   have b8 : s < ops.size := by
    rcases Nat.lt_or_ge s listed.size with h | h
    ·rw [a2.size] at h; exact h
    ·simp [Array.getElem?_eq_none h] at V
   rw [getD_both (a2.tail s b7 b8)] at V
   cases V
theorem firstN_get {n s j : Nat} : (firstN n s)[j]? = if j < n then some true else if j < n + (s - n) then some false else none := by
 simp only [firstN, List.getElem?_toArray]
 split
 ·next h => rw [List.getElem?_append_left (by simpa using h), List.getElem?_replicate, if_pos h]
 ·next h =>
  rw [List.getElem?_append_right (by simpa using h), List.getElem?_replicate, List.length_replicate]
  split
  ·next h' => rw [if_pos (by omega)]
  ·next h' => rw [if_neg (by omega)]
theorem firstN_lt {n s j : Nat} (h : j < n) : (firstN n s).getD j false = true := by rw [Array.getD_eq_getD_getElem?, firstN_get, if_pos h]; rfl
theorem firstN_ge {n s j : Nat} (h : n ≤ j) : (firstN n s).getD j false = false := by
 rw [Array.getD_eq_getD_getElem?, firstN_get, if_neg (by omega)]
 split <;> rfl
theorem firstN_size {n s : Nat} (h : n ≤ s) : (firstN n s).size = s := by simp [firstN]; omega
theorem firstN_zero (s : Nat) : firstN 0 s = Array.replicate s false := by simp [firstN, ← List.toArray_replicate]
theorem chainM_head {h : Nat} : ∀ {r : List Nat}, chainM ops (h :: r) = true → ∀ m ∈ r, ∃ p ∈ h :: r, p ∈ deps ops m
 | b :: r, hc, m, hm => by
  simp only [chainM] at hc
  cases hb : isIn h (deps ops b) with
  | false => rw [hb] at hc; cases hc
  | true =>
   rw [hb] at hc
   cases hm with
   | head => exact ⟨h, .head _, isIn_spec hb⟩
   | tail _ hm =>
    obtain ⟨p, hp, M⟩ := chainM_head (h := b) hc m hm
    exact ⟨p, .tail _ hp, M⟩
theorem chainM_tail {h : Nat} : ∀ {r : List Nat}, chainM ops (h :: r) = true → chainM ops r = true
 | [], _ => rfl
 | b :: r, hc => by
  simp only [chainM] at hc
  cases hb : isIn h (deps ops b) with
  | false => rw [hb] at hc; cases hc
  | true => rw [hb] at hc; exact hc
def cntF (listed : Array Bool) : Nat → Nat
 | 0 => 0
 | n + 1 => cntF listed n + bif listed.getD n false then 0 else 1
theorem cntF_ge {listed : Array Bool} {i : Nat} : ∀ {n : Nat}, n ≤ i → cntF (listed.setIfInBounds i true) n = cntF listed n
 | 0, _ => rfl
 | n + 1, h => by simp only [cntF]; rw [cntF_ge (by omega), getD_set_ne false (by omega)]
theorem cntF_set {listed : Array Bool} {i : Nat} (hi : i < listed.size) (M : listed.getD i false = false) : ∀ {n : Nat}, i < n → cntF listed n = cntF (listed.setIfInBounds i true) n + 1
 | n + 1, h => by
  simp only [cntF]
  by_cases hc : i = n
  ·subst hc
   rw [cntF_ge (Nat.le_refl _), M]
   have : (listed.setIfInBounds i true).getD i false = true := by simp [hi]
   rw [this]; rfl
  ·rw [cntF_set hi M (by omega), getD_set_ne false hc]; omega
theorem cntF_zero {listed : Array Bool} : ∀ {n : Nat}, cntF listed n = 0 → ∀ i, i < n → listed.getD i false = true
 | n + 1, h, i, hi => by
  simp only [cntF] at h
  by_cases hc : i = n
  ·subst hc
   cases hb : listed.getD i false with
   | true => rfl
   | false => rw [hb] at h; simp at h
  ·exact cntF_zero (listed := listed) (n := n) (by omega) i (by omega)
theorem cntF_full {listed : Array Bool} : ∀ {n : Nat}, (∀ i, i < n → listed.getD i false = true) → cntF listed n = 0
 | 0, _ => rfl
 | n + 1, h => by simp only [cntF]; rw [cntF_full fun i hi => h i (by omega), h n (by omega)]; rfl
theorem cntF_first {n1 s : Nat} : ∀ {n : Nat}, n1 ≤ n → cntF (firstN n1 s) n = n - n1
 | 0, _ => by simp [cntF]
 | n + 1, h => by
  simp only [cntF]
  by_cases hc : n1 = n + 1
  ·subst hc
   rw [cntF_full (fun i hi => firstN_lt (by omega)), firstN_lt (by omega)]; simp
  ·rw [cntF_first (by omega), firstN_ge (by omega)]
   show n - n1 + 1 = n + 1 - n1
   omega
theorem least_un {listed : Array Bool} {n : Nat} (h : cntF listed n ≠ 0) : ∃ i, i < n ∧ listed.getD i false = false ∧ ∀ j, j < i → listed.getD j false = true := by
 have M : ∃ i, i < n ∧ listed.getD i false = false := by
  apply Classical.byContradiction
  intro a0
  refine h (cntF_full fun i hi => ?_)
  cases O : listed.getD i false with
  | true => rfl
  | false => exact absurd ⟨i, hi, O⟩ a0
 obtain ⟨i, hi, O⟩ := M
 induction i using Nat.strongRecOn with
 | _ i ih =>
  by_cases M : ∃ j, j < i ∧ listed.getD j false = false
  ·obtain ⟨j, V, Z⟩ := M
   exact ih j V (by omega) Z
  ·refine ⟨i, hi, O, fun j V => ?_⟩
   cases hb' : listed.getD j false with
   | true => rfl
   | false => exact absurd ⟨j, V, hb'⟩ M
theorem put_ne {t : Array Value} {d : Option Tmp} {v : Value} {s : Nat} (h : d ≠ some s) : ((Act.mk t []).put d v).tmps[s]? = t[s]? := by
 cases d with
 | none => rfl
 | some d =>
  have : d ≠ s := fun M => h (by rw [M])
  simp [Act.put, this]
theorem put_same {t : Array Value} {d : Tmp} {v : Value} (h : d < t.size) : ((Act.mk t []).put (some d) v).tmps[d]? = some v := by
 simp [Act.put, h]
theorem put_size {t : Array Value} {d : Option Tmp} {v : Value} : ((Act.mk t []).put d v).tmps.size = t.size := by
 cases d <;> simp [Act.put]
structure InvM (nt : Nat) (ops : Array Oper) (n : Nat) (val : Nat → Value) (F M : List Nat) (e : Env) (n1 : Nat) (M2 : List Nat) (E : Env) (listed : Array Bool) (t : Array Value) : Prop where
 head : HeadInv .any ops n listed
 base : Knows nt e t
 free : ∀ j ∈ F, listed.getD j false = true → ∀ d, dstOf ops j = some d → t[d]? = some (val j)
 sub : ∀ j ∈ M2, j ∈ M ∧ listed.getD j false = false
 nod : M2.Nodup
 ch : chainM ops M2 = true
 env : ∀ s v, get? E s = some v → get? e s = some v ∨ (∃ j ∈ F, dstOf ops j = some s ∧ val j = v) ∨ ∃ j ∈ M, listed.getD j false = true ∧ dstOf ops j = some s ∧ t[s]? = some v
 mid : ∀ j ∈ M, listed.getD j false = false → j ∈ M2
 low : ∀ j, j < n1 → listed.getD j false = true
theorem InvM.next {n1 : Nat} {val : Nat → Value} {F a2 a6 a3 : List Nat} {E E' : Env} {listed : Array Bool} {t : Array Value} {i : Nat} {o : Oper} {v : Value} (hp : Plan ops n1 n e F a2) (O : InvM nt ops n val F a2 e n1 a6 E listed t)
  (b0 : ops[i]? = some o) (b1 : dstOk nt o.dst = true) (b7 : i ∈ Region.ready .any ops listed) (b4 : n1 ≤ i) (a8 : i < n)
  (c8 : i ∈ F → val i = v) (c6 : ∀ j ∈ a3, j ∈ a6 ∧ j ≠ i) (c5 : a3.Nodup) (c3 : chainM ops a3 = true) (c4 : ∀ j ∈ a6, j ≠ i → j ∈ a3)
  (c2 : ∀ s u, get? E' s = some u → (o.dst ≠ some s ∧ get? E s = some u) ∨ (i ∈ a2 ∧ o.dst = some s ∧ u = v) ∨ (i ∈ F ∧ get? E s = some u)) :
  InvM nt ops n val F a2 e n1 a3 E' (listed.setIfInBounds i true) ((Act.mk t []).put o.dst v).tmps := by
 have a5 : dstOf ops i = o.dst := by simp only [dstOf, b0]
 have c7 : listed.getD i false = false := getD_both (mem_ready.1 b7).1
 have b5 : ∀ j, listed.getD j false = true → i ≠ j := fun j M h => by rw [← h, c7] at M; cases M
 have b3 : ∀ j, n1 ≤ j ∧ j < n → i ≠ j → ∀ d, dstOf ops j = some d → o.dst ≠ some d := fun j M V d a1 h => V (hp.dst i b4 a8 j M.1 M.2 d (by rw [a5]; exact h) a1)
 have b6 : ∀ d, o.dst = some d → ((Act.mk t []).put o.dst v).tmps[d]? = some v := fun d h => by
  rw [h]; rw [h] at b1; exact put_same (by rw [O.base.size]; exact Nat.le_of_ble_eq_true b1)
 refine ⟨O.head.set b7 a8, ⟨by rw [put_size]; exact O.base.size, fun s u a4 => ?_⟩, fun j M a0 d a1 => ?_, fun j M => ?_, c5, c3, fun s u a4 => ?_, fun j M a0 => ?_, fun j M => ?_⟩
 ·rw [put_ne]
  ·exact O.base.slot s u a4
  ·intro h
   have := hp.fresh i b4 a8 s (by rw [a5]; exact h)
   rw [this] at a4; cases a4
 ·by_cases V : i = j
  ·subst V
   rw [c8 M]
   exact b6 d (by rw [← a5]; exact a1)
  ·rw [getD_set_ne false V] at a0
   rw [put_ne (b3 j (hp.inF j M) V d a1)]
   exact O.free j M a0 d a1
 ·obtain ⟨a7, Z⟩ := c6 j M
  obtain ⟨b8, b9⟩ := O.sub j a7
  exact ⟨b8, by rw [getD_set_ne false (Ne.symm Z)]; exact b9⟩
 ·have old : get? E s = some u → get? e s = some u ∨ (∃ j ∈ F, dstOf ops j = some s ∧ val j = u) ∨ ∃ j ∈ a2, (listed.setIfInBounds i true).getD j false = true ∧ dstOf ops j = some s ∧ ((Act.mk t []).put o.dst v).tmps[s]? = some u := by
   intro Z
   rcases O.env s u Z with h | h | ⟨j, M, a0, a1, ht⟩
   ·exact .inl h
   ·exact .inr (.inl h)
   ·have V := b5 j a0
    exact .inr (.inr ⟨j, M, by rw [getD_set_ne false V]; exact a0, a1, by rw [put_ne (b3 j (hp.inM j M) V s a1)]; exact ht⟩)
  rcases c2 s u a4 with ⟨_, Z⟩ | ⟨a7, Z, rfl⟩ | ⟨_, Z⟩
  ·exact old Z
  ·have a9 : i < listed.size := by rw [O.head.size]; exact (Array.getElem?_eq_some_iff.1 b0).1
   exact .inr (.inr ⟨i, a7, by simp [a9], by rw [a5]; exact Z, b6 s Z⟩)
  ·exact old Z
 ·have V : i ≠ j := fun h => by
   subst h
   have a9 : i < listed.size := by rw [O.head.size]; exact (Array.getElem?_eq_some_iff.1 b0).1
   simp [a9] at a0
  rw [getD_set_ne false V] at a0
  exact c4 j (O.mid j M a0) (Ne.symm V)
 ·rw [getD_set_ne false (b5 j (O.low j M))]; exact O.low j M
theorem drawM_go {n1 : Nat} {val : Nat → Value} {F c3 : List Nat} (hp : Plan ops n1 n e F c3) (a5 : ∀ i ∈ F, ∃ e', StepQ P nt ops L0 S w0 i e' (val i) ∧ Src' ops val F e e') :
  ∀ (c : Nat) (listed : Array Bool) (t : Array Value) (W : World) (E : Env) (L : SHeap) (Z : List Nat) (τ : Nat), cntF listed n = c → InvM nt ops n val F c3 e n1 Z E listed t → Mem L S w0 W →
   AtMl P f nt ops n kk L0 S w0 R Z E L → At P f (.inRegion ops (Region.linearise.go .any ops (c + (ops.size - n)) τ listed []) :: kk) t W R
 | 0, listed, t, W, E, L, Z, τ, hc, inv, hm, h => by
  have b1 := cntF_zero hc
  have e3 : Z = [] := by
   cases Z with
   | nil => rfl
   | cons m r =>
    obtain ⟨a4, c7⟩ := inv.sub m (.head _)
    rw [b1 m (hp.inM m a4).2] at c7; cases c7
  subst e3
  have f3 : listed = firstN n ops.size := by
   apply Array.ext_getElem?
   intro j
   have g5 := inv.head.size
   have g4 := hp.le
   rw [firstN_get]
   split
   ·next a4 =>
    have := b1 j a4
    have b6 : j < listed.size := by omega
    rw [Array.getD_eq_getD_getElem?, Array.getElem?_eq_getElem b6] at this
    simp only [Option.getD_some] at this
    rw [Array.getElem?_eq_getElem b6, this]
   ·next a4 =>
    split
    ·next c7 =>
     have := inv.head.tail j (by omega) (by omega)
     have b6 : j < listed.size := by omega
     rw [Array.getD_eq_getD_getElem?, Array.getElem?_eq_getElem b6] at this
     simp only [Option.getD_some] at this
     rw [Array.getElem?_eq_getElem b6, this]
    ·rw [Array.getElem?_eq_none (by omega)]
  rw [Nat.zero_add, f3]
  refine h.2 τ t W ⟨inv.base.size, fun s v O => ?_⟩ hm
  rcases inv.env s v O with h | ⟨j, M, a1, rfl⟩ | ⟨j, M, hl, a1, ht⟩
  ·exact inv.base.slot s v h
  ·exact inv.free j M (b1 j (hp.inF j M).2) s a1
  ·exact ht
 | c + 1, listed, t, W, E, L, Z, τ, hc, inv, hm, h => by
  rw [show c + 1 + (ops.size - n) = (c + (ops.size - n)) + 1 by omega, go_cons]
  obtain ⟨b0, d7, e2, e5⟩ := least_un (listed := listed) (n := n) (by omega)
  have g3 : listed.getD b0 true = false := getD_in (by rw [inv.head.size]; have := hp.le; omega) e2
  have e8 : b0 ∈ Region.ready .any ops listed := by
   have b7 : b0 < ops.size := by have := hp.le; omega
   refine mem_ready.2 ⟨g3, ops[b0], Array.getElem?_eq_getElem b7, fun d4 d0 a6 => e5 _ (hp.back b0 d7 _ ?_)⟩
   simp only [deps, Array.getElem?_eq_getElem b7]
   exact depsE_mem (Array.mem_toList_iff.2 d0) a6
  have f6 : 0 < (Region.ready .any ops listed).length := List.length_pos_of_mem e8
  have b7 : τ % (Region.ready .any ops listed).length < (Region.ready .any ops listed).length := Nat.mod_lt _ f6
  rw [List.getElem?_eq_getElem b7]
  have b9 := List.getElem_mem b7
  generalize (Region.ready .any ops listed)[τ % (Region.ready .any ops listed).length] = i at b9
  generalize τ / (Region.ready .any ops listed).length = τ'
  simp only
  obtain ⟨d3, o, V, b1⟩ := mem_ready.1 b9
  have f2 : i < ops.size := (Array.getElem?_eq_some_iff.1 V).1
  have b4 : i < n := by
   rcases Nat.lt_or_ge i n with a0 | a0
   ·exact a0
   ·exact absurd b9 (hp.waits (by omega) inv.head inv.low _ b0 rfl d7 e2 i a0)
  have c5 : n1 ≤ i := by
   rcases Nat.lt_or_ge i n1 with a0 | a0
   ·have := inv.low i a0
    rw [getD_both d3] at this; cases this
   ·exact a0
  have e6 : dstOf ops i = o.dst := by simp only [dstOf, V]
  have d5 : ∀ j ∈ deps ops i, listed.getD j false = true := fun j M => by
   simp only [deps, V] at M
   obtain ⟨d4, d0, a6, rfl⟩ := depsE_of M
   exact b1 d4 (Array.mem_toList_iff.1 d0) a6
  have f8 : slotsAt ops i = slotsOf ops o := by simp only [slotsAt, V]
  have d6 : ∀ s, s ∈ slotsOf ops o → ∀ j ∈ F, dstOf ops j = some s → t[s]? = some (val j) := fun s O j M a1 =>
   inv.free j M (d5 j (hp.reads i c5 b4 j (hp.inF j M).1 (hp.inF j M).2 s a1 (by rw [f8]; exact O))) s a1
  have a8 : cntF (listed.setIfInBounds i true) n = c := by
   have := cntF_set (by rw [inv.head.size]; exact f2) (getD_both d3) b4
   omega
  rcases hp.cover i c5 b4 with b3 | hiM
  ·
   obtain ⟨e', ⟨o', d1, c9, c8⟩, f9⟩ := a5 i b3
   have d2 : o' = o := Option.some.inj (d1.symm.trans V)
   subst d2
   have a2 : On ops o' e' t := fun s O v c2 => by
    rcases f9 s v c2 with a4 | ⟨j, M, a1, rfl⟩
    ·exact inv.base.slot s v a4
    ·exact d6 s O j M a1
   have e4 : ∀ j ∈ Z, j ≠ i := fun j M b5 => hp.apart i b3 (by rw [← b5]; exact (inv.sub j M).1)
   have a3 : InvM nt ops n val F c3 e n1 Z E (listed.setIfInBounds i true) ((Act.mk t []).put o'.dst (val i)).tmps :=
    inv.next hp V c9 b9 c5 b4 (fun _ => rfl) (fun j M => ⟨M, e4 j M⟩) inv.nod inv.ch (fun j M _ => M) (fun s u O => .inr (.inr ⟨b3, O⟩))
   have f7 : ∃ L1, L = L0 ++ L1 := by cases Z <;> exact h.1
   have g2 : ∀ W, Mem L S w0 W → Mem L0 S w0 W := fun W hm => by
    obtain ⟨L1, rfl⟩ := f7
    exact ⟨by have := hm.nodup; rw [List.map_append] at this; exact (List.nodup_append.1 this).1, fun p hp => hm.here p (List.mem_append_left _ hp), fun p hp => hm.own p (List.mem_append_left _ hp), hm.kept⟩
   rcases c8 with ⟨hw, hkn, hpl, hx⟩ | ⟨hw, c2⟩
   ·have a9 := execOp_congr (Act.mk t []).eval (rho e') o' hpl (a2.rho hkn [])
    rcases hx W (g2 W hm) with hx | ⟨g, args, hx, hcalls⟩
    ·rw [← a9] at hx
     exact At.value V (a2.wanted hw) hx (drawM_go hp a5 c _ _ _ E L Z τ' a8 a3 hm h)
    ·rw [← a9] at hx
     refine At.enter V (a2.wanted hw) hx (hcalls.mono fun en c6 c4 => ⟨val i, c4.1, ?_⟩)
     exact drawM_go hp a5 c _ _ _ E L Z τ' a8 a3 (hm.after c4.2) h
   ·rw [c2] at a3
    exact At.unwanted V (a2.wanted hw) (drawM_go hp a5 c _ _ _ E L Z τ' a8 a3 hm h)
  ·
   have d8 : i ∈ Z := inv.mid i hiM (getD_both d3)
   cases Z with
   | nil => cases d8
   | cons m r =>
    have e9 : i = m := by
     cases d8 with
     | head => rfl
     | tail _ hir =>
      obtain ⟨p, f5, f4⟩ := chainM_head inv.ch i hir
      have := d5 p f4
      rw [(inv.sub p f5).2] at this; cases this
    subst e9
    obtain ⟨_, o', d1, c9, c8⟩ := h
    have d2 : o' = o := Option.some.inj (d1.symm.trans V)
    subst d2
    have a2 : On ops o' E t := fun s O v c2 => by
     rcases inv.env s v c2 with a4 | ⟨j, M, a1, rfl⟩ | ⟨j, M, hl, a1, ht⟩
     ·exact inv.base.slot s v a4
     ·exact d6 s O j M a1
     ·exact ht
    have d9 := List.nodup_cons.1 inv.nod
    have a3 : ∀ v, InvM nt ops n val F c3 e n1 r (putE E (dstOf ops i) v) (listed.setIfInBounds i true) ((Act.mk t []).put o'.dst v).tmps := fun v =>
     inv.next hp V c9 b9 c5 b4 (fun b3 => absurd hiM (hp.apart i b3)) (fun j M => ⟨.tail _ M, fun b5 => d9.1 (b5 ▸ M)⟩) d9.2 (chainM_tail inv.ch)
      (fun j M b5 => by cases M with | head => exact absurd rfl b5 | tail _ M => exact M) (fun s u O => by
       rw [e6] at O
       cases hod : o'.dst with
       | none => rw [hod] at O; exact .inl ⟨by simp, O⟩
       | some d =>
        rw [hod] at O
        simp only [putE, get?] at O
        cases a6 : Nat.beq d s with
        | true =>
         rw [a6] at O
         simp only [cond_true, Option.some.injEq] at O
         exact .inr (.inl ⟨hiM, by rw [Nat.eq_of_beq_eq_true a6], O.symm⟩)
        | false =>
         rw [a6] at O
         refine .inl ⟨fun a0 => ?_, O⟩
         simp only [Option.some.injEq] at a0
         subst a0
         simp at a6)
    rcases c8 with ⟨hw, hkn, hpl, hx⟩ | ⟨hw, a7⟩
    ·have a9 := execOp_congr (Act.mk t []).eval (rho E) o' hpl (a2.rho hkn [])
     rcases hx W hm with ⟨v, L', c6, hx, b8, a7⟩ | ⟨L', c6, hx, b8, a7⟩ | ⟨g, args, hx, hcalls⟩
     ·rw [← a9] at hx
      exact At.value V (a2.wanted hw) hx (drawM_go hp a5 c _ _ _ _ L' r τ' a8 (a3 v) b8 a7)
     ·rw [← a9] at hx
      exact At.skipv V (a2.wanted hw) hx (drawM_go hp a5 c _ _ _ _ L' r τ' a8 (a3 undef) b8 a7)
     ·rw [← a9] at hx
      refine At.enter V (a2.wanted hw) hx (hcalls.mono fun en c6 c4 => ?_)
      obtain ⟨v, L', e7, b8, a7⟩ := c4
      exact ⟨v, e7, drawM_go hp a5 c _ _ _ _ L' r τ' a8 (a3 v) b8 a7⟩
    ·exact At.unwanted V (a2.wanted hw) (drawM_go hp a5 c _ _ _ _ L r τ' a8 (a3 undef) hm a7)
theorem AtD.phase {n1 : Nat} (n : Nat) (F V : List Nat) (L0 : SHeap) (a9 : planB ops n1 n e F V = true) {L1 : SHeap} (b5 : L = L0 ++ L1)
  (h : AtF P nt [.inRegion ops F] e L0 S w0 fun Z => AtM P f nt ops n kk L0 [.inRegion ops V] Z L S w0 R) : AtD P f nt ops n1 kk e L S w0 R := by
 have hp := Plan.of a9
 obtain ⟨val, a8⟩ := h _ F rfl hp.nodF
 obtain ⟨a2, e', ⟨Z, a6, a3⟩, b3⟩ := FreeF.get (F0 := F) (e0 := e) (fun i hi => hi) (fun s v a0 => .inl a0) a8
 intro τ t w hkn hmm
 have b7 := hp.le
 have b0 := hp.le1
 have a5 : cntF (firstN n1 ops.size) n = n - n1 := cntF_first b0
 have key := drawM_go (f := f) (kk := kk) (R := R) hp a2 (n - n1) (firstN n1 ops.size) t w Z L V τ a5
  ⟨⟨firstN_size (by omega), fun j b9 b1 O a1 a7 a4 => ?_, fun t b8 b4 => getD_in (by rw [firstN_size (by omega)]; exact b4) (firstN_ge (by omega))⟩, hkn,
   fun j M O => (by rw [firstN_ge (hp.inF j M).1] at O; cases O), fun j M => ⟨M, firstN_ge (hp.inM j M).1⟩, hp.nodM, hp.chain, fun s v a0 => by
    rcases b3 s v (a6 s v a0) with h | h
    ·exact .inl h
    ·exact .inr (.inl h), fun j M _ => M, fun j M => firstN_lt M⟩ hmm (a3 V rfl)
 ·rw [show n - n1 + (ops.size - n) = ops.size - n1 by omega] at key
  exact key
 ·have b6 : j < n1 := by
   rcases Nat.lt_or_ge j n1 with h | h
   ·exact h
   ·rw [firstN_ge h] at O; cases O
  have := hp.back j (by omega) a1.on (by simp only [deps, b1]; exact depsE_mem (Array.mem_toList_iff.2 a7) a4)
  exact firstN_lt (by omega)
theorem AtD.tail (h : Region.seqB .any ops (ops.size - n) n (firstN n ops.size) = true) (hn : AtE P f nt (tailK ops n kk) e L S w0 R) : AtD P f nt ops n kk e L S w0 R := by
 intro t
 rw [go_seq _ n t _ h]
 exact hn
theorem AtD.norm {e' : Env} {L' : SHeap} (hn : AtD P f nt ops n kk e' L' S w0 R) (h : (restrict e (e'.map (·.1)), L) = (some e', L')) : AtD P f nt ops n kk e L S w0 R := by
 simp only [Prod.mk.injEq] at h
 obtain ⟨h, rfl⟩ := h
 intro τ t W hk hm
 exact hn τ t W ⟨hk.size, fun i v M => hk.slot i v (restrict_get h i v M)⟩ hm
theorem AtD.front {b : Nat × Obj} (hn : AtD P f nt ops n kk e (b :: L) S w0 R) : AtD P f nt ops n kk e (L ++ [b]) S w0 R := fun t => AtE.front (hn t)
theorem AtE.drawD (V : (isDraw k, P.follows .mixedOrders) = (true, true)) (h : AtD P f nt (regOps k) 0 (restK k) e L S w0 R) : AtE P f nt k e L S w0 R := by
 simp only [Prod.mk.injEq] at V
 obtain ⟨O, a1⟩ := V
 unfold isDraw at O
 split at O
 ·next id ops k' =>
  have a2 : ∀ τ, Region.schedule (P.follows .mixedOrders) ops τ = Region.linearise.go .any ops ops.size τ (Array.replicate ops.size false) [] := fun τ => by
   simp only [Region.schedule, a1, Bool.true_or, if_true]; rfl
  intro t w a0 M
  refine At.step (k' := .inRegion ops (Region.schedule (P.follows .mixedOrders) ops (w.tape w.drawn (.order f id))) :: k') (t' := t) (w' := { w with drawn := w.drawn + 1 })
   (fun b cs Z => by have := rstep_region_draw (P := P) (b := b) (a := ⟨t, R.ds⟩) (k := k') (cs := cs) (w := w) (id := id) (ops := ops); rw [Z] at this; exact this) ?_
  rw [a2]
  have key := h (w.tape w.drawn (.order f id)) t { w with drawn := w.drawn + 1 } a0 ⟨M.nodup, M.here, M.own, ⟨M.kept.os, M.kept.tape, M.kept.output, M.kept.size, M.kept.block⟩⟩
  simp only [regOps, restK, firstN_zero, Nat.sub_zero] at key
  exact key
 ·cases O
end
theorem AtE.ru {P : Program} {f nt : Nat} {k : List Item} {e : Env} {L : SHeap} {S : List Nat} {w0 : World} {R : Goal P} (n : Nat) (hn : AtE P f nt (kN P nt n k e) (eN P nt n k e) L S w0 R)
  (h : ∀ W, Eng.run P nt n k e W = some (kN P nt n k e, eN P nt n k e, W) := by intro W; kernel_rfl) : AtE P f nt k e L S w0 R := AtE.run n h hn
theorem AtF.pu {P : Program} {nt : Nat} {k : List Item} {e : Env} {L : SHeap} {S : List Nat} {w0 : World} {K : Env → Prop} (hn : AtF P nt (nextK k) (putE e (curDst nt k e) (vQ P nt k e)) L S w0 K)
  (M : cur nt k e = some (curO nt k e) := by kernel_rfl) (h : ∀ W, (execOp (rho e) (curO nt k e)).run P W = .ok (.value (vQ P nt k e)) W := by intro W; kernel_rfl) : AtF P nt k e L S w0 K := AtF.pure M h hn
theorem AtQ.pu {P : Program} {f nt : Nat} {ops : Array Oper} {n : Nat} {kk : List Item} {k : List Item} {e : Env} {L : SHeap} {S : List Nat} {w0 : World} {R : Goal P} (hn : AtQ P f nt ops n kk (nextK k) (putE e (curDst nt k e) (vQ P nt k e)) L S w0 R)
  (M : cur nt k e = some (curO nt k e) := by kernel_rfl) (h : ∀ W, (execOp (rho e) (curO nt k e)).run P W = .ok (.value (vQ P nt k e)) W := by intro W; kernel_rfl) : AtQ P f nt ops n kk k e L S w0 R := AtQ.pure M h hn
section
variable {P : Program} {f nt : Nat} {k : List Item} {e : Env} {L : SHeap} {S : List Nat} {w0 : World} {R : Goal P}
def InlR (P : Program) (f nt : Nat) (k : List Item) (e : Env) (d : Option Tmp) (S : List Nat) (w0 : World) (R : Goal P) : Ending → World → Prop :=
 fun en W' => (∃ v L', en = .returned v ∧ Mem L' S w0 W' ∧ AtE P f nt k (putE e d v) L' S w0 R) ∨ ∃ ch L', en = .panicked ch ∧ Mem L' S w0 W' ∧ RaiseE P f nt e ch L' S w0 R
theorem AtE.inl (g : FuncId) (args : Array Value) (V : ∀ W, (execOp (rho e) (curO nt k e)).run P W = .ok (.enter g args) W)
  (O : cur nt k e = some (curO nt k e)) (h : ∀ W, Mem L S w0 W → Calls P g args W (InlR P f nt (nextK k) e (curDst nt k e) S w0 R)) : AtE P f nt k e L S w0 R :=
 AtE.callP (K := fun v L' => AtE P f nt (nextK k) (putE e (curDst nt k e) v) L' S w0 R) (K' := fun M L' => RaiseE P f nt e M L' S w0 R) g args V (by rw [← O]) (fun W hm => h W hm) (fun _ _ h => h) (fun _ _ h => h)
theorem Fin.inl {f' M : Nat} {k' : List Item} {e' : Env} {d : Option Tmp} {v : Value} (h : AtE P f' M k' (putE e' d v) L S w0 R) : Fin (InlR P f' M k' e' d S w0 R) L S w0 v :=
 fun _ hm => .inl ⟨v, L, rfl, hm, h⟩
theorem AtE.retK {f' O : Nat} {k' : List Item} {e' : Env} {d : Option Tmp} {fn : Func} {v : Value} (V : P.funcs[f]? = some fn) (M : (isRet k, retV e fn.results.toList) = (true, some v))
  (h : AtE P f' O k' (putE e' d v) L S w0 R) : AtE P f nt k e L S w0 (nrm (InlR P f' O k' e' d S w0 R)) := by
 simp only [Prod.mk.injEq] at M
 exact AtE.ret (v := v) (L1 := L) V (by rw [M.1, M.2]) (Fin.inl h)
end
section
variable {P : Program} {f nt : Nat} {k : List Item} {e : Env} {L : SHeap} {S : List Nat} {w0 : World} {G : Goal P}
def RoundsR (P : Program) (l fn : Nat) (tmps : Array Value) (assign body : Code) (W : World) (R : Value → World → Prop) : Prop :=
 ∀ (c : Frame) (cs : List Frame), ∃ v w', R v w' ∧ Steps P (lone (Frame.round l fn tmps assign body .normal) (c :: cs) W) (lone (c.finish v) cs w')
def YieldH (P : Program) (l : Nat) (args : Array Value) (L : SHeap) (S : List Nat) (w0 : World) (K : Value → SHeap → Prop) : Prop :=
 ∀ W, Mem L S w0 W → ∃ fn tmps assign body, (Instr.yield l args).run P W = .ok (.round l fn tmps assign body) W ∧ RoundsR P l fn tmps assign body W fun v W' => ∃ L', Mem L' S w0 W' ∧ K v L'
theorem YieldH.mono {l : Nat} {args : Array Value} {K K' : Value → SHeap → Prop} (h : YieldH P l args L S w0 K) (a1 : ∀ v L', K v L' → K' v L') : YieldH P l args L S w0 K' := by
 intro W hm
 obtain ⟨fn, tmps, assign, body, M, O⟩ := h W hm
 refine ⟨fn, tmps, assign, body, M, fun c cs => ?_⟩
 obtain ⟨v, w', ⟨L', V, Z⟩, a0⟩ := O c cs
 exact ⟨v, w', ⟨L', V, a1 v L' Z⟩, a0⟩
theorem AtE.yield (l : Nat) (args : Array Value) {L1 : SHeap} {K : Value → SHeap → Prop} (a0 : ∀ W, (execOp (rho e) (curO nt k e)).run P W = (Instr.yield l args).run P W)
  (M : (cur nt k e, L) = (some (curO nt k e), L1)) (h : YieldH P l args L1 S w0 K)
  (hn : ∀ v L', K v L' → AtE P f nt (nextK k) (putE e (curDst nt k e) v) L' S w0 G) : AtE P f nt k e L S w0 G := by
 intro t W O hm b cs a3
 simp only [Prod.mk.injEq] at M
 obtain ⟨M, rfl⟩ := M
 have a4 : curDst nt k e = (curO nt k e).dst := by simp only [curDst, M]
 rw [a4] at hn
 generalize curO nt k e = o at M a0 hn
 obtain ⟨ops, i, rest, k', rfl, Z, b5, a9, b1, a5⟩ := cur_spec M
 obtain ⟨fn, tmps, assign, body, b6, a2⟩ := h W hm
 have V := a0 W
 rw [b6, ← execOp_congr (Act.mk t []).eval (rho e) o b1 (O.rho a9 [])] at V
 have b3 : (execOp (Act.mk t G.ds).eval o).run P W = .ok (.round l fn tmps assign body) W := V
 have a8 := rstepG_op (P := P) (b := b) (a := ⟨t, G.ds⟩) (k := k') (cs := cs) (w := W) (rest := rest) Z (O.wanted b5) (.inr (not_defer V rfl))
 obtain ⟨v, w', ⟨L', b0, a1⟩, b4⟩ := a2 (rt b ⟨t, G.ds⟩ (.inRegion ops (i :: rest) :: k')) cs
 have a6 : Go.step P (lone (rt b ⟨t, G.ds⟩ (.inRegion ops (i :: rest) :: k')) cs W) =
   .next (lone (Frame.round l fn tmps assign body .normal) (rt b ⟨t, G.ds⟩ (.inRegion ops (i :: rest) :: k') :: cs) W) :=
  step_lone_go (by rw [a8]; simp [stepG.apply, b3, rt, Frame.at])
 have a7 : (rt b ⟨t, G.ds⟩ (.inRegion ops (i :: rest) :: k')).finish v = rt b ⟨((Act.mk t []).put o.dst v).tmps, G.ds⟩ (.inRegion ops rest :: k') := by
  rw [rt_finish, Z]
  show rt b ((Act.mk t G.ds).put o.dst v) _ = _
  rw [put_eta]
 refine G.back _ _ _ _ (.head a6 b4) ?_
 rw [a7]
 exact hn v L' a1 _ w' (O.put a5 v []) b0 b cs a3
def rnd {P : Program} (l : Nat) (R : Value → World → Prop) : Goal P where
 ds := []
 ok b cs m := b.kind = .normal → b.roundOf = some l → ∀ c cs', cs = c :: cs' → ∃ v w', R v w' ∧ Steps P m (lone (c.finish v) cs' w')
 back b cs m m1 hs h hk hq c cs' hc := by
  obtain ⟨v, w', h1, h2⟩ := h hk hq c cs' hc
  exact ⟨v, w', h1, Steps.trans hs h2⟩
theorem AtE.rounds {l : Nat} {assign body : Code} {tmps : Array Value} {W : World} {R : Value → World → Prop} (M : Knows nt e tmps) (hm : Mem L S w0 W)
  (h : AtE P f nt [.code assign, .beginRound, .code body] e L S w0 (rnd l R)) : RoundsR P l f tmps assign body W R := fun c cs =>
 h tmps W M hm { (default : Frame) with fn := f, kind := .normal, roundOf := some l } (c :: cs) rfl rfl rfl c cs rfl
def rfP : Code → Array Tmp
 | .rangeFunc _ ps _ _ => ps
 | _ => #[]
def rfA : Code → Code
 | .rangeFunc _ _ a _ => a
 | _ => .skip
def rfB : Code → Code
 | .rangeFunc _ _ _ c => c
 | _ => .skip
def rfG : Code → Operand
 | .rangeFunc g _ _ _ => g
 | _ => .const undef
def isRf : Code → Bool
 | .rangeFunc _ _ _ _ => true
 | _ => false
def loopR (st : LoopState) (pend : Option Code) (f : FuncId) (t : Array Value) (rf : Code) (D : Nat) : Loop :=
 { state := st, pending := pend, fn := f, tmps := t, params := rfP rf, assign := rfA rf, body := rfB rf, defers := D }
def loopO (st : LoopState) (pend : Option Code) (f : FuncId) (t : Array Value) (rf : Code) (D : Nat) : Obj := .loop (loopR st pend f t rf D)
def putPs : Env → List Tmp → List Value → Env
 | e, p :: ps, a :: as => putPs ((p, a) :: e) ps as
 | e, _, _ => e
def psOk (nt : Nat) : List Tmp → Bool
 | [] => true
 | p :: r => bif Nat.ble (p + 1) nt then psOk nt r else false
theorem Knows.putPs : ∀ (ps : List Tmp) (M : List Value) {e : Env} {t : Array Value}, Knows nt e t → psOk nt ps = true → Knows nt (putPs e ps M) ((ps.zip M).foldl (fun tmps (t, a) => tmps.setIfInBounds t a) t)
 | [], _, _, _, h, _ => by simpa [Eng.putPs] using h
 | _ :: _, [], _, _, h, _ => by simpa [Eng.putPs] using h
 | p :: ps, a :: M, e, t, h, hp => by
  simp only [psOk] at hp
  cases hb : Nat.ble (p + 1) nt with
  | false => rw [hb] at hp; simp at hp
  | true =>
   rw [hb] at hp
   exact Knows.putPs ps M (e := (p, a) :: e) (t := t.setIfInBounds p a) (h.put (d := some p) hb a []) hp
theorem YieldH.of (j : Nat) {l D : Nat} {t : Array Value} {rf : Code} {args : List Value} {e0 e1 : Env} {k1 : List Item} {K : Value → SHeap → Prop} (a2 : Knows nt e0 t)
  (h : (L[j]?, Nat.beq args.length (rfP rf).size, psOk nt (rfP rf).toList) = (some (l, loopO .ready none f t rf D), true, true)) (M : ((putPs e0 (rfP rf).toList args), [Item.code (rfA rf), .beginRound, .code (rfB rf)]) = (e1, k1))
  (hn : AtE P f nt k1 e1 L S w0 (rnd l fun v O => ∃ L', Mem L' S w0 O ∧ K v L')) : YieldH P l ⟨args⟩ L S w0 K := by
 simp only [Prod.mk.injEq] at h M
 obtain ⟨V, Z, a0⟩ := h
 obtain ⟨rfl, rfl⟩ := M
 intro W hm
 have a1 : W.heap[l]? = some (.loop (loopR .ready none f t rf D)) := hm.here _ (List.mem_of_getElem? V)
 refine ⟨_, _, _, _, run_yield a1 (by simpa [loopR] using Nat.eq_of_beq_eq_true Z), ?_⟩
 refine AtE.rounds (nt := nt) (e := putPs e0 (rfP rf).toList args) ?_ hm hn
 have := Knows.putPs (rfP rf).toList args a2 a0
 simp only [loopR]
 rw [← Array.foldl_toList]
 simpa using this
theorem Mem.putObj {W : World} (hm : Mem L S w0 W) {j l : Nat} {o : Obj} (h : L[j]? = some (l, o)) (o' : Obj) : Mem (L.set j (l, o')) S w0 (W.putObj l o') :=
 Mem.setObj hm h o' rfl rfl rfl rfl
theorem AtE.begin (j : Nat) {l D f' : Nat} {t : Array Value} {rf : Code} {k' : List Item} {R : Value → World → Prop}
  (h : (k, L[j]?) = (.beginRound :: k', some (l, loopO .ready none f' t rf D))) (hn : AtE P f nt k' e (L.set j (l, loopO .busy none f' t rf D)) S w0 (rnd l R)) : AtE P f nt k e L S w0 (rnd l R) := by
 simp only [Prod.mk.injEq] at h
 obtain ⟨rfl, M⟩ := h
 intro t' W a4 hm b cs a1 a5 O c V a3
 have a6 : W.heap[l]? = some (.loop (loopR .ready none f' t rf D)) := hm.here _ (List.mem_of_getElem? M)
 obtain ⟨v, w', Z, a0⟩ := hn t' (W.putObj l (loopO .busy none f' t rf D)) a4 (hm.putObj M _) b cs a1 a5 O c V a3
 refine ⟨v, w', Z, .head ?_ a0⟩
 have a2 : (Instr.beginRound l).run P W = .ok () (W.putObj l (loopO .busy none f' t rf D)) := run_beginRound a6 rfl
 refine step_lone_go ?_
 show GStep.bare (stepG P true { frame := rt b ⟨t', []⟩ (.beginRound :: k'), callers := cs, status := .running, dying := none } W) = GStep.go { frame := rt b ⟨t', []⟩ k', callers := cs, status := .running, dying := none } _
 simp [stepG, stepG.exec, rt, Frame.at, O, stepG.apply, a2, Result.andThen, Frame.finish]
theorem AtE.endRound (j : Nat) {l D f' : Nat} {t : Array Value} {rf : Code} {st : LoopState} {L1 : SHeap} {K : Value → SHeap → Prop}
  (h : (k, L[j]?, L) = ([], some (l, loopO st none f' t rf D), L1)) (Z : K (.bool true) (L1.set j (l, loopO .ready none f' t rf D))) : AtE P f nt k e L S w0 (rnd l fun v O => ∃ L', Mem L' S w0 O ∧ K v L') := by
 simp only [Prod.mk.injEq] at h
 obtain ⟨rfl, M, rfl⟩ := h
 intro t' W a6 hm b cs a5 a1 a3 c V a0
 subst a0
 have a2 : W.heap[l]? = some (.loop (loopR st none f' t rf D)) := hm.here _ (List.mem_of_getElem? M)
 have a4 : (Instr.endRound l none).run P W = .ok (.bool true) (W.putObj l (loopO .ready none f' t rf D)) := run_endRound none a2
 refine ⟨.bool true, _, ⟨_, hm.putObj M _, Z⟩, .one (step_lone_go ?_)⟩
 show GStep.bare (stepG P true { frame := rt b ⟨t', []⟩ [], callers := c :: V, status := .running, dying := none } W) = _
 simp [stepG, stepG.exec, rt, Frame.at, a3, Sem.runT_eq, a4, GStep.bare_after, doReturn, a1]
def jumpOf : List Item → Option Code
 | .code .ret :: _ => some .ret
 | .code (.exit id) :: k => match exitTo id k with
  | some _ => none
  | none => some (.exit id)
 | _ => none
theorem AtE.jumpRound (j : Nat) {l D f' : Nat} {t : Array Value} {rf : Code} {st : LoopState} {c : Code} {L1 : SHeap} {K : Value → SHeap → Prop}
  (h : (jumpOf k, L[j]?, L) = (some c, some (l, loopO st none f' t rf D), L1)) (a3 : K (.bool false) (L1.set j (l, loopO .done (some c) f' t rf D))) : AtE P f nt k e L S w0 (rnd l fun v a1 => ∃ L', Mem L' S w0 a1 ∧ K v L') := by
 simp only [Prod.mk.injEq] at h
 obtain ⟨M, O, rfl⟩ := h
 intro t' W a7 hm b cs a6 V Z c' a2 a4
 subst a4
 have a5 : W.heap[l]? = some (.loop (loopR st none f' t rf D)) := hm.here _ (List.mem_of_getElem? O)
 have a0 : (Instr.endRound l (some c)).run P W = .ok (.bool false) (W.putObj l (loopO .done (some c) f' t rf D)) := run_endRound (some c) a5
 refine ⟨.bool false, _, ⟨_, hm.putObj O _, a3⟩, .one (step_lone_go ?_)⟩
 show GStep.bare (stepG P true { frame := rt b ⟨t', []⟩ k, callers := c' :: a2, status := .running, dying := none } W) = _
 unfold jumpOf at M
 split at M
 ·cases M
  simp [stepG, stepG.exec, rt, Frame.at, Z, Sem.runT_eq, a0, GStep.bare_after, doReturn, V]
 ·next id k2 =>
  split at M
  ·cases M
  ·next hx =>
   cases M
   simp [stepG, stepG.exec, rt, Frame.at, hx, Z, Sem.runT_eq, a0, GStep.bare_after, doReturn, V]
 ·cases M
def mrk {P : Program} (D : Nat) (R : Ending → World → Prop) : Goal P := { (nrm (P := P) R) with ds := [{ target := .collected D, args := #[] }] }
theorem AtE.rangeFunc {R : Ending → World → Prop} {rf : Code} {k' : List Item} {L1 : SHeap} {e' : Env} (g : FuncId) (cap : List Value)
  (h : (k, isRf rf, L, ev e (rfG rf), restrict e (e'.map (·.1))) = (.code rf :: k', true, L1, some (.func (.func g) #[] ⟨cap⟩), some e'))
  (c4 : ∀ W l, (invoke (.fn (.func g) ⟨cap⟩) #[.func (.yield l) #[] #[]]).run P W = .ok (.enter g ⟨.func (.yield l) #[] #[] :: cap⟩) W)
  (hn : ∀ (D l : Nat) (t : Array Value), Knows nt e' t → CallH P g ⟨.func (.yield l) #[] #[] :: cap⟩ (L1 ++ [(D, .deferred (some [])), (l, loopO .ready none f t rf D)]) S w0 fun _ L' => ∃ j st pend, L'[j]? = some (l, loopO st pend f t rf D) ∧ st ≠ .busy ∧
   AtE P f nt ((pend.map Item.code).toList ++ k') e' (L'.set j (l, loopO .exhausted pend f t rf D)) S w0 (mrk D R)) : AtE P f nt k e L S w0 (nrm R) := by
 simp only [Prod.mk.injEq] at h
 obtain ⟨rfl, a9, rfl, b0, b1⟩ := h
 intro t W V hm b cs a1 b7 a6
 show ∃ e w' fr, R e w' ∧ Comes P (lone (rt b ⟨t, []⟩ (.code rf :: k')) cs W) (lone fr cs w') e ∧ fr.fn = b.fn ∧ fr.leaving P w' e
 have a3 : Knows nt e' t := ⟨V.size, fun i v d0 => V.slot i v (restrict_get b1 i v d0)⟩
 cases rf with
 | rangeFunc g0 ps assign body =>
  have O := run_enterLoop_outer (P := P) (w := W) b.fn t ps assign body
  rw [← a6] at O
  obtain ⟨M, a0⟩ : ∃ M, ((W.alloc (.deferred (some []))).alloc (loopO .ready none f t (.rangeFunc g0 ps assign body) W.heap.size)) = M := ⟨_, rfl⟩
  have b9 : (Obj.loop { state := .ready, pending := none, fn := b.fn, tmps := t, params := ps, assign := assign, body := body, defers := W.heap.size }) = loopO .ready none f t (.rangeFunc g0 ps assign body) W.heap.size := by rw [a1]; rfl
  rw [b9, a0] at O
  have c3 : Mem (L ++ [(W.heap.size, .deferred (some [])), (W.heap.size + 1, loopO .ready none f t (.rangeFunc g0 ps assign body) W.heap.size)]) S w0 M := by
   have := (hm.alloc (.deferred (some []))).alloc (loopO .ready none f t (.rangeFunc g0 ps assign body) W.heap.size)
   have c6 : ({ W with heap := W.heap.push (.deferred (some [])) } : World).heap.size = W.heap.size + 1 := by simp
   rw [c6, List.append_assoc] at this
   rw [← a0]
   exact this
  have b6 : (Act.mk t []).eval g0 = .func (.func g) #[] ⟨cap⟩ := V.ev (x := g0) b0 []
  have c5 : (resolve (Act.mk t []).eval (rangeCall g0 (W.heap.size + 1)) 0).run P M = .ok { target := .fn (.func g) ⟨cap⟩, args := #[.func (.yield (W.heap.size + 1)) #[] #[]] } M := by
   simp only [resolve]
   rw [b6]
   simp [Deferred.ofValue, Act.eval]
  have c7 := stepR_rangeFunc (P := P) (b := b) (a := ⟨t, []⟩) (k := k') (cs := cs) O c5 (c4 M (W.heap.size + 1))
  obtain ⟨en, Z, fr, ⟨v, L', rfl, a5, j, st, pend, a2, c8, b3⟩, c9, _, b8⟩ := hn W.heap.size (W.heap.size + 1) t a3 M c3 (b.atR ⟨t, [{ target := .collected W.heap.size, args := #[] }]⟩ (.inRangeFunc (W.heap.size + 1) :: k') :: cs)
  have a4 := step_leave_returned b8 (c := b.atR ⟨t, [{ target := .collected W.heap.size, args := #[] }]⟩ (.inRangeFunc (W.heap.size + 1) :: k')) (cs := cs)
  rw [finish_atR_inRangeFunc] at a4
  have c2 : Z.heap[W.heap.size + 1]? = some (.loop (loopR st pend f t (.rangeFunc g0 ps assign body) W.heap.size)) := a5.here _ (List.mem_of_getElem? a2)
  have b4 : (Instr.endLoop (W.heap.size + 1)).run P Z = .ok pend (Z.putObj (W.heap.size + 1) (loopO .exhausted pend f t (.rangeFunc g0 ps assign body) W.heap.size)) := run_endLoop c2 c8
  have b5 := stepR_endRangeFunc (P := P) (b := b) (a := ⟨t, [{ target := .collected W.heap.size, args := #[] }]⟩) (k := k') (cs := cs) b4
  obtain ⟨a7, d4, a8, d1, d2, d3⟩ := b3 t _ a3 (a5.putObj a2 _) b cs a1 b7 a6
  refine ⟨a7, d4, a8, d1, Comes.of_steps (Steps.head c7 (Steps.trans c9 (Steps.head a4 (Steps.one b5)))) d2, d3⟩
 | _ => cases a9
theorem AtE.retM (j : Nat) {R : Ending → World → Prop} {fn : Func} {D : Nat} {v : Value} {L1 : SHeap} (a0 : P.funcs[f]? = some fn) (h : (isRet k, L[j]?, L) = (true, some (D, .deferred (some [])), L1))
  (a8 : ResOk P fn nt e (L1.set j (D, .deferred none)) S w0 v) (a1 : Fin R (L1.set j (D, .deferred none)) S w0 v) : AtE P f nt k e L S w0 (mrk D R) := by
 simp only [Prod.mk.injEq] at h
 obtain ⟨M, V, rfl⟩ := h
 intro t W a6 hm b cs Z a2 a7
 show ∃ e w' fr, R e w' ∧ Comes P (lone (rt b ⟨t, [{ target := .collected D, args := #[] }]⟩ k) cs W) (lone fr cs w') e ∧ fr.fn = b.fn ∧ fr.leaving P w' e
 rw [rt_none a7]
 have a5 : W.heap[D]? = some (.deferred (some [])) := hm.here _ (List.mem_of_getElem? V)
 have a4 := run_takeDeferred (P := P) a5
 have O : Mem (L.set j (D, .deferred none)) S w0 (W.putObj D (.deferred none)) := hm.putObj V _
 have a3 := a8 t _ a6 O
 unfold isRet at M
 split at M
 ·exact ⟨.returned v, _, { { b.at ⟨t, [{ target := .collected D, args := #[] }]⟩ (.code .ret :: _) with mode := .returning } with defers := [] ++ [] }, a1 _ O,
   Steps.head step_ret (Steps.one (step_collected (d := { target := .collected D, args := #[] }) (ds := []) (by simp) rfl rfl a4)), rfl, rfl, rfl, a2, fn, by rw [← a0, ← Z]; rfl, a3⟩
 ·exact ⟨.returned v, _, { { b.at ⟨t, [{ target := .collected D, args := #[] }]⟩ [] with mode := .returning } with defers := [] ++ [] }, a1 _ O,
   Steps.head step_end (Steps.one (step_collected (d := { target := .collected D, args := #[] }) (ds := []) (by simp) rfl rfl a4)), rfl, rfl, rfl, a2, fn, by rw [← a0, ← Z]; rfl, a3⟩
 ·cases M
end
section
variable {P : Program} {f nt : Nat} {k : List Item} {e : Env} {L : SHeap} {S : List Nat} {w0 : World} {R : Goal P}
def asInsert (P : Program) (nt : Nat) (k : List Item) (e : Env) : Option (Option TypeDesc × Value × Value × Value) :=
 match cur nt k e with
 | some o => match o.op with
  | .insert t m key x => some (P.underlying t, rho e m, rho e key, rho e x)
  | .mapUpdate t m key x => some (P.underlying t, rho e m, rho e key, rho e x)
  | _ => none
 | none => none
theorem asInsert_spec {d : Option TypeDesc} {m key x : Value} (h : asInsert P nt k e = some (d, m, key, x)) :
  ∃ o t, cur nt k e = some o ∧ P.underlying t = d ∧ execOp (rho e) o = (do Instr.mapUpdate t m key x; pure .skip) := by
 unfold asInsert at h
 split at h
 ·next o hc =>
  split at h
  ·next t a b c ho => simp only [Option.some.injEq, Prod.mk.injEq] at h; obtain ⟨M, rfl, rfl, rfl⟩ := h; exact ⟨o, t, hc, M, by simp only [execOp, ho]⟩
  ·next t a b c ho => simp only [Option.some.injEq, Prod.mk.injEq] at h; obtain ⟨M, rfl, rfl, rfl⟩ := h; exact ⟨o, t, hc, M, by simp only [execOp, ho]⟩
  ·cases h
 ·cases h
def mapL (L : SHeap) (j : Nat) : Option (Nat × Array MapEntry × Nat) := match L[j]? with | some (b, .map es c) => some (b, es, c) | _ => none
theorem mapL_spec {L : SHeap} {j b c : Nat} {es : Array MapEntry} (h : mapL L j = some (b, es, c)) : L[j]? = some (b, .map es c) := by
 unfold mapL at h
 split at h
 ·next hj => simp only [Option.some.injEq, Prod.mk.injEq] at h; obtain ⟨rfl, rfl, rfl⟩ := h; exact hj
 ·cases h
theorem checkKey_int {kt : TypeId} {kd : IntKind} (M : P.underlying kt = some (.int kd)) (b : Bool) (n : Int) (W : World) : (Instr.checkKey b 10000 kt (.int kd n)).run P W = .ok () W := by
 unfold Instr.checkKey
 simp [Sem.run_bind, run_underlying M]
theorem AtE.insert (j : Nat) {b c n' : Nat} {es : Array MapEntry} {kt et : TypeId} {kd : IntKind} {n : Int} {v : Value}
  (h : (asInsert P nt k e, mapL L j, P.underlying kt, Instr.findNow (.int kd) (.int kd n) es.toList 0) = (some (some (.map kt et), .map (some b), .int kd n, v), some (b, es, c), some (.int kd), some none)) (a5 : n' = c + 1)
  (hn : AtE P f nt (nextK k) (putE e (curDst nt k e) undef) (L.set j (b, .map (es.push { key := .int kd n, val := v, born := c }) n')) S w0 R) : AtE P f nt k e L S w0 R := by
 subst a5
 simp only [Prod.mk.injEq] at h
 obtain ⟨a0, a1, M, a2⟩ := h
 obtain ⟨o, t, V, a8, a6⟩ := asInsert_spec a0
 have Z := mapL_spec a1
 refine AtE.opSkip V fun W hm => ⟨W.putObj b (.map (es.push { key := .int kd n, val := v, born := c }) (c + 1)), ?_, fun a9 a4 => hn a9 _ (by simpa only [curDst, V] using a4) (hm.putObj Z _)⟩
 have O : W.heap[b]? = some (.map es c) := hm.here _ (List.mem_of_getElem? Z)
 rw [a6]
 have a3 : (getObj b).run P W = .ok (.map es c) W := by simp [getObj, Sem.run, O]
 have a7 : ∀ o', (setObj b o').run P W = .ok () (W.putObj b o') := fun o' => by simp [setObj, Sem.run, O, World.putObj]
 simp [Instr.mapUpdate, Sem.run_bind, run_underlying a8, a3, checkKey_int M, Instr.findKey, run_underlying M, a2, a7]
def asLookup (P : Program) (nt : Nat) (k : List Item) (e : Env) : Option (Option TypeDesc × Value × Value × Bool) :=
 match cur nt k e with
 | some o => match o.op with
  | .lookup t m key ok => some (P.underlying t, rho e m, rho e key, ok)
  | _ => none
 | none => none
theorem asLookup_spec {d : Option TypeDesc} {m key : Value} {ok : Bool} (h : asLookup P nt k e = some (d, m, key, ok)) :
  ∃ o t, cur nt k e = some o ∧ P.underlying t = d ∧ execOp (rho e) o = (do pure (.value (← Instr.lookup t m key ok))) := by
 unfold asLookup at h
 split at h
 ·next o hc =>
  split at h
  ·next t a b c ho => simp only [Option.some.injEq, Prod.mk.injEq] at h; obtain ⟨M, rfl, rfl, rfl⟩ := h; exact ⟨o, t, hc, M, by simp only [execOp, ho]⟩
  ·cases h
 ·cases h
def entryI (kd : IntKind) (n : Int) : List MapEntry → Option Value
 | [] => none
 | e :: r => match e.key with
  | .int _ m => if n = m then some e.val else entryI kd n r
  | _ => none
def intKeys (kd : IntKind) : List MapEntry → Bool
 | [] => true
 | e :: r => match e.key with
  | .int kd' _ => decide (kd = kd') && intKeys kd r
  | _ => false
theorem findNow_int (kd : IntKind) (n : Int) : ∀ (es : List MapEntry) (i : Nat), intKeys kd es = true → ∃ r, Instr.findNow (.int kd) (.int kd n) es i = some r ∧ r.map (·.2) = entryI kd n es
 | [], i, _ => ⟨none, rfl, rfl⟩
 | e :: es, i, h => by
  unfold intKeys at h
  split at h
  ·next kd' m hk =>
   simp only [Bool.and_eq_true, decide_eq_true_eq] at h
   obtain ⟨rfl, h⟩ := h
   obtain ⟨r, M, O⟩ := findNow_int kd n es (i + 1) h
   unfold Instr.findNow entryI
   simp only [hk, Instr.sameNow, if_true]
   by_cases hnm : n = m
   ·subst hnm
    simp
   ·have V : (n == m) = false := by simpa using hnm
    rw [V]
    simp only [if_neg hnm]
    exact ⟨r, M, O⟩
  ·cases h
def LookAll (kd : IntKind) (n : Int) (Y : Value → Prop) (N : Prop) : List MapEntry → Prop
 | [] => N
 | e :: r => match e.key with
  | .int _ m => (n = m → Y e.val) ∧ (¬ n = m → LookAll kd n Y N r)
  | _ => False
theorem LookAll.spec {kd : IntKind} {n : Int} {Y : Value → Prop} {N : Prop} : ∀ {es : List MapEntry}, LookAll kd n Y N es → (∃ v, entryI kd n es = some v ∧ Y v) ∨ (entryI kd n es = none ∧ N)
 | [], h => .inr ⟨rfl, h⟩
 | e :: r, h => by
  unfold LookAll at h
  unfold entryI
  split at h
  ·next m hk =>
   try simp only [hk]
   by_cases hnm : n = m
   ·rw [if_pos hnm]; exact .inl ⟨_, rfl, h.1 hnm⟩
   ·rw [if_neg hnm]; exact LookAll.spec (h.2 hnm)
  ·cases h
theorem LookAll.cons {kd O : IntKind} {n m : Int} {Y : Value → Prop} {N : Prop} {v : Value} {b : Nat} {r : List MapEntry} (h : n = m → Y v) (M : ¬ n = m → LookAll kd n Y N r) : LookAll kd n Y N ({ key := .int O m, val := v, born := b } :: r) := ⟨h, M⟩
theorem lookup_run {W : World} {t kt et : TypeId} {b c : Nat} {es : Array MapEntry} {kd : IntKind} {n : Int} {z : Value} {ok : Bool} (a0 : P.underlying t = some (.map kt et)) (O : P.underlying kt = some (.int kd)) (M : (infoZ P et).map (·.1) = some (some z))
  (a2 : W.heap[b]? = some (.map es c)) (hi : intKeys kd es.toList = true) :
  (Instr.lookup t (.map (some b)) (.int kd n) ok).run P W = .ok (match entryI kd n es.toList with | some v => if ok then .tuple #[v, .bool true] else v | none => if ok then .tuple #[z, .bool false] else z) W := by
 have Z : (getObj b).run P W = .ok (.map es c) W := by simp [getObj, Sem.run, a2]
 obtain ⟨r, V, a1⟩ := findNow_int kd n es.toList 0 hi
 have a3 : (zeroValue et).run P W = .ok z W := by
  unfold infoZ at M
  cases hq : P.info? et with
  | none => rw [hq] at M; cases M
  | some i => rw [hq] at M; simp at M; simp [zeroValue, typeInfo, hq, M]
 rw [← a1]
 cases r with
 | none => cases ok <;> simp [Instr.lookup, Sem.run_bind, run_underlying a0, Z, checkKey_int O, Instr.findKey, run_underlying O, V, a3]
 | some x => cases ok <;> simp [Instr.lookup, Sem.run_bind, run_underlying a0, Z, checkKey_int O, Instr.findKey, run_underlying O, V]
theorem AtE.lookW {b c : Nat} {es : Array MapEntry} {kt et : TypeId} {kd : IntKind} {n : Int} {z : Value} (a5 : w0.heap[b]? = some (.map es c)) (a8 : b ∉ S)
  (h : (asLookup P nt k e, P.underlying kt, (infoZ P et).map (·.1), intKeys kd es.toList) = (some (some (.map kt et), .map (some b), .int kd n, true), some (.int kd), some (some z), true))
  (hn : LookAll kd n (fun v => AtE P f nt (nextK k) (putE e (curDst nt k e) (.tuple #[v, .bool true])) L S w0 R) (AtE P f nt (nextK k) (putE e (curDst nt k e) (.tuple #[z, .bool false])) L S w0 R) es.toList) : AtE P f nt k e L S w0 R := by
 simp only [Prod.mk.injEq] at h
 obtain ⟨a6, Z, a0, a1⟩ := h
 obtain ⟨o, t, M, a4, a3⟩ := asLookup_spec a6
 refine AtE.op M fun W hm => ?_
 have a7 : b < w0.heap.size := (Array.getElem?_eq_some_iff.1 a5).1
 have a2 : W.heap[b]? = some (.map es c) := (hm.kept.block b a7 a8).trans a5
 rcases hn.spec with ⟨v, hv, hat⟩ | ⟨hv, hat⟩
 ·refine ⟨.tuple #[v, .bool true], W, ?_, fun V O => hat V W (by simpa only [curDst, M] using O) hm⟩
  rw [a3, Sem.run_bind, lookup_run a4 Z a0 a2 a1, hv]; rfl
 ·refine ⟨.tuple #[z, .bool false], W, ?_, fun V O => hat V W (by simpa only [curDst, M] using O) hm⟩
  rw [a3, Sem.run_bind, lookup_run a4 Z a0 a2 a1, hv]; rfl
theorem info_open {E : TypeId} {z : Value} {sz bytes : Nat} (h : infoZ P E = some (some z, sz, bytes)) : ∃ i, P.info? E = some i ∧ i.zero = some z ∧ i.size = sz ∧ i.bytes = bytes := by
 unfold infoZ at h
 cases hq : P.info? E with
 | none => rw [hq] at h; cases h
 | some i =>
  rw [hq] at h
  simp only [Option.map_some, Option.some.injEq, Prod.mk.injEq] at h
  exact ⟨i, rfl, h.1, h.2.1, h.2.2⟩
theorem AtE.appendS {T U E : TypeId} {z : Value} {sz bytes : Nat} {x : Value} (n : Nat) (M : List Value)
  (h : (asBuiltin nt k e, P.underlying T, infoZ P E, z.cells.size) = (some (.append, [.slice none 0 0, x], [T, U]), some (.slice E), some (some z, sz, bytes), sz))
  (b5 : ∀ W, Mem L S w0 W → Go.Src P sz U x n M W) (a8 : n ≤ 9223372036854775807 ∧ n * bytes ≤ 140737488355328)
  (a3 : n = 0 → AtE P f nt (nextK k) (putE e (curDst nt k e) (.slice none 0 0)) L S w0 R)
  (hn : 0 < n → ∀ B cap r, n ≤ cap → (M ++ r).length = cap * sz → AtE P f nt (nextK k) (putE e (curDst nt k e) (.slice (some ⟨B, 0, none⟩) n cap)) (L ++ [(B, .cells ⟨M ++ r⟩ E)]) S w0 R) : AtE P f nt k e L S w0 R := by
 simp only [Prod.mk.injEq] at h
 obtain ⟨a4, a0, a5, a6⟩ := h
 obtain ⟨o, cl, b0, b4, b1, a7, b6⟩ := asBuiltin_spec a4
 obtain ⟨i, hi, b7, a2, a9⟩ := info_open a5
 refine AtE.opB b0 b4 b1 a7 b6 (by simp) fun W hm => ?_
 have O := b5 W hm
 rcases Nat.eq_zero_or_pos n with hz0 | hp
 ·subst hz0
  have a1 := O.newsLen
  rw [Nat.zero_mul] at a1
  obtain rfl : M = [] := List.length_eq_zero_iff.1 a1
  have Z := run_append_nothing W T U o.type E i a0 hi none 0 0 (Nat.le_refl _) x (by rw [a2]; exact O)
  exact ⟨_, W, run_lift Z, fun t V => a3 rfl t W V hm⟩
 ·have Z := run_append_grow_src W T U o.type E i z a0 hi b7 none 0 0 [] (by simp [Builtin.firstCells]) x n M (by rw [a2]; exact O) (by omega) (by omega) (growslice_fits (by omega) (by rw [a9, Nat.zero_add]; exact a8.2))
  refine ⟨_, _, run_lift Z, fun t V => hn hp W.heap.size (grownCap W (0 + n) 0 E) (Builtin.zeroCells z.cells (grownCap W (0 + n) 0 E - (0 + n))).toList ?_ ?_ t _ (by simpa using V) ?_⟩
  ·have := grownCap_ge W (0 + n) 0 E
   omega
  ·rw [List.length_append, zeroCells_len, O.newsLen, a6, ← Nat.add_mul]
   congr 1
   have := grownCap_ge W (0 + n) 0 E
   omega
  ·have := hm.drew.alloc (.cells ⟨M ++ (Builtin.zeroCells z.cells (grownCap W (0 + n) 0 E - (0 + n))).toList⟩ E)
   have b3 : (([] ++ M).toArray ++ Builtin.zeroCells z.cells (grownCap W (0 + n) 0 E - (0 + n))) = ⟨M ++ (Builtin.zeroCells z.cells (grownCap W (0 + n) 0 E - (0 + n))).toList⟩ := by
    apply Array.toList_inj.1; simp
   rw [b3]; exact this
theorem perm_set {j : Nat} : ∀ (l : SHeap) (i : Nat) (x : Nat × Obj), i < l.length → (l.eraseIdx i ++ [x]).Perm (l.set i x)
 | [], i, x, h => by simp at h
 | y :: l, 0, x, _ => by
  simp only [List.eraseIdx_cons_zero, List.set_cons_zero]
  exact (List.perm_append_comm (l₁ := l) (l₂ := [x]))
 | y :: l, i + 1, x, h => by
  simp only [List.eraseIdx_cons_succ, List.set_cons_succ, List.cons_append]
  exact (perm_set (j := j) l i x (by simpa using h)).cons y
theorem setCells_setRow {W : World} {B o : Nat} {c : List Value} {t : TypeId} {fz : Nat × Nat} (h : W.heap[B]? = some (.cells ⟨c⟩ t fz)) (M : List Value) (a2 : o + M.length ≤ c.length) :
  W.setCells B o M = W.setRow B ⟨c.take o ++ M ++ c.drop (o + M.length)⟩ := by
 have key : ∀ (M : List Value) (o : Nat) (c : List Value) (W : World), W.heap[B]? = some (.cells ⟨c⟩ t fz) → o + M.length ≤ c.length → (W.setCells B o M).heap = (W.setRow B ⟨c.take o ++ M ++ c.drop (o + M.length)⟩).heap ∧ (W.setCells B o M).os = W.os ∧ (W.setCells B o M).tape = W.tape ∧ (W.setCells B o M).output = W.output ∧ (W.setCells B o M).drawn = W.drawn := by
  intro M
  induction M with
  | nil =>
   intro o c W h a2
   have a6 : (W.setRow B ⟨c⟩).heap = W.heap := by
    rw [World.setRow_heap' W B _ _ t fz h]
    apply Array.ext_getElem?
    intro i
    rw [Array.getElem?_setIfInBounds]
    split
    ·next heq => subst heq; rw [h, if_pos (Array.getElem?_eq_some_iff.1 h).1]
    ·rfl
   simp only [List.length_nil, Nat.add_zero, List.append_nil, List.take_append_drop]
   exact ⟨a6.symm, rfl, rfl, rfl, rfl⟩
  | cons v r ih =>
   intro o c W h a2
   simp only [List.length_cons] at a2
   have a3 : (W.setCell ⟨B, o, none⟩ v).heap[B]? = some (.cells ⟨c.set o v⟩ t fz) := by
    rw [setCell_setRow h, World.setRow_heap' W B _ _ t fz h]
    have : B < W.heap.size := (Array.getElem?_eq_some_iff.1 h).1
    simp [this]
   obtain ⟨O, V, Z, a0, a1⟩ := ih (o + 1) (c.set o v) (W.setCell ⟨B, o, none⟩ v) a3 (by simp; omega)
   refine ⟨?_, V, Z, a0, a1⟩
   have a8 : W.setCells B o (v :: r) = (W.setCell ⟨B, o, none⟩ v).setCells B (o + 1) r := rfl
   rw [a8, O]
   rw [World.setRow_heap' _ B _ _ t fz a3, setCell_setRow h, World.setRow_heap' W B _ _ t fz h, World.setRow_heap' W B _ _ t fz h]
   have a5 : (c.set o v).take (o + 1) ++ r ++ (c.set o v).drop (o + 1 + r.length) = c.take o ++ v :: r ++ c.drop (o + (r.length + 1)) := by
    have e1 : (c.set o v).take (o + 1) = c.take o ++ [v] := by
     rw [List.set_eq_take_append_cons_drop, if_pos (by omega)]
     have a7 : (c.take o).length = o := by rw [List.length_take]; omega
     rw [List.take_append, a7]
     simp [Nat.add_sub_cancel_left, List.take_of_length_le (show (c.take o).length ≤ o + 1 by omega)]
    have a4 : (c.set o v).drop (o + 1 + r.length) = c.drop (o + (r.length + 1)) := by
     rw [List.drop_set_of_lt (by omega)]
     congr 1; omega
    rw [e1, a4]; simp
   simp only [List.length_cons]
   rw [a5]
   apply Array.ext_getElem?
   intro i
   simp only [Array.getElem?_setIfInBounds, Array.size_setIfInBounds]
   split <;> rfl
 obtain ⟨O, V, Z, a0, a1⟩ := key M o c W h a2
 generalize W.setCells B o M = X at O V Z a0 a1
 obtain ⟨a9, x2, x3, x4, x5⟩ := X
 simp only at O V Z a0 a1
 subst O V Z a0 a1
 rfl
theorem AtE.appendOS (j : Nat) {T U E : TypeId} {z : Value} {sz bytes len cap : Nat} {x : Value} {cs : List Value} (n : Nat) (M : List Value)
  (h : (asBuiltin nt k e, P.underlying T, infoZ P E, z.cells.size, isCellsL L j, cellsL L j, elemL L j, fzL L j) =
   (some (.append, [.slice (some ⟨blkL L j, 0, none⟩) len cap, x], [T, U]), some (.slice E), some (some z, sz, bytes), sz, true, cs, E, (0, 0)))
  (d3 : ∀ W, Mem L S w0 W → Go.Src P sz U x n M W) (Z : len ≤ cap ∧ cs.length = cap * sz) (b8 : len + n ≤ 9223372036854775807 ∧ (len + n) * bytes ≤ 140737488355328)
  (hn : ∀ B a2 r, len + n ≤ a2 → (cs.take (len * sz) ++ M ++ r).length = a2 * sz → AtE P f nt (nextK k) (putE e (curDst nt k e) (.slice (some ⟨B, 0, none⟩) (len + n) a2)) (L.eraseIdx j ++ [(B, .cells ⟨cs.take (len * sz) ++ M ++ r⟩ E)]) S w0 R) :
  AtE P f nt k e L S w0 R := by
 simp only [Prod.mk.injEq] at h
 obtain ⟨b3, a8, b4, b5, a3, a9, a4, a5⟩ := h
 obtain ⟨o, cl, c2, d0, c3, b7, d4⟩ := asBuiltin_spec b3
 obtain ⟨i, hi, d5, V, b9⟩ := info_open b4
 refine AtE.opB c2 d0 c3 b7 d4 (by simp) fun W hm => ?_
 have a7 := d3 W hm
 have b0 := a7.newsLen
 have O := hm.heapAt a3
 rw [a9, a4, a5] at O
 have c7 : L[j]? = some (blkL L j, .cells ⟨cs⟩ E (0, 0)) := by rw [isCellsL_spec a3, a9, a4, a5]
 have c8 : j < L.length := (List.getElem?_eq_some_iff.1 c7).1
 have b1 : len * sz ≤ cs.length := by rw [Z.2]; exact Nat.mul_le_mul_right _ Z.1
 by_cases hroom : len + n ≤ cap
 ·have c5 : len * sz + M.length ≤ cs.length := by
   rw [b0, Z.2, ← Nat.add_mul]; exact Nat.mul_le_mul_right _ hroom
  have a0 := run_append_room_src W T U o.type E i a8 hi (blkL L j) 0 len cap x n M (by rw [V]; exact a7) hroom
   (fun q d2 => by rw [V, Nat.zero_add, cell_of_heap O, List.getElem?_eq_getElem (by omega)]; rfl)
   (fun q d2 => by simp [World.frozen?, O])
  rw [V, Nat.zero_add, setCells_setRow O M c5] at a0
  refine ⟨_, _, run_lift a0, fun t a6 => hn (blkL L j) cap (cs.drop (len * sz + M.length)) hroom ?_ t _ a6 ?_⟩
  ·simp only [List.length_append, List.length_take, List.length_drop]
   rw [← Z.2]; omega
  ·have b6 := hm.setRow a3 (cs.take (len * sz) ++ M ++ cs.drop (len * sz + M.length))
   refine b6.perm ?_
   unfold setL
   rw [a4, a5]
   exact perm_set (j := j) L j _ c8
 ·have d1 : (Builtin.firstCells i.size len (.slice (some ⟨blkL L j, 0, none⟩) len cap)).run P W.drew = .ok (cs.take (len * sz)).toArray W.drew := by
   rw [V]
   refine run_firstCells_some W.drew sz len ⟨blkL L j, 0, none⟩ len cap (cs.take (len * sz)) (by rw [List.length_take]; exact Nat.min_eq_left b1) fun q u a1 => ?_
   have c6 : W.drew.heap[blkL L j]? = some (.cells ⟨cs⟩ E (0, 0)) := O
   rw [addr_add, cell_of_heap c6, Nat.zero_add]
   rw [List.getElem?_take] at a1
   split at a1
   ·exact a1
   ·cases a1
  have c9 : (cs.take (len * sz)).length = len * sz := by rw [List.length_take]; exact Nat.min_eq_left b1
  have a0 := run_append_grow_src W T U o.type E i z a8 hi d5 (some ⟨blkL L j, 0, none⟩) len cap (cs.take (len * sz)) d1 x n M (by rw [V]; exact a7) (by omega) (by omega) (growslice_fits (by omega) (by rw [b9]; exact b8.2))
  refine ⟨_, _, run_lift a0, fun t a6 => hn W.heap.size (grownCap W (len + n) cap E) (Builtin.zeroCells z.cells (grownCap W (len + n) cap E - (len + n))).toList (grownCap_ge W (len + n) cap E) ?_ t _ a6 ?_⟩
  ·rw [List.length_append, List.length_append, zeroCells_len, b0, b5, c9, ← Nat.add_mul, ← Nat.add_mul]
   congr 1
   have := grownCap_ge W (len + n) cap E
   omega
  ·have := (hm.drop j).drew.alloc (.cells ⟨cs.take (len * sz) ++ M ++ (Builtin.zeroCells z.cells (grownCap W (len + n) cap E - (len + n))).toList⟩ E)
   have c4 : ((cs.take (len * sz) ++ M).toArray ++ Builtin.zeroCells z.cells (grownCap W (len + n) cap E - (len + n))) = ⟨cs.take (len * sz) ++ M ++ (Builtin.zeroCells z.cells (grownCap W (len + n) cap E - (len + n))).toList⟩ := by
    apply Array.toList_inj.1; simp
   rw [c4]; exact this
theorem srcStr {U : TypeId} (M : P.underlying U = some .string) (s : ByteArray) : ∀ W, Mem L S w0 W → Go.Src P 1 U (.string s) s.size (bytesL s.data.toList) W := fun W _ => Go.Src.ofString W M s
theorem srcSl {U E' : TypeId} {sz n c : Nat} {a : Addr} {M : List Value} (V : P.underlying U = some (.slice E')) (a0 : Src L S w0 a M) (Z : M.length = n * sz) (O : ∀ u ∈ M, u.oneCell' = true) : ∀ W, Mem L S w0 W → Go.Src P sz U (.slice (some a) n c) n M W :=
 fun W hm => Go.Src.ofSlice W V a n c M Z (a0 W hm) O
theorem srcNil {U E' : TypeId} {sz c : Nat} (M : P.underlying U = some (.slice E')) : ∀ W, Mem L S w0 W → Go.Src P sz U (.slice none 0 c) 0 [] W := fun W _ => Go.Src.ofNil W M c
theorem Mem.freeze {W : World} (hm : Mem L S w0 W) {j : Nat} {B n : Nat} {o : Obj} (O : L[j]? = some (B, o)) : Mem (L.eraseIdx j) S w0 (W.freeze ⟨B, 0, none⟩ n) := by
 have M := hm.drop j
 unfold World.freeze
 split
 ·exact M
 ·have a3 : ∀ p ∈ L.eraseIdx j, p.1 ≠ B := by
   intro p hp a1
   have a2 := hm.nodup
   have V : j < L.length := (List.getElem?_eq_some_iff.1 O).1
   have Z : ((L.eraseIdx j ++ [(B, o)]).map (·.1)).Nodup := by
    have := perm_set (j := j) L j (B, o) V
    have a4 : L.set j (B, o) = L := by
     apply List.ext_getElem?
     intro i
     rw [List.getElem?_set]
     split
     ·next e => subst e; first | rw [if_pos V, O] | exact O.symm
     ·rfl
    rw [a4] at this
    exact (this.map _).nodup_iff.2 a2
   rw [List.map_append, List.nodup_append] at Z
   exact Z.2.2 _ (List.mem_map_of_mem hp) B (by simp) a1
  refine ⟨M.nodup, fun p hp => ?_, M.own, ⟨M.kept.os, M.kept.tape, M.kept.output, by simpa using M.kept.size, fun i hi a0 => ?_⟩⟩
  ·show (W.heap.modify B _)[p.1]? = _
   rw [Array.getElem?_modify, if_neg (fun h => a3 p hp h.symm)]
   exact M.here p hp
  ·show (W.heap.modify B _)[i]? = _
   rw [Array.getElem?_modify, if_neg]
   ·exact M.kept.block i hi a0
   ·intro e
    subst e
    rcases hm.own _ (List.mem_of_getElem? O) with h | h
    ·simp at h; omega
    ·exact a0 h
theorem AtE.unsafeStr (j : Nat) {B E pt it n : Nat} {c : List Value} {l : List UInt8}
  (h : (asBuiltin nt k e, L[j]?, P.underlying pt, P.cellsOf E) = (some (.unsafeString, [.pointer (some ⟨B, 0, none⟩), .int .i64 (n : Int)], [pt, it]), some (B, .cells ⟨c⟩ E), some (.pointer E), 1))
  (b0 : c.take n = bytesL l ∧ l.length = n ∧ 0 < n ∧ n ≤ 9223372036854775807)
  (hn : AtE P f nt (nextK k) (putE e (curDst nt k e) (.string ⟨l.toArray⟩)) (L.eraseIdx j) S w0 R) : AtE P f nt k e L S w0 R := by
 simp only [Prod.mk.injEq] at h
 obtain ⟨a3, M, a4, a5⟩ := h
 obtain ⟨V, Z, b5, b6⟩ := b0
 obtain ⟨o, cl, a7, b3, a8, a6, b4⟩ := asBuiltin_spec a3
 refine AtE.opB a7 b3 a8 a6 b4 (by simp) fun W hm => ?_
 have O : W.heap[B]? = some (.cells ⟨c⟩ E) := hm.here _ (List.mem_of_getElem? M)
 have b1 : l.length ≤ c.length := by
  have := congrArg List.length V
  rw [List.length_take, bytesL, List.length_map] at this
  omega
 have a1 := Go.Lib.run_unsafeString_row (P := P) (w := W) pt it o.type E a4 a5 B c.length (by simp [World.shape?, O]) l (by intro a2; subst a2; simp at Z; omega) b1 (by omega)
  (fun q x a0 => by
   rw [addr_add, cell_of_heap O, Nat.zero_add]
   have b7 : q < l.length := (List.getElem?_eq_some_iff.1 a0).1
   have : (c.take n)[q]? = some (.int .u8 (x.toNat : Int)) := by rw [V, bytesL, List.getElem?_map, a0]; rfl
   rw [List.getElem?_take_of_lt (by omega)] at this
   exact this)
 rw [Z] at a1
 exact ⟨_, _, run_lift a1, fun t a9 => hn t _ a9 (hm.freeze M)⟩
theorem CallH.mono {g : FuncId} {args : Array Value} {K K' : Value → SHeap → Prop} (h : CallH P g args L S w0 K) (M : ∀ v L', K v L' → K' v L') : CallH P g args L S w0 K' :=
 fun W hm => (h W hm).mono fun _ _ ⟨v, L', h1, h2, h3⟩ => ⟨v, L', h1, h2, M v L' h3⟩
def asBin2 (nt : Nat) (k : List Item) (e : Env) : Option (BinOp × TypeId × Value × Value) :=
 match cur nt k e with
 | some o => match o.op with
  | .binOp b T x y _ => some (b, T, rho e x, rho e y)
  | _ => none
 | none => none
theorem asBin2_spec {b : BinOp} {T : TypeId} {x y : Value} (h : asBin2 nt k e = some (b, T, x, y)) : ∃ o p q r, cur nt k e = some o ∧ o.op = .binOp b T p q r ∧ rho e p = x ∧ rho e q = y := by
 unfold asBin2 at h
 split at h
 ·next o hc =>
  split at h
  ·next b' T' p q r ho => simp only [Option.some.injEq, Prod.mk.injEq] at h; obtain ⟨rfl, rfl, M, O⟩ := h; exact ⟨o, p, q, r, hc, ho, M, O⟩
  ·cases h
 ·cases h
theorem AtE.neqSame {T E : TypeId} {a : Addr} (h : (asBin2 nt k e, P.underlying T, (P.info? E).isSome) = (some (.neq, T, .pointer (some a), .pointer (some a)), some (.pointer E), true))
  (hn : AtE P f nt (nextK k) (putE e (curDst nt k e) (.bool false)) L S w0 R) : AtE P f nt k e L S w0 R := by
 simp only [Prod.mk.injEq] at h
 obtain ⟨M, O, V⟩ := h
 obtain ⟨o, p, q, r, Z, a2, a3, a4⟩ := asBin2_spec M
 obtain ⟨j, a1⟩ := Option.isSome_iff_exists.1 V
 refine AtE.opV Z (fun W _ => ?_) hn
 simp only [execOp, a2, a3, a4]
 refine run_lift ?_
 have a0 : (eqGuard .neq T p q (.pointer (some a)) (.pointer (some a))).run P W = .ok () W := by
  simp [eqGuard]
 rw [Sem.run_bind, a0]
 exact Lib.run_neq_ptr_same W a O a1
theorem AtE.ptrConv (j : Nat) {t : TypeId} {B off : Nat} {c : List Value} {E : TypeId} {fz : Nat × Nat} {sz : Nat}
  (h : (asConv P nt k e, L[j]?, (P.info? t).map (·.size)) = (some (some (.pointer t), some .unsafePointer, .pointer (some ⟨B, off, none⟩)), some (B, .cells ⟨c⟩ E fz), some (sz + 1))) (a3 : off < c.length)
  (hn : AtE P f nt (nextK k) (putE e (curDst nt k e) (.pointer (some ⟨B, off, none⟩))) L S w0 R) : AtE P f nt k e L S w0 R := by
 simp only [Prod.mk.injEq] at h
 obtain ⟨M, O, V⟩ := h
 obtain ⟨o, s, d, x, Z, a2, a4, a0, a5⟩ := asConv_spec M
 obtain ⟨i, hi, a6⟩ := Option.map_eq_some_iff.1 V
 refine AtE.opV Z (fun W hm => ?_) hn
 simp only [execOp, a2, a5]
 have a1 : W.heap[B]? = some (.cells ⟨c⟩ E fz) := hm.here _ (List.mem_of_getElem? O)
 exact run_lift (Lib.run_to_unsafe W ⟨B, off, none⟩ a4 a0 hi (by omega) (e := E) (cells := c.length) (by simp [World.shape?, a1]) a3)
theorem AtE.ptrBack (j : Nat) {u : TypeId} {B off n : Nat} {c : List Value} {E : TypeId} {fz : Nat × Nat}
  (h : (asConv P nt k e, L[j]?, (P.info? u).isSome, liesAt P P.depth E (n / P.cellsOf E) off u 1) = (some (some .unsafePointer, some (.pointer u), .pointer (some ⟨B, off, none⟩)), some (B, .cells ⟨c⟩ E fz), true, true)) (a3 : c.length = n)
  (hn : AtE P f nt (nextK k) (putE e (curDst nt k e) (.pointer (some ⟨B, off, none⟩))) L S w0 R) : AtE P f nt k e L S w0 R := by
 subst a3
 simp only [Prod.mk.injEq] at h
 obtain ⟨M, O, V, Z⟩ := h
 obtain ⟨o, s, d, x, a0, a4, a5, a1, a6⟩ := asConv_spec M
 obtain ⟨i, hi⟩ := Option.isSome_iff_exists.1 V
 refine AtE.opV a0 (fun W hm => ?_) hn
 simp only [execOp, a4, a6]
 have a2 : W.heap[B]? = some (.cells ⟨c⟩ E fz) := hm.here _ (List.mem_of_getElem? O)
 exact run_lift (Lib.run_from_unsafe W ⟨B, off, none⟩ a5 a1 hi (e := E) (cells := c.length) (by simp [World.shape?, a2]) Z)
end
section
variable {P : Program} {f nt : Nat} {k : List Item} {e : Env} {L : SHeap} {S : List Nat} {w0 : World} {ops : Array Oper} {nq : Nat} {kk : List Item}
def held (L : SHeap) (w0 : World) (b : Nat) (c : List Value) : Prop := (∃ t fz, (b, Obj.cells ⟨c⟩ t fz) ∈ L) ∨ blkW w0 b = some c
theorem held_at {W : World} {b : Nat} {c : List Value} (hm : Mem L S w0 W) (M : b ∉ S) (h : held L w0 b c) : ∃ t fz, W.heap[b]? = some (.cells ⟨c⟩ t fz) := by
 rcases h with ⟨t, fz, h⟩ | hc
 ·exact ⟨t, fz, hm.here _ h⟩
 ·unfold blkW at hc
  split at hc
  ·next c' t fz hh =>
   simp at hc; subst hc
   have O : b < w0.heap.size := by
    rcases Nat.lt_or_ge b w0.heap.size with h | h
    ·exact h
    ·rw [Array.getElem?_eq_none h] at hh; cases hh
   exact ⟨t, fz, by rw [hm.kept.block b O M, hh]⟩
  ·cases hc
end
section
variable {P : Program} {nt : Nat} {k : List Item} {e : Env} {L : SHeap} {S : List Nat} {w0 : World} {R : Env → Prop}
theorem AtF.split (i : Nat) {b : Bool} (h : get? e i = some (.bool b)) (O : b = true → AtF P nt k ((i, .bool true) :: e) L S w0 R)
  (M : b = false → AtF P nt k ((i, .bool false) :: e) L S w0 R) : AtF P nt k e L S w0 R := by
 cases b
 ·exact AtF.push h (M rfl)
 ·exact AtF.push h (O rfl)
theorem AtF.sliceS {s : ByteArray} {lo hi : Option Value} (h : asSlice P nt k e = some (some .string, .string s, lo, hi, none)) {a b : Int}
  (V : (∃ kd, lo = some (.int kd a)) ∨ (lo = none ∧ a = 0)) (O : (∃ kd, hi = some (.int kd b)) ∨ (hi = none ∧ b = s.size)) (M : 0 ≤ a ∧ a ≤ b ∧ b ≤ s.size)
  (hn : AtF P nt (nextK k) (putE e (curDst nt k e) (.string (s.extract a.toNat b.toNat))) L S w0 R) : AtF P nt k e L S w0 R := (OpV.sliceS h V O M).F hn
theorem AtF.load (j off : Nat) {T : TypeId} {v : Value} (h : (asLoad nt k e, isCellsL L j, valAt P T (cellsL L j) off) = (some (T, .pointer (some ⟨blkL L j, off, none⟩)), true, some v))
  (hn : AtF P nt (nextK k) (putE e (curDst nt k e) v) L S w0 R) : AtF P nt k e L S w0 R := (OpV.load j off h).F hn
theorem AtF.loadS (j : Nat) {off : Nat} {T : TypeId} {v : Value} {c : List Value} (h : (asLoad nt k e, isCellsL L j, cellsL L j) = (some (T, .pointer (some ⟨blkL L j, off, none⟩)), true, c)) (M : valAt P T c off = some v)
  (hn : AtF P nt (nextK k) (putE e (curDst nt k e) v) L S w0 R) : AtF P nt k e L S w0 R := (OpV.loadS j h M).F hn
theorem AtF.indexAddrL {E : TypeId} {b o len cap sz o' : Nat} {kd : IntKind} {i : Int} (h : (asIndexAddr P nt k e, (P.info? E).map (·.size)) = (some (some (.slice E), .slice (some ⟨b, o, none⟩) len cap, .int kd i), some sz))
  (M : 0 ≤ i ∧ i < len) (O : o' = o + i.toNat * sz) (hn : AtF P nt (nextK k) (putE e (curDst nt k e) (.pointer (some ⟨b, o', none⟩))) L S w0 R) : AtF P nt k e L S w0 R := (OpV.indexAddrL h M O).F hn
end
section
variable {P : Program} {f nt : Nat} {k : List Item} {e : Env} {L : SHeap} {S : List Nat} {w0 : World} {G : Goal P}
def asCallV (nt : Nat) (k : List Item) (e : Env) : Option (Value × List Value) :=
 match cur nt k e with
 | some o => match o.op with
  | .call c => match c.callee with
   | .value x => some (rho e x, c.args.toList.map (rho e))
   | _ => none
  | _ => none
 | none => none
theorem asCallV_spec {v : Value} {M : List Value} (h : asCallV nt k e = some (v, M)) :
  ∃ o c x, cur nt k e = some o ∧ o.op = .call c ∧ c.callee = .value x ∧ rho e x = v ∧ c.args.map (rho e) = ⟨M⟩ := by
 unfold asCallV at h
 split at h
 ·next o hc =>
  split at h
  ·next c ho =>
   split at h
   ·next x hx =>
    simp only [Option.some.injEq, Prod.mk.injEq] at h
    obtain ⟨O, V⟩ := h
    refine ⟨o, c, x, hc, ho, hx, O, ?_⟩
    apply Array.toList_inj.1; simpa using V
   ·cases h
  ·cases h
 ·cases h
def FnReady (P : Program) (g : FuncId) : Prop := ∃ fn, P.funcs[g]? = some fn ∧ fn.body.isNone = false ∧ (fn.name == "runtime.NumGoroutine") = false
theorem callV_run {o : Oper} {c : Call} {x : Operand} {g : FuncId} {first O M : List Value} (a4 : o.op = .call c) (a6 : c.callee = .value x) (a5 : rho e x = .func (.func g) ⟨first⟩ ⟨O⟩) (a1 : c.args.map (rho e) = ⟨M⟩)
  (a3 : FnReady P g) (W : World) : (execOp (rho e) o).run P W = .ok (.enter g ⟨first ++ M ++ O⟩) W := by
 obtain ⟨fn, V, Z, a0⟩ := a3
 have a2 : (⟨first⟩ ++ ⟨M⟩ ++ ⟨O⟩ : Array Value) = ⟨first ++ M ++ O⟩ := by simp
 simp only [execOp, a4, resolve, a6, a5, a1, Deferred.ofValue, Sem.run_bind, Sem.run_pure, Result.andThen_ok, invoke, callFunc, run_program, V, Z, a0, a2, Bool.false_eq_true, if_false]
theorem AtE.callV (g : FuncId) (first O M : List Value) {L1 : SHeap} {K : Value → SHeap → Prop} {K' : List PanicEntry → SHeap → Prop} (h : (asCallV nt k e, L) = (some (.func (.func g) ⟨first⟩ ⟨O⟩, M), L1)) (a2 : FnReady P g)
  (H : CallP P g ⟨first ++ M ++ O⟩ L1 S w0 K K') (hn : ∀ v L', K v L' → AtE P f nt (nextK k) (putE e (curDst nt k e) v) L' S w0 G) (hp : ∀ V L', K' V L' → RaiseE P f nt e V L' S w0 G) : AtE P f nt k e L S w0 G := by
 simp only [Prod.mk.injEq] at h
 obtain ⟨h, rfl⟩ := h
 obtain ⟨o, c, x, Z, a3, a5, a4, a1⟩ := asCallV_spec h
 have a0 : curO nt k e = o := by simp [curO, Z]
 exact AtE.callP g _ (fun W => by rw [a0]; exact callV_run a3 a5 a4 a1 a2 W) (by rw [a0, Z]) H hn hp
def EffP (P : Program) (g : FuncId) (args : Array Value) (L0 : SHeap) (Pre : World → Prop) (K : Value → SHeap → Prop) (K' : List PanicEntry → SHeap → Prop) : Prop :=
 ∀ W, Mem L0 (L0.map (·.1)) W W → Pre W → Calls P g args W fun e W' =>
  (∃ v L', e = .returned v ∧ Mem L' (L0.map (·.1)) W W' ∧ K v L') ∨ ∃ ch L', e = .panicked ch ∧ Mem L' (L0.map (·.1)) W W' ∧ K' ch L'
theorem Mem.framed {L0 L1 L' : SHeap} {W a1 : World} (M : Mem (L0 ++ L1) S w0 W) (O : Mem L' (L0.map (·.1)) W a1) : Mem (L' ++ L1) S w0 a1 := by
 have a3 := M.nodup
 rw [List.map_append, List.nodup_append] at a3
 obtain ⟨a8, n1, a5⟩ := a3
 refine ⟨?_, ?_, ?_, ?_⟩
 ·rw [List.map_append, List.nodup_append]
  refine ⟨O.nodup, n1, ?_⟩
  intro a a6 b a2 a7
  subst a7
  obtain ⟨p, hp, rfl⟩ := List.mem_map.1 a6
  obtain ⟨q, V, Z⟩ := List.mem_map.1 a2
  rcases O.own p hp with h1 | h1
  ·have := M.lt (List.mem_append_right L0 V)
   omega
  ·exact a5 _ h1 _ a2 rfl
 ·intro p hp
  rcases List.mem_append.1 hp with hp | hp
  ·exact O.here p hp
  ·rw [O.kept.block p.1 (M.lt (List.mem_append_right _ hp)) (fun a0 => a5 _ a0 _ (List.mem_map_of_mem hp) rfl)]
   exact M.here p (List.mem_append_right _ hp)
 ·intro p hp
  rcases List.mem_append.1 hp with hp | hp
  ·rcases O.own p hp with h1 | h1
   ·exact .inl (Nat.le_trans M.kept.size h1)
   ·obtain ⟨q, V, Z⟩ := List.mem_map.1 h1
    have := M.own q (List.mem_append_left _ V)
    rw [Z] at this; exact this
  ·exact M.own p (List.mem_append_right _ hp)
 ·refine ⟨O.kept.os.trans M.kept.os, O.kept.tape.trans M.kept.tape, O.kept.output.trans M.kept.output, Nat.le_trans M.kept.size O.kept.size, fun i hi a4 => ?_⟩
  rw [O.kept.block i (Nat.lt_of_lt_of_le hi M.kept.size) (fun a0 => ?_)]
  ·exact M.kept.block i hi a4
  ·obtain ⟨q, V, Z⟩ := List.mem_map.1 a0
   rcases M.own q (List.mem_append_left _ V) with h1 | h1
   ·rw [Z] at h1; omega
   ·rw [Z] at h1; exact a4 h1
theorem CallP.eff {g : FuncId} {args : Array Value} {L0 L1 : SHeap} {a3 : World → Prop} {K k1 : Value → SHeap → Prop} {K' a5 : List PanicEntry → SHeap → Prop} (h : EffP P g args L0 a3 K K') (a8 : ∀ W, Mem L S w0 W → a3 W) (hp : (L0 ++ L1).Perm L)
  (a6 : ∀ v L', K v L' → ∃ M, (L' ++ L1).Perm M ∧ k1 v M) (a7 : ∀ O L', K' O L' → ∃ M, (L' ++ L1).Perm M ∧ a5 O M) : CallP P g args L S w0 k1 a5 := by
 intro W hm
 have V : Mem (L0 ++ L1) S w0 W := hm.perm hp
 have a4 := V.nodup
 rw [List.map_append, List.nodup_append] at a4
 refine (h W ⟨a4.1, fun p hp => V.here p (List.mem_append_left _ hp), fun p hp => .inr (List.mem_map_of_mem hp), Kept.refl _ W⟩ (a8 W hm)).mono ?_
 rintro e a9 (⟨v, L', rfl, Z, a0⟩ | ⟨O, L', rfl, Z, a0⟩)
 ·obtain ⟨M, a2, a1⟩ := a6 v L' a0
  exact .inl ⟨v, M, rfl, Mem.perm (L := L' ++ L1) (V.framed Z) a2.symm, a1⟩
 ·obtain ⟨M, a2, a1⟩ := a7 O L' a0
  exact .inr ⟨O, M, rfl, Mem.perm (L := L' ++ L1) (V.framed Z) a2.symm, a1⟩
end
section
variable {P : Program} {f nt : Nat} {k : List Item} {e : Env} {L L0 : SHeap} {S : List Nat} {w0 : World} {ops : Array Oper} {n : Nat} {kk : List Item} {R : Goal P}
theorem AtM.store (L1 : SHeap) (j off : Nat) {T : TypeId} {v : Value} (a3 : L = L0 ++ L1) (h : (asStore nt k e, isCellsL L j, fzL L j, putOk P T (cellsL L j) off v) = (some (T, .pointer (some ⟨blkL L j, off, none⟩), v), true, (0, 0), true))
  (hn : AtM P f nt ops n kk L0 (nextK k) (putE e (curDst nt k e) undef) (setL L j (putD P T (cellsL L j) off v)) S w0 R) : AtM P f nt ops n kk L0 k e L S w0 R := by
 simp only [Prod.mk.injEq] at h
 obtain ⟨V, M, Z, a0⟩ := h
 obtain ⟨o, x, y, a1, a4, a5, a6⟩ := asStore_spec V
 cases hp : putC P T (cellsL L j) off v with
 | none => simp [putOk, hp] at a0
 | some c' =>
  have a2 : putD P T (cellsL L j) off v = c' := by simp [putD, hp]
  rw [a2] at hn
  refine AtM.opK L1 a3 a1 (fun W hm => ⟨W.setRow (blkL L j) ⟨c'⟩, ?_, hm.setRow M c'⟩) hn
  simp only [execOp, a4, a5, a6]
  have O := hm.heapAt M
  rw [Z] at O
  rw [Sem.run_bind, store_run O hp]; rfl
theorem AtM.pure (L1 : SHeap) (O : L = L0 ++ L1) (M : cur nt k e = some (curO nt k e)) (V : ∀ W, (execOp (rho e) (curO nt k e)).run P W = .ok (.value (vQ P nt k e)) W)
  (hn : AtM P f nt ops n kk L0 (nextK k) (putE e (curDst nt k e) (vQ P nt k e)) L S w0 R) : AtM P f nt ops n kk L0 k e L S w0 R :=
 AtM.opW L1 O M fun W hm => ⟨_, L, W, V W, hm, hn⟩
theorem AtM.appendS (L1 : SHeap) {T U E : TypeId} {z : Value} {sz bytes : Nat} {x : Value} (m : Nat) (M : List Value) (b3 : L = L0 ++ L1)
  (h : (asBuiltin nt k e, P.underlying T, infoZ P E, z.cells.size) = (some (.append, [.slice none 0 0, x], [T, U]), some (.slice E), some (some z, sz, bytes), sz))
  (b5 : ∀ W, Mem L S w0 W → Go.Src P sz U x m M W) (a7 : m ≤ 9223372036854775807 ∧ m * bytes ≤ 140737488355328)
  (a2 : m = 0 → AtM P f nt ops n kk L0 (nextK k) (putE e (curDst nt k e) (.slice none 0 0)) L S w0 R)
  (hn : 0 < m → ∀ B cap r, m ≤ cap → (M ++ r).length = cap * sz → AtM P f nt ops n kk L0 (nextK k) (putE e (curDst nt k e) (.slice (some ⟨B, 0, none⟩) m cap)) (L ++ [(B, .cells ⟨M ++ r⟩ E)]) S w0 R) : AtM P f nt ops n kk L0 k e L S w0 R := by
 simp only [Prod.mk.injEq] at h
 obtain ⟨a3, Z, a4, a5⟩ := h
 obtain ⟨o, cl, a9, b4, b0, a6, b6⟩ := asBuiltin_spec a3
 obtain ⟨i, hi, b7, a1, a8⟩ := info_open a4
 refine AtM.opW L1 b3 a9 fun W hm => ?_
 rw [run_builtin b4 b0 a6 b6 (by simp) W]
 have V := b5 W hm
 rcases Nat.eq_zero_or_pos m with hz0 | hp
 ·subst hz0
  have a0 := V.newsLen
  rw [Nat.zero_mul] at a0
  obtain rfl : M = [] := List.length_eq_zero_iff.1 a0
  have O := run_append_nothing W T U o.type E i Z hi none 0 0 (Nat.le_refl _) x (by rw [a1]; exact V)
  exact ⟨_, L, W, run_lift O, hm, a2 rfl⟩
 ·have O := run_append_grow_src W T U o.type E i z Z hi b7 none 0 0 [] (by simp [Builtin.firstCells]) x m M (by rw [a1]; exact V) (by omega) (by omega) (growslice_fits (by omega) (by rw [a8, Nat.zero_add]; exact a7.2))
  have b1 : (([] ++ M).toArray ++ Builtin.zeroCells z.cells (grownCap W (0 + m) 0 E - (0 + m))) = ⟨M ++ (Builtin.zeroCells z.cells (grownCap W (0 + m) 0 E - (0 + m))).toList⟩ := by
   apply Array.toList_inj.1; simp
  rw [b1] at O
  refine ⟨_, _, _, run_lift O, hm.drew.alloc _, ?_⟩
  have := hn hp W.heap.size (grownCap W (0 + m) 0 E) (Builtin.zeroCells z.cells (grownCap W (0 + m) 0 E - (0 + m))).toList ?_ ?_
  ·simpa using this
  ·have := grownCap_ge W (0 + m) 0 E
   omega
  ·rw [List.length_append, zeroCells_len, V.newsLen, a5, ← Nat.add_mul]
   congr 1
   have := grownCap_ge W (0 + m) 0 E
   omega
theorem AtE.loadT {b off : Nat} {T : TypeId} {v : Value} {c : List Value} (h : asLoad nt k e = some (T, .pointer (some ⟨b, off, none⟩))) (M : ∃ t fz, (b, Obj.cells ⟨c⟩ t fz) ∈ L) (a0 : valAt P T c off = some v)
  (hn : AtE P f nt (nextK k) (putE e (curDst nt k e) v) L S w0 R) : AtE P f nt k e L S w0 R := by
 obtain ⟨o, x, O, Z, a1⟩ := asLoad_spec h
 refine AtE.opV O (fun W hm => ?_) hn
 simp only [execOp, Z, a1]
 obtain ⟨t, fz, V⟩ := M
 exact run_lift (load_run (t := t) (fz := fz) (hm.here _ V) a0)
theorem AtE.indexAddrP {E : TypeId} {p : Option Addr} {b o len cap sz o' : Nat} {kd : IntKind} {i : Int} (hp : p = some ⟨b, o, none⟩) (h : (asIndexAddr P nt k e, (P.info? E).map (·.size)) = (some (some (.slice E), .slice p len cap, .int kd i), some sz))
  (M : 0 ≤ i ∧ i < len) (O : o' = o + i.toNat * sz) (hn : AtE P f nt (nextK k) (putE e (curDst nt k e) (.pointer (some ⟨b, o', none⟩))) L S w0 R) : AtE P f nt k e L S w0 R := by
 subst hp; exact AtE.indexAddrL h M O hn
theorem AtQ.indexAddrP {E : TypeId} {p : Option Addr} {b o len cap sz o' : Nat} {kd : IntKind} {i : Int} (hp : p = some ⟨b, o, none⟩) (h : (asIndexAddr P nt k e, (P.info? E).map (·.size)) = (some (some (.slice E), .slice p len cap, .int kd i), some sz))
  (M : 0 ≤ i ∧ i < len) (O : o' = o + i.toNat * sz) (hn : AtQ P f nt ops n kk (nextK k) (putE e (curDst nt k e) (.pointer (some ⟨b, o', none⟩))) L S w0 R) : AtQ P f nt ops n kk k e L S w0 R := by
 subst hp; exact AtQ.indexAddrL h M O hn
end
end Go.Eng
