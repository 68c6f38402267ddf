/- A part of the proof: the engine by which functions are walked, verification conditions that a program of the prover wrote, contracts and plain laws; no claim of its own. -/
import Derived.Test.YtombejccmojjbaaGreatDoorLisA
namespace Go.Eng
open Go Go.RowKit
set_option linter.unusedVariables false
variable {P : Program} {f nt : Nat} {L L0 : SHeap} {S : List Nat} {w0 : World} {ops : Array Oper}
def isIn (i : Nat) : List Nat → Bool
  | [] => false
  | j :: r => bif Nat.beq i j then true else isIn i r
theorem isIn_spec {i : Nat} : ∀ {l : List Nat}, isIn i l = true → i ∈ l
  | j :: r, h => by
    simp only [isIn] at h
    cases hb : Nat.beq i j with
    | true => rw [Nat.eq_of_beq_eq_true hb]; exact .head _
    | false => rw [hb] at h; exact .tail _ (isIn_spec h)
theorem isIn_no {i : Nat} : ∀ {l : List Nat}, isIn i l = false → i ∉ l
  | [], _ => by simp
  | j :: r, h => by
    simp only [isIn] at h
    cases hb : Nat.beq i j with
    | true => rw [hb] at h; cases h
    | false =>
      rw [hb] at h
      intro hm
      cases hm with
      | head => simp at hb
      | tail _ hm => exact isIn_no h hm
def allN (p : Nat → Bool) : Nat → Bool
  | 0 => true
  | n + 1 => bif p n then allN p n else false
theorem allN_spec {p : Nat → Bool} : ∀ {n : Nat}, allN p n = true → ∀ i, i < n → p i = true
  | n + 1, h, i, hi => by
    simp only [allN] at h
    cases hp : p n with
    | false => rw [hp] at h; cases h
    | true =>
      rw [hp] at h
      by_cases hc : i = n
      · subst hc; exact hp
      · exact allN_spec h i (by omega)
def anyN (p : Nat → Bool) : Nat → Bool
  | 0 => false
  | n + 1 => bif p n then true else anyN p n
theorem anyN_spec {p : Nat → Bool} : ∀ {n : Nat}, anyN p n = true → ∃ i, i < n ∧ p i = true
  | n + 1, h => by
    simp only [anyN] at h
    cases hp : p n with
    | true => exact ⟨n, by omega, hp⟩
    | false => rw [hp] at h; obtain ⟨i, hi, h⟩ := anyN_spec h; exact ⟨i, by omega, h⟩
def anyL (p : Nat → Bool) : List Nat → Bool
  | [] => false
  | i :: r => bif p i then true else anyL p r
theorem anyL_spec {p : Nat → Bool} : ∀ {l : List Nat}, anyL p l = true → ∃ i ∈ l, p i = true
  | i :: r, h => by
    simp only [anyL] at h
    cases hp : p i with
    | true => exact ⟨i, .head _, hp⟩
    | false => rw [hp] at h; obtain ⟨j, hj, h⟩ := anyL_spec h; exact ⟨j, .tail _ hj, h⟩
def allL (p : Nat → Bool) : List Nat → Bool
  | [] => true
  | i :: r => bif p i then allL p r else false
theorem allL_spec {p : Nat → Bool} : ∀ {l : List Nat}, allL p l = true → ∀ i ∈ l, p i = true
  | j :: r, h, i, hi => by
    simp only [allL] at h
    cases hp : p j with
    | false => rw [hp] at h; cases h
    | true =>
      rw [hp] at h
      cases hi with
      | head => exact hp
      | tail _ hi => exact allL_spec h i hi
def depsE : List Edge → List Nat
  | [] => []
  | e :: r => bif Region.binds .any e then e.on :: depsE r else depsE r
def deps (ops : Array Oper) (i : Nat) : List Nat := match ops[i]? with | some o => depsE o.after.toList | none => []
theorem depsE_mem : ∀ {l : List Edge} {e : Edge}, e ∈ l → Region.binds .any e = true → e.on ∈ depsE l
  | a :: r, e, h, hb => by
    simp only [depsE]
    cases h with
    | head => rw [hb]; exact .head _
    | tail _ h =>
      cases Region.binds .any a with
      | true => exact .tail _ (depsE_mem h hb)
      | false => exact depsE_mem h hb
theorem depsE_of : ∀ {l : List Edge} {j : Nat}, j ∈ depsE l → ∃ e ∈ l, Region.binds .any e = true ∧ e.on = j
  | a :: r, j, h => by
    simp only [depsE] at h
    cases hb : Region.binds .any a with
    | true =>
      rw [hb] at h
      cases h with
      | head => exact ⟨a, .head _, hb, rfl⟩
      | tail _ h => obtain ⟨e, he, h1, h2⟩ := depsE_of h; exact ⟨e, .tail _ he, h1, h2⟩
    | false => rw [hb] at h; obtain ⟨e, he, h1, h2⟩ := depsE_of h; exact ⟨e, .tail _ he, h1, h2⟩
def dstOf (ops : Array Oper) (i : Nat) : Option Tmp := match ops[i]? with | some o => o.dst | none => none
def tmpsOf : List Operand → List Nat
  | [] => []
  | .tmp t :: r => t :: tmpsOf r
  | _ :: r => tmpsOf r
theorem tmpsOf_mem {t : Nat} : ∀ {l : List Operand}, Operand.tmp t ∈ l → t ∈ tmpsOf l
  | .tmp u :: r, h => by
    simp only [tmpsOf]
    cases h with
    | head => exact .head _
    | tail _ h => exact .tail _ (tmpsOf_mem h)
  | .const _ :: r, h => by cases h with | tail _ h => exact tmpsOf_mem (l := r) h
  | .global _ :: r, h => by cases h with | tail _ h => exact tmpsOf_mem (l := r) h
  | .func _ :: r, h => by cases h with | tail _ h => exact tmpsOf_mem (l := r) h
def slotsOf (ops : Array Oper) (o : Oper) : List Nat :=
  (match o.guard with
    | some (j, _) => match dstOf ops j with | some d => [d] | none => []
    | none => []) ++ tmpsOf o.op.operands.toList
def slotsAt (ops : Array Oper) (i : Nat) : List Nat := match ops[i]? with | some o => slotsOf ops o | none => []
def On (ops : Array Oper) (o : Oper) (e : Env) (t : Array Value) : Prop := ∀ s ∈ slotsOf ops o, ∀ v, get? e s = some v → t[s]? = some v
theorem On.rho {o : Oper} {e : Env} {t : Array Value} (h : On ops o e t) (hk : known e o.op = true) (ds : List Deferred) : ∀ x ∈ o.op.operands.toList, (Act.mk t ds).eval x = rho e x := by
  intro x hx
  have := allSome_spec _ hk (Eng.ev e x) (List.mem_map.2 ⟨x, hx, rfl⟩)
  obtain ⟨v, hv⟩ := Option.isSome_iff_exists.1 this
  rw [Eng.rho, hv]
  cases x with
  | tmp i =>
    have := h i (List.mem_append_right _ (tmpsOf_mem hx)) v hv
    simp [Act.eval, Array.getD_eq_getD_getElem?, this]
  | const u => simp only [Eng.ev, Option.some.injEq] at hv; exact hv
  | global g => simp only [Eng.ev, Option.some.injEq] at hv; exact hv
  | func f => simp only [Eng.ev, Option.some.injEq] at hv; exact hv
theorem On.wanted {o : Oper} {e : Env} {t : Array Value} (h : On ops o e t) {b : Bool} (hw : wantedE ops e o = some b) : Region.wanted o (yielded ops t) = b := by
  unfold wantedE at hw
  unfold Region.wanted
  split at hw
  · next hg => rw [hg]; simpa using hw
  · next j want hg =>
    rw [hg]
    simp only
    unfold yielded
    split at hw
    · next ho => rw [ho]; simp at hw; subst hw; rfl
    · next oj ho =>
      rw [ho]
      simp only [Option.bind_some]
      split at hw
      · next hd => rw [hd]; simp at hw; subst hw; rfl
      · next d hd =>
        rw [hd]
        simp only [Option.bind_some]
        have hin : d ∈ slotsOf ops o := by simp [slotsOf, hg, dstOf, ho, hd]
        split at hw
        · next b' hget =>
          rw [h d hin _ hget]
          cases b' <;> cases want <;> simp at hw <;> subst hw <;> rfl
        · next vs hget =>
          rw [h d hin _ hget]
          simp at hw; subst hw; rfl
        · cases hw
def StepQ (P : Program) (nt : Nat) (ops : Array Oper) (L : SHeap) (S : List Nat) (w0 : World) (i : Nat) (e : Env) (v : Value) : Prop :=
  ∃ o, ops[i]? = some o ∧ dstOk nt o.dst = true ∧
    ((wantedE ops e o = some true ∧ known e o.op = true ∧ plainOp o.op = true ∧
        ∀ W, Mem L S w0 W → (execOp (rho e) o).run P W = .ok (.value v) W ∨ ∃ g args, (execOp (rho e) o).run P W = .ok (.enter g args) W ∧ Calls P g args W fun en W' => en = .returned v ∧ Below W.heap.size W W') ∨
     (wantedE ops e o = some false ∧ v = undef))
def gext (a b : Env) : Prop := ∀ s, get? a s = get? b s
theorem gext.put {a b : Env} (h : gext a b) (d : Option Tmp) (v : Value) : gext (putE a d v) (putE b d v) := by
  cases d with
  | none => exact h
  | some d => intro s; simp only [putE, get?, h s]
theorem gext.ev {a b : Env} (h : gext a b) (x : Operand) : ev a x = ev b x := by cases x <;> simp [Eng.ev, h _]
theorem gext.rho {a b : Env} (h : gext a b) : rho a = rho b := by funext x; simp only [Eng.rho, h.ev x]
theorem gext.known {a b : Env} (h : gext a b) (o : Op) : known a o = known b o := by
  simp only [Eng.known]; congr 1; exact List.map_congr_left fun x _ => h.ev x
theorem gext.wanted {a b : Env} (h : gext a b) (o : Oper) : wantedE ops a o = wantedE ops b o := by
  unfold wantedE; split <;> try rfl
  split <;> try rfl
  split <;> try rfl
  rw [h _]
theorem StepQ.ext {i : Nat} {a b : Env} {v : Value} (h : StepQ P nt ops L S w0 i a v) (hx : gext a b) : StepQ P nt ops L S w0 i b v := by
  obtain ⟨o, h1, h2, h3⟩ := h
  refine ⟨o, h1, h2, ?_⟩
  rw [← hx.wanted o, ← hx.known, ← hx.rho]
  exact h3
def FreeF (P : Program) (nt : Nat) (ops : Array Oper) (L : SHeap) (S : List Nat) (w0 : World) (val : Nat → Value) : List Nat → Env → (Env → Prop) → Prop
  | [], e, K => K e
  | i :: r, e, K => StepQ P nt ops L S w0 i e (val i) ∧ FreeF P nt ops L S w0 val r (putE e (dstOf ops i) (val i)) K
theorem FreeF.ext {val : Nat → Value} {K : Env → Prop} (hK : ∀ a b, gext a b → K a → K b) : ∀ {F : List Nat} {a b : Env}, gext a b → FreeF P nt ops L S w0 val F a K → FreeF P nt ops L S w0 val F b K
  | [], _, _, hx, h => hK _ _ hx h
  | i :: r, _, _, hx, h => ⟨h.1.ext hx, FreeF.ext hK (hx.put _ _) h.2⟩
theorem FreeF.congr {val val' : Nat → Value} {K : Env → Prop} : ∀ {F : List Nat} {e : Env}, (∀ j ∈ F, val j = val' j) → FreeF P nt ops L S w0 val F e K → FreeF P nt ops L S w0 val' F e K
  | [], _, _, h => h
  | i :: r, e, hv, h => by
    have hi := hv i (.head _)
    refine ⟨hi ▸ h.1, ?_⟩
    rw [← hi]
    exact FreeF.congr (fun j hj => hv j (.tail _ hj)) h.2
def Src' (ops : Array Oper) (val : Nat → Value) (F : List Nat) (e e' : Env) : Prop := ∀ s v, get? e' s = some v → get? e s = some v ∨ ∃ j ∈ F, dstOf ops j = some s ∧ val j = v
theorem Src'.put {val : Nat → Value} {F : List Nat} {e e' : Env} (h : Src' ops val F e e') {i : Nat} (hi : i ∈ F) : Src' ops val F e (putE e' (dstOf ops i) (val i)) := by
  intro s v hs
  cases hd : dstOf ops i with
  | none => rw [hd] at hs; exact h s v hs
  | some d =>
    rw [hd] at hs
    simp only [putE, get?] at hs
    cases hb : Nat.beq d s with
    | true =>
      rw [hb] at hs
      simp only [cond_true, Option.some.injEq] at hs
      exact .inr ⟨i, hi, by rw [hd, Nat.eq_of_beq_eq_true hb], hs⟩
    | false => rw [hb] at hs; exact h s v hs
theorem FreeF.get {val : Nat → Value} {K : Env → Prop} {F0 : List Nat} {e0 : Env} : ∀ {F : List Nat} {e : Env}, (∀ i ∈ F, i ∈ F0) → Src' ops val F0 e0 e → FreeF P nt ops L S w0 val F e K →
    (∀ i ∈ F, ∃ e', StepQ P nt ops L S w0 i e' (val i) ∧ Src' ops val F0 e0 e') ∧ ∃ e', K e' ∧ Src' ops val F0 e0 e'
  | [], e, _, hs, h => ⟨fun i hi => (by cases hi), e, h, hs⟩
  | i :: r, e, hF, hs, h => by
    obtain ⟨h1, h2⟩ := FreeF.get (fun j hj => hF j (.tail _ hj)) (hs.put (hF i (.head _))) h.2
    refine ⟨fun j hj => ?_, h2⟩
    cases hj with
    | head => exact ⟨e, h.1, hs⟩
    | tail _ hj => exact h1 j hj
def AtF (P : Program) (nt : Nat) (k : List Item) (e : Env) (L : SHeap) (S : List Nat) (w0 : World) (K : Env → Prop) : Prop :=
  ∀ ops F, k = [.inRegion ops F] → F.Nodup → ∃ val, FreeF P nt ops L S w0 val F e fun e' => ∃ eF, (∀ s v, get? eF s = some v → get? e' s = some v) ∧ K eF
variable {k : List Item} {e : Env} {K : Env → Prop}
def doneK : List Item → Bool
  | [.inRegion _ []] => true
  | _ => false
theorem AtF.done (h : doneK k = true) (hn : K e) : AtF P nt k e L S w0 K := by
  intro ops' F hk _
  rw [hk] at h
  unfold doneK at h
  split at h
  · next hh =>
    simp only [List.cons.injEq, Item.inRegion.injEq, and_true] at hh
    obtain ⟨_, rfl⟩ := hh
    exact ⟨fun _ => undef, e, fun _ _ h => h, hn⟩
  · cases h
theorem AtF.push {i : Nat} {v : Value} (h : get? e i = some v) (hn : AtF P nt k ((i, v) :: e) L S w0 K) : AtF P nt k e L S w0 K := by
  intro ops F hk hF
  obtain ⟨val, hf⟩ := hn ops F hk hF
  refine ⟨val, FreeF.ext ?_ (fun s => ?_) hf⟩
  · rintro a b hx ⟨eF, h1, h2⟩
    exact ⟨eF, fun s v hs => by rw [← hx s]; exact h1 s v hs, h2⟩
  · simp only [get?]
    cases hb : Nat.beq i s with
    | true => rw [← Nat.eq_of_beq_eq_true hb, h]; rfl
    | false => rfl
theorem AtF.opQ {o : Oper} {v : Value} (hc : cur nt k e = some o)
    (hr : ∀ W, Mem L S w0 W → (execOp (rho e) o).run P W = .ok (.value v) W ∨ ∃ g args, (execOp (rho e) o).run P W = .ok (.enter g args) W ∧ Calls P g args W fun en W' => en = .returned v ∧ Below W.heap.size W W')
    (hn : AtF P nt (nextK k) (putE e (curDst nt k e) v) L S w0 K) : AtF P nt k e L S w0 K := by
  intro ops F hk hF
  obtain ⟨ops', i, rest, k', rfl, ho, hw, hkn, hp, hd⟩ := cur_spec hc
  simp only [List.cons.injEq, Item.inRegion.injEq] at hk
  obtain ⟨⟨rfl, rfl⟩, rfl⟩ := hk
  have hcd : curDst nt (.inRegion ops' (i :: rest) :: []) e = o.dst := by simp only [curDst, hc]
  rw [hcd] at hn
  obtain ⟨val, hf⟩ := hn ops' rest rfl (List.nodup_cons.1 hF).2
  have hni := (List.nodup_cons.1 hF).1
  have hdo : dstOf ops' i = o.dst := by simp only [dstOf, ho]
  refine ⟨fun j => if j = i then v else val j, ?_, ?_⟩
  · show StepQ P nt ops' L S w0 i e (if i = i then v else val i)
    rw [if_pos rfl]
    exact ⟨o, ho, hd, .inl ⟨hw, hkn, hp, hr⟩⟩
  · simp only [if_true, hdo]
    exact FreeF.congr (fun j hj => by rw [if_neg (fun h : j = i => hni (h ▸ hj))]) hf
theorem AtF.opV {o : Oper} {v : Value} (hc : cur nt k e = some o) (hr : ∀ W, Mem L S w0 W → (execOp (rho e) o).run P W = .ok (.value v) W)
    (hn : AtF P nt (nextK k) (putE e (curDst nt k e) v) L S w0 K) : AtF P nt k e L S w0 K :=
  AtF.opQ hc (fun W hm => .inl (hr W hm)) hn
theorem AtF.pure (hc : cur nt k e = some (curO nt k e)) (h : ∀ W, (execOp (rho e) (curO nt k e)).run P W = .ok (.value (vQ P nt k e)) W)
    (hn : AtF P nt (nextK k) (putE e (curDst nt k e) (vQ P nt k e)) L S w0 K) : AtF P nt k e L S w0 K :=
  AtF.opV hc (fun W _ => h W) hn
theorem AtF.skip (h : skipO nt k e = some (skipD nt k e)) (hn : AtF P nt (nextK k) (putE e (skipD nt k e) undef) L S w0 K) : AtF P nt k e L S w0 K := by
  intro ops F hk hF
  generalize skipD nt k e = d at h hn
  unfold skipO at h
  split at h
  · next ops' i rest k' =>
    simp only [List.cons.injEq, Item.inRegion.injEq] at hk
    obtain ⟨⟨rfl, rfl⟩, rfl⟩ := hk
    split at h
    · next o ho =>
      split at h
      · next hw =>
        cases hd : dstOk nt o.dst with
        | false => simp [hd] at h
        | true =>
          simp only [hd, cond_true, Option.some.injEq] at h
          subst h
          obtain ⟨val, hf⟩ := hn ops' rest rfl (List.nodup_cons.1 hF).2
          have hni := (List.nodup_cons.1 hF).1
          have hdo : dstOf ops' i = o.dst := by simp only [dstOf, ho]
          refine ⟨fun j => if j = i then undef else val j, ?_, ?_⟩
          · show StepQ P nt ops' L S w0 i e (if i = i then undef else val i)
            rw [if_pos rfl]
            exact ⟨o, ho, hd, .inr ⟨hw, rfl⟩⟩
          · simp only [if_true, hdo]
            exact FreeF.congr (fun j hj => by rw [if_neg (fun h : j = i => hni (h ▸ hj))]) hf
      · cases h
    · cases h
  · cases h
def QCallB (P : Program) (g : FuncId) (args : Array Value) (L : SHeap) (S : List Nat) (w0 : World) (v : Value) : Prop := ∀ W, Mem L S w0 W → Calls P g args W fun en W' => en = .returned v ∧ Below W.heap.size W W'
theorem QCallB.of {g : FuncId} {args : Array Value} {v : Value} (h : PureC P g args v) : QCallB P g args L S w0 v := fun W _ => h W
theorem AtF.call (g : FuncId) (args : Array Value) {v : Value} {L1 : SHeap} (hr : ∀ W, (execOp (rho e) (curO nt k e)).run P W = .ok (.enter g args) W) (hc : (cur nt k e, L) = (some (curO nt k e), L1)) (h : QCallB P g args L1 S w0 v)
    (hn : AtF P nt (nextK k) (putE e (curDst nt k e) v) L1 S w0 K) : AtF P nt k e L S w0 K := by
  simp only [Prod.mk.injEq] at hc
  obtain ⟨hc, rfl⟩ := hc
  exact AtF.opQ hc (fun W hm => .inr ⟨g, args, hr W, h W hm⟩) hn
def LoudOp (P : Program) (nt : Nat) (ops : Array Oper) (L : SHeap) (S : List Nat) (w0 : World) (m : Nat) (E : Env) (K : Value → SHeap → Prop) : Prop :=
  ∃ o, ops[m]? = some o ∧ dstOk nt o.dst = true ∧
    ((wantedE ops E o = some true ∧ known E o.op = true ∧ plainOp o.op = true ∧
        ∀ W, Mem L S w0 W → (∃ v L' W', (execOp (rho E) o).run P W = .ok (.value v) W' ∧ Mem L' S w0 W' ∧ K v L') ∨
          (∃ L' W', (execOp (rho E) o).run P W = .ok .skip W' ∧ Mem L' S w0 W' ∧ K undef L') ∨
          ∃ g args, (execOp (rho E) o).run P W = .ok (.enter g args) W ∧ Calls P g args W fun en W' => ∃ v L', en = .returned v ∧ Mem L' S w0 W' ∧ K v L') ∨
     (wantedE ops E o = some false ∧ K undef L))
def firstN (n s : Nat) : Array Bool := ⟨List.replicate n true ++ List.replicate (s - n) false⟩
def AtD (P : Program) (f nt : Nat) (ops : Array Oper) (n : Nat) (kk : List Item) (e : Env) (L : SHeap) (S : List Nat) (w0 : World) (R : Goal P) : Prop :=
  ∀ t, AtE P f nt (.inRegion ops (Region.linearise.go .any ops (ops.size - n) t (firstN n ops.size) []) :: kk) e L S w0 R
def AtMl (P : Program) (f nt : Nat) (ops : Array Oper) (n : Nat) (kk : List Item) (L0 : SHeap) (S : List Nat) (w0 : World) (R : Goal P) : List Nat → Env → SHeap → Prop
  | [], E, L => (∃ L1, L = L0 ++ L1) ∧ AtD P f nt ops n kk E L S w0 R
  | m :: r, E, L => (∃ L1, L = L0 ++ L1) ∧ LoudOp P nt ops L S w0 m E fun v L' => AtMl P f nt ops n kk L0 S w0 R r (putE E (dstOf ops m) v) L'
def AtM (P : Program) (f nt : Nat) (ops : Array Oper) (n : Nat) (kk : List Item) (L0 : SHeap) (k : List Item) (e : Env) (L : SHeap) (S : List Nat) (w0 : World) (R : Goal P) : Prop :=
  ∀ M, k = [.inRegion ops M] → AtMl P f nt ops n kk L0 S w0 R M e L
variable {n : Nat} {kk : List Item} {R : Goal P}
theorem AtM.done (L1 : SHeap) (h : k = [.inRegion ops []]) (hl : L = L0 ++ L1) (hn : AtD P f nt ops n kk e L S w0 R) : AtM P f nt ops n kk L0 k e L S w0 R := by
  intro M hk
  rw [h] at hk
  simp only [List.cons.injEq, Item.inRegion.injEq, true_and, and_true] at hk
  subst hk
  exact ⟨⟨L1, hl⟩, hn⟩
theorem AtM.skip (L1 : SHeap) (h : skipO nt k e = some (skipD nt k e)) (hl : L = L0 ++ L1) (hn : AtM P f nt ops n kk L0 (nextK k) (putE e (skipD nt k e) undef) L S w0 R) : AtM P f nt ops n kk L0 k e L S w0 R := by
  intro M hk
  generalize skipD nt k e = d at h hn
  unfold skipO at h
  split at h
  · next ops' i rest k' =>
    simp only [List.cons.injEq, Item.inRegion.injEq] at hk
    obtain ⟨⟨rfl, rfl⟩, rfl⟩ := hk
    split at h
    · next o ho =>
      split at h
      · next hw =>
        cases hd : dstOk nt o.dst with
        | false => simp [hd] at h
        | true =>
          simp only [hd, cond_true, Option.some.injEq] at h
          subst h
          have hdo : dstOf ops' i = o.dst := by simp only [dstOf, ho]
          refine ⟨⟨L1, hl⟩, o, ho, hd, .inr ⟨hw, ?_⟩⟩
          rw [hdo]
          exact hn rest rfl
      · cases h
    · cases h
  · cases h
theorem AtM.new (L1 : SHeap) (mk : Nat → Value) (o : Obj) (hl : L = L0 ++ L1) (h : ∀ W, (execOp (rho e) (curO nt k e)).run P W = .ok (.value (mk W.heap.size)) { W with heap := W.heap.push o }) (hc : cur nt k e = some (curO nt k e))
    (hn : ∀ B, AtM P f nt ops n kk L0 (nextK k) (putE e (curDst nt k e) (mk B)) (L ++ [(B, o)]) S w0 R) : AtM P f nt ops n kk L0 k e L S w0 R := by
  intro M hk
  have hcd : curDst nt k e = (curO nt k e).dst := by simp only [curDst, hc]
  rw [hcd] at hn
  generalize curO nt k e = o' at h hc hn
  obtain ⟨ops', i, rest, k', rfl, ho, hw, hkn, hp, hd⟩ := cur_spec hc
  simp only [List.cons.injEq, Item.inRegion.injEq] at hk
  obtain ⟨⟨rfl, rfl⟩, rfl⟩ := hk
  have hdo : dstOf ops' i = o'.dst := by simp only [dstOf, ho]
  refine ⟨⟨L1, hl⟩, o', ho, hd, .inl ⟨hw, hkn, hp, fun W hm => .inl ⟨mk W.heap.size, _, _, h W, hm.alloc o, ?_⟩⟩⟩
  rw [hdo]
  exact hn W.heap.size rest rfl
theorem AtM.call (L1 : SHeap) (g : FuncId) (args : Array Value) {L2 : SHeap} {K : Value → SHeap → Prop} (hl : L = L0 ++ L1) (hr : ∀ W, (execOp (rho e) (curO nt k e)).run P W = .ok (.enter g args) W)
    (hc : (cur nt k e, L) = (some (curO nt k e), L2)) (h : CallH P g args L2 S w0 K)
    (hn : ∀ v L', K v L' → AtM P f nt ops n kk L0 (nextK k) (putE e (curDst nt k e) v) L' S w0 R) : AtM P f nt ops n kk L0 k e L S w0 R := by
  intro M hk
  simp only [Prod.mk.injEq] at hc
  obtain ⟨hc, rfl⟩ := hc
  have hcd : curDst nt k e = (curO nt k e).dst := by simp only [curDst, hc]
  rw [hcd] at hn
  generalize curO nt k e = o' at hr hc hn
  obtain ⟨ops', i, rest, k', rfl, ho, hw, hkn, hp, hd⟩ := cur_spec hc
  simp only [List.cons.injEq, Item.inRegion.injEq] at hk
  obtain ⟨⟨rfl, rfl⟩, rfl⟩ := hk
  have hdo : dstOf ops' i = o'.dst := by simp only [dstOf, ho]
  refine ⟨⟨L1, hl⟩, o', ho, hd, .inl ⟨hw, hkn, hp, fun W hm => .inr (.inr ⟨g, args, hr W, (h W hm).mono fun en W' hh => ?_⟩)⟩⟩
  obtain ⟨v, L', he, hm', hK⟩ := hh
  refine ⟨v, L', he, hm', ?_⟩
  rw [hdo]
  exact hn v L' hK rest rfl
theorem AtM.opK (L1 : SHeap) {o' : Oper} {L' : SHeap} (hl : L = L0 ++ L1) (hc : cur nt k e = some o') (hr : ∀ W, Mem L S w0 W → ∃ W', (execOp (rho e) o').run P W = .ok .skip W' ∧ Mem L' S w0 W')
    (hn : AtM P f nt ops n kk L0 (nextK k) (putE e (curDst nt k e) undef) L' S w0 R) : AtM P f nt ops n kk L0 k e L S w0 R := by
  intro M hk
  have hcd : curDst nt k e = o'.dst := by simp only [curDst, hc]
  rw [hcd] at hn
  obtain ⟨ops', i, rest, k', rfl, ho, hw, hkn, hp, hd⟩ := cur_spec hc
  simp only [List.cons.injEq, Item.inRegion.injEq] at hk
  obtain ⟨⟨rfl, rfl⟩, rfl⟩ := hk
  have hdo : dstOf ops' i = o'.dst := by simp only [dstOf, ho]
  refine ⟨⟨L1, hl⟩, o', ho, hd, .inl ⟨hw, hkn, hp, fun W hm => .inr (.inl ?_)⟩⟩
  obtain ⟨W', h1, h2⟩ := hr W hm
  refine ⟨L', W', h1, h2, ?_⟩
  rw [hdo]
  exact hn rest rfl
theorem AtM.opW (L1 : SHeap) {o' : Oper} (hl : L = L0 ++ L1) (hc : cur nt k e = some o')
    (hr : ∀ W, Mem L S w0 W → ∃ v L' W', (execOp (rho e) o').run P W = .ok (.value v) W' ∧ Mem L' S w0 W' ∧ AtM P f nt ops n kk L0 (nextK k) (putE e (curDst nt k e) v) L' S w0 R) : AtM P f nt ops n kk L0 k e L S w0 R := by
  intro M hk
  have hcd : curDst nt k e = o'.dst := by simp only [curDst, hc]
  rw [hcd] at hr
  obtain ⟨ops', i, rest, k', rfl, ho, hw, hkn, hp, hd⟩ := cur_spec hc
  simp only [List.cons.injEq, Item.inRegion.injEq] at hk
  obtain ⟨⟨rfl, rfl⟩, rfl⟩ := hk
  have hdo : dstOf ops' i = o'.dst := by simp only [dstOf, ho]
  refine ⟨⟨L1, hl⟩, o', ho, hd, .inl ⟨hw, hkn, hp, fun W hm => .inl ?_⟩⟩
  obtain ⟨v, L', W', h1, h2, h3⟩ := hr W hm
  refine ⟨v, L', W', h1, h2, ?_⟩
  rw [hdo]
  exact h3 rest rfl
def hasDst (ops : Array Oper) (j : Nat) (l : List Nat) : Bool := match dstOf ops j with | some d => isIn d l | none => false
def sameDst (ops : Array Oper) (i j : Nat) : Bool := match dstOf ops i with
  | some d => match dstOf ops j with | some d' => Nat.beq d d' | none => false
  | none => false
def bothB (a b : Bool) : Bool := bif a then b else true
def chainM (ops : Array Oper) : List Nat → Bool
  | [] => true
  | [_] => true
  | a :: b :: r => bif isIn a (deps ops b) then chainM ops (b :: r) else false
def ndB : List Nat → Bool
  | [] => true
  | a :: r => bif isIn a r then false else ndB r
def freeOf (e : Env) (o : Option Tmp) : Bool := match o with | some d => (match get? e d with | some _ => false | none => true) | none => true
def chainU (ops : Array Oper) (n : Nat) : Bool := allN (fun t => bif Nat.ble t n then true else anyL (fun s => Nat.ble n s) (deps ops t)) ops.size
def planB (ops : Array Oper) (n1 n : Nat) (e : Env) (F M : List Nat) : Bool :=
  Nat.ble n1 n && (Nat.ble n ops.size && ((Nat.beq n ops.size || (allN (fun i => bif Nat.blt i n1 then true else anyN (fun j => bif Nat.blt i j then isIn i (deps ops j) else false) (n + 1)) n && chainU ops n)) &&
    (allN (fun i => bif Nat.blt i n1 then true else bif isIn i F then !isIn i M else isIn i M) n && (ndB F && (ndB M && (allL (fun i => Nat.ble n1 i && Nat.blt i n) F && (allL (fun i => Nat.ble n1 i && Nat.blt i n) M &&
    (allN (fun i => allL (fun j => Nat.blt j i) (deps ops i)) n && (allN (fun i => bif Nat.blt i n1 then true else freeOf e (dstOf ops i)) n && (chainM ops M &&
    allN (fun i => bif Nat.blt i n1 then true else allN (fun j => bif Nat.blt j n1 then true else bothB (hasDst ops j (slotsAt ops i)) (isIn j (deps ops i)) && bothB (sameDst ops i j) (Nat.beq i j)) n) n))))))))))
theorem ndB_spec : ∀ {l : List Nat}, ndB l = true → l.Nodup
  | [], _ => by simp
  | a :: r, h => by
    simp only [ndB] at h
    cases hb : isIn a r with
    | true => rw [hb] at h; cases h
    | false => rw [hb] at h; exact List.nodup_cons.2 ⟨isIn_no hb, ndB_spec h⟩
theorem isIn_of {i : Nat} {l : List Nat} (h : i ∈ l) : isIn i l = true := by
  cases hb : isIn i l with
  | true => rfl
  | false => exact absurd h (isIn_no hb)
structure Plan (ops : Array Oper) (n1 n : Nat) (e : Env) (F M : List Nat) : Prop where
  le1 : n1 ≤ n
  le : n ≤ ops.size
  sink : n < ops.size → (∀ i, n1 ≤ i → i < n → ∃ j, i < j ∧ j ≤ n ∧ i ∈ deps ops j) ∧ ∀ t, n < t → t < ops.size → ∃ s ∈ deps ops t, n ≤ s
  cover : ∀ i, n1 ≤ i → i < n → i ∈ F ∨ i ∈ M
  apart : ∀ i ∈ F, i ∉ M
  nodF : F.Nodup
  nodM : M.Nodup
  inF : ∀ i ∈ F, n1 ≤ i ∧ i < n
  inM : ∀ i ∈ M, n1 ≤ i ∧ i < n
  back : ∀ i, i < n → ∀ j ∈ deps ops i, j < i
  fresh : ∀ i, n1 ≤ i → i < n → ∀ d, dstOf ops i = some d → get? e d = none
  chain : chainM ops M = true
  reads : ∀ i, n1 ≤ i → i < n → ∀ j, n1 ≤ j → j < n → ∀ d, dstOf ops j = some d → d ∈ slotsAt ops i → j ∈ deps ops i
  dst : ∀ i, n1 ≤ i → i < n → ∀ j, n1 ≤ j → j < n → ∀ d, dstOf ops i = some d → dstOf ops j = some d → i = j
theorem blt_no {a b : Nat} (h : b ≤ a) : Nat.blt a b = false := by
  cases hb : Nat.blt a b with
  | false => rfl
  | true => simp only [Nat.blt_eq] at hb; omega
theorem Plan.of {n1 : Nat} {F M : List Nat} (h : planB ops n1 n e F M = true) : Plan ops n1 n e F M := by
  simp only [planB, Bool.and_eq_true, Bool.or_eq_true] at h
  obtain ⟨h1, h2, h3, h5, h6, h7, h8, h9, h10, h11, h12, h13⟩ := h
  have hF : ∀ i ∈ F, n1 ≤ i ∧ i < n := fun i hi => by
    have := allL_spec h8 i hi
    simp only [Bool.and_eq_true, Nat.blt_eq] at this
    exact ⟨Nat.le_of_ble_eq_true this.1, this.2⟩
  have hM : ∀ i ∈ M, n1 ≤ i ∧ i < n := fun i hi => by
    have := allL_spec h9 i hi
    simp only [Bool.and_eq_true, Nat.blt_eq] at this
    exact ⟨Nat.le_of_ble_eq_true this.1, this.2⟩
  refine ⟨Nat.le_of_ble_eq_true h1, Nat.le_of_ble_eq_true h2, fun hlt => ?_, fun i hi1 hi => ?_, fun i hi hm => ?_, ndB_spec h6, ndB_spec h7, hF, hM, fun i hi j hj => ?_, fun i hi1 hi d hd => ?_, h12, fun i hi1 hi j hj1 hj d hd hs => ?_, fun i hi1 hi j hj1 hj d hd hd' => ?_⟩
  · rcases h3 with h3 | ⟨h3, h4⟩
    · have := Nat.eq_of_beq_eq_true h3; omega
    · refine ⟨fun i hi1 hi => ?_, fun t ht hts => ?_⟩
      · have := allN_spec h3 i hi
        simp only [blt_no hi1, cond_false] at this
        obtain ⟨j, hj, hb⟩ := anyN_spec this
        cases hc : Nat.blt i j with
        | false => rw [hc] at hb; cases hb
        | true =>
          rw [hc] at hb
          simp only [Nat.blt_eq] at hc
          exact ⟨j, hc, by omega, isIn_spec hb⟩
      · have := allN_spec h4 t hts
        have hn : Nat.ble t n = false := by
          cases hb : Nat.ble t n with
          | false => rfl
          | true => have := Nat.le_of_ble_eq_true hb; omega
        rw [hn] at this
        obtain ⟨s, hs, hb⟩ := anyL_spec this
        exact ⟨s, hs, Nat.le_of_ble_eq_true hb⟩
  · have := allN_spec h5 i hi
    simp only [blt_no hi1, cond_false] at this
    cases hb : isIn i F with
    | true => exact .inl (isIn_spec hb)
    | false => rw [hb] at this; exact .inr (isIn_spec this)
  · have := allN_spec h5 i (hF i hi).2
    simp only [blt_no (hF i hi).1, cond_false, isIn_of hi, isIn_of hm] at this
    cases this
  · have := allL_spec (allN_spec h10 i hi) j hj
    simpa [Nat.blt_eq] using this
  · have := allN_spec h11 i hi
    simp only [blt_no hi1, cond_false, hd, freeOf] at this
    cases hg : get? e d with
    | none => rfl
    | some u => rw [hg] at this; cases this
  · have := allN_spec h13 i hi
    simp only [blt_no hi1, cond_false] at this
    have := allN_spec this j hj
    simp only [blt_no hj1, cond_false, Bool.and_eq_true, hasDst, hd, isIn_of hs, bothB, cond_true] at this
    exact isIn_spec this.1
  · have := allN_spec h13 i hi
    simp only [blt_no hi1, cond_false] at this
    have := allN_spec this j hj
    have hbb : Nat.beq d d = true := by simp
    simp only [blt_no hj1, cond_false, Bool.and_eq_true, sameDst, hd, hd', hbb, bothB, cond_true] at this
    exact Nat.eq_of_beq_eq_true this.2
theorem Plan.waits {n1 : Nat} {F M : List Nat} (hp : Plan ops n1 n e F M) (hlt : n < ops.size) {listed : Array Bool} (inv : HeadInv .any ops n listed) (hlow : ∀ j, j < n1 → listed.getD j false = true) :
    ∀ (d i : Nat), n - i = d → i < n → listed.getD i false = false → ∀ t, n ≤ t → t ∉ Region.ready .any ops listed := by
  obtain ⟨hs, hc⟩ := hp.sink hlt
  intro d
  induction d using Nat.strongRecOn with
  | _ d ih =>
    intro i hd hi hun t ht hr
    have hi1 : n1 ≤ i := by
      rcases Nat.lt_or_ge i n1 with h | h
      · rw [hlow i h] at hun; cases hun
      · exact h
    obtain ⟨_, ot, hot, hall⟩ := mem_ready.1 hr
    have htlt : t < ops.size := (Array.getElem?_eq_some_iff.1 hot).1
    have hdep : ∀ j ∈ deps ops t, listed.getD j false = true := fun j hj => by
      simp only [deps, hot] at hj
      obtain ⟨ed, hed, hb, rfl⟩ := depsE_of hj
      exact hall ed (Array.mem_toList_iff.1 hed) hb
    by_cases htn : t = n
    · subst htn
      obtain ⟨j, hij, hjn, hjd⟩ := hs i hi1 hi
      by_cases hjt : j = t
      · subst hjt
        rw [hdep i hjd] at hun; cases hun
      · cases hl : listed.getD j false with
        | true =>
          have hjs : j < ops.size := by omega
          simp only [deps, Array.getElem?_eq_getElem hjs] at hjd
          obtain ⟨ed, hed, hb, rfl⟩ := depsE_of hjd
          rw [inv.closed j _ (Array.getElem?_eq_getElem hjs) hl ed (Array.mem_toList_iff.1 hed) hb] at hun
          cases hun
        | false => exact ih (t - j) (by omega) j rfl (by omega) hl t (Nat.le_refl _) hr
    · obtain ⟨s, hs1, hs2⟩ := hc t (by omega) htlt
      have h2 := hdep s hs1
      have hss : s < ops.size := by
        rcases Nat.lt_or_ge s listed.size with h | h
        · rw [inv.size] at h; exact h
        · simp [Array.getElem?_eq_none h] at h2
      rw [getD_both (inv.tail s hs2 hss)] at h2
      cases h2
theorem firstN_get {n s j : Nat} : (firstN n s)[j]? = if j < n then some true else if j < n + (s - n) then some false else none := by
  simp only [firstN, List.getElem?_toArray]
  split
  · next h => rw [List.getElem?_append_left (by simpa using h), List.getElem?_replicate, if_pos h]
  · next h =>
    rw [List.getElem?_append_right (by simpa using h), List.getElem?_replicate, List.length_replicate]
    split
    · next h' => rw [if_pos (by omega)]
    · next h' => rw [if_neg (by omega)]
theorem firstN_lt {n s j : Nat} (h : j < n) : (firstN n s).getD j false = true := by rw [Array.getD_eq_getD_getElem?, firstN_get, if_pos h]; rfl
theorem firstN_ge {n s j : Nat} (h : n ≤ j) : (firstN n s).getD j false = false := by
  rw [Array.getD_eq_getD_getElem?, firstN_get, if_neg (by omega)]
  split <;> rfl
theorem firstN_size {n s : Nat} (h : n ≤ s) : (firstN n s).size = s := by simp [firstN]; omega
theorem firstN_zero (s : Nat) : firstN 0 s = Array.replicate s false := by simp [firstN, ← List.toArray_replicate]
theorem chainM_head {h : Nat} : ∀ {r : List Nat}, chainM ops (h :: r) = true → ∀ m ∈ r, ∃ p ∈ h :: r, p ∈ deps ops m
  | b :: r, hc, m, hm => by
    simp only [chainM] at hc
    cases hb : isIn h (deps ops b) with
    | false => rw [hb] at hc; cases hc
    | true =>
      rw [hb] at hc
      cases hm with
      | head => exact ⟨h, .head _, isIn_spec hb⟩
      | tail _ hm =>
        obtain ⟨p, hp, hpd⟩ := chainM_head (h := b) hc m hm
        exact ⟨p, .tail _ hp, hpd⟩
theorem chainM_tail {h : Nat} : ∀ {r : List Nat}, chainM ops (h :: r) = true → chainM ops r = true
  | [], _ => rfl
  | b :: r, hc => by
    simp only [chainM] at hc
    cases hb : isIn h (deps ops b) with
    | false => rw [hb] at hc; cases hc
    | true => rw [hb] at hc; exact hc
def cntF (listed : Array Bool) : Nat → Nat
  | 0 => 0
  | n + 1 => cntF listed n + bif listed.getD n false then 0 else 1
theorem cntF_ge {listed : Array Bool} {i : Nat} : ∀ {n : Nat}, n ≤ i → cntF (listed.setIfInBounds i true) n = cntF listed n
  | 0, _ => rfl
  | n + 1, h => by simp only [cntF]; rw [cntF_ge (by omega), getD_set_ne false (by omega)]
theorem cntF_set {listed : Array Bool} {i : Nat} (hi : i < listed.size) (hu : listed.getD i false = false) : ∀ {n : Nat}, i < n → cntF listed n = cntF (listed.setIfInBounds i true) n + 1
  | n + 1, h => by
    simp only [cntF]
    by_cases hc : i = n
    · subst hc
      rw [cntF_ge (Nat.le_refl _), hu]
      have : (listed.setIfInBounds i true).getD i false = true := by simp [hi]
      rw [this]; rfl
    · rw [cntF_set hi hu (by omega), getD_set_ne false hc]; omega
theorem cntF_zero {listed : Array Bool} : ∀ {n : Nat}, cntF listed n = 0 → ∀ i, i < n → listed.getD i false = true
  | n + 1, h, i, hi => by
    simp only [cntF] at h
    by_cases hc : i = n
    · subst hc
      cases hb : listed.getD i false with
      | true => rfl
      | false => rw [hb] at h; simp at h
    · exact cntF_zero (listed := listed) (n := n) (by omega) i (by omega)
theorem cntF_full {listed : Array Bool} : ∀ {n : Nat}, (∀ i, i < n → listed.getD i false = true) → cntF listed n = 0
  | 0, _ => rfl
  | n + 1, h => by simp only [cntF]; rw [cntF_full fun i hi => h i (by omega), h n (by omega)]; rfl
theorem cntF_first {n1 s : Nat} : ∀ {n : Nat}, n1 ≤ n → cntF (firstN n1 s) n = n - n1
  | 0, _ => by simp [cntF]
  | n + 1, h => by
    simp only [cntF]
    by_cases hc : n1 = n + 1
    · subst hc
      rw [cntF_full (fun i hi => firstN_lt (by omega)), firstN_lt (by omega)]; simp
    · rw [cntF_first (by omega), firstN_ge (by omega)]
      show n - n1 + 1 = n + 1 - n1
      omega
theorem least_un {listed : Array Bool} {n : Nat} (h : cntF listed n ≠ 0) : ∃ i, i < n ∧ listed.getD i false = false ∧ ∀ j, j < i → listed.getD j false = true := by
  have hex : ∃ i, i < n ∧ listed.getD i false = false := by
    apply Classical.byContradiction
    intro hno
    refine h (cntF_full fun i hi => ?_)
    cases hb : listed.getD i false with
    | true => rfl
    | false => exact absurd ⟨i, hi, hb⟩ hno
  obtain ⟨i, hi, hb⟩ := hex
  induction i using Nat.strongRecOn with
  | _ i ih =>
    by_cases hex : ∃ j, j < i ∧ listed.getD j false = false
    · obtain ⟨j, hj, hjb⟩ := hex
      exact ih j hj (by omega) hjb
    · refine ⟨i, hi, hb, fun j hj => ?_⟩
      cases hb' : listed.getD j false with
      | true => rfl
      | false => exact absurd ⟨j, hj, hb'⟩ hex
theorem put_ne {t : Array Value} {d : Option Tmp} {v : Value} {s : Nat} (h : d ≠ some s) : ((Act.mk t []).put d v).tmps[s]? = t[s]? := by
  cases d with
  | none => rfl
  | some d =>
    have : d ≠ s := fun h' => h (by rw [h'])
    simp [Act.put, this]
theorem put_same {t : Array Value} {d : Tmp} {v : Value} (h : d < t.size) : ((Act.mk t []).put (some d) v).tmps[d]? = some v := by
  simp [Act.put, h]
theorem put_size {t : Array Value} {d : Option Tmp} {v : Value} : ((Act.mk t []).put d v).tmps.size = t.size := by
  cases d <;> simp [Act.put]
structure InvM (nt : Nat) (ops : Array Oper) (n : Nat) (val : Nat → Value) (F M : List Nat) (e : Env) (n1 : Nat) (M2 : List Nat) (E : Env) (listed : Array Bool) (t : Array Value) : Prop where
  head : HeadInv .any ops n listed
  base : Knows nt e t
  free : ∀ j ∈ F, listed.getD j false = true → ∀ d, dstOf ops j = some d → t[d]? = some (val j)
  sub : ∀ j ∈ M2, j ∈ M ∧ listed.getD j false = false
  nod : M2.Nodup
  ch : chainM ops M2 = true
  env : ∀ s v, get? E s = some v → get? e s = some v ∨ (∃ j ∈ F, dstOf ops j = some s ∧ val j = v) ∨ ∃ j ∈ M, listed.getD j false = true ∧ dstOf ops j = some s ∧ t[s]? = some v
  mid : ∀ j ∈ M, listed.getD j false = false → j ∈ M2
  low : ∀ j, j < n1 → listed.getD j false = true
theorem InvM.next {n1 : Nat} {val : Nat → Value} {F M M2 M2' : List Nat} {E E' : Env} {listed : Array Bool} {t : Array Value} {i : Nat} {o : Oper} {v : Value} (hp : Plan ops n1 n e F M) (inv : InvM nt ops n val F M e n1 M2 E listed t)
    (ho : ops[i]? = some o) (hd : dstOk nt o.dst = true) (hr : i ∈ Region.ready .any ops listed) (hi1 : n1 ≤ i) (hin : i < n)
    (hv : i ∈ F → val i = v) (hsub : ∀ j ∈ M2', j ∈ M2 ∧ j ≠ i) (hnod : M2'.Nodup) (hch : chainM ops M2' = true) (hmid : ∀ j ∈ M2, j ≠ i → j ∈ M2')
    (hE : ∀ s u, get? E' s = some u → (o.dst ≠ some s ∧ get? E s = some u) ∨ (i ∈ M ∧ o.dst = some s ∧ u = v) ∨ (i ∈ F ∧ get? E s = some u)) :
    InvM nt ops n val F M e n1 M2' E' (listed.setIfInBounds i true) ((Act.mk t []).put o.dst v).tmps := by
  have hdo : dstOf ops i = o.dst := by simp only [dstOf, ho]
  have hun : listed.getD i false = false := getD_both (mem_ready.1 hr).1
  have hne : ∀ j, listed.getD j false = true → i ≠ j := fun j hj h => by rw [← h, hun] at hj; cases hj
  have hdst : ∀ j, n1 ≤ j ∧ j < n → i ≠ j → ∀ d, dstOf ops j = some d → o.dst ≠ some d := fun j hj hij d hjd h => hij (hp.dst i hi1 hin j hj.1 hj.2 d (by rw [hdo]; exact h) hjd)
  have hput : ∀ d, o.dst = some d → ((Act.mk t []).put o.dst v).tmps[d]? = some v := fun d h => by
    rw [h]; rw [h] at hd; exact put_same (by rw [inv.base.size]; exact Nat.le_of_ble_eq_true hd)
  refine ⟨inv.head.set hr hin, ⟨by rw [put_size]; exact inv.base.size, fun s u hs => ?_⟩, fun j hj hl d hjd => ?_, fun j hj => ?_, hnod, hch, fun s u hs => ?_, fun j hj hl => ?_, fun j hj => ?_⟩
  · rw [put_ne]
    · exact inv.base.slot s u hs
    · intro h
      have := hp.fresh i hi1 hin s (by rw [hdo]; exact h)
      rw [this] at hs; cases hs
  · by_cases hij : i = j
    · subst hij
      rw [hv hj]
      exact hput d (by rw [← hdo]; exact hjd)
    · rw [getD_set_ne false hij] at hl
      rw [put_ne (hdst j (hp.inF j hj) hij d hjd)]
      exact inv.free j hj hl d hjd
  · obtain ⟨h1, h2⟩ := hsub j hj
    obtain ⟨h3, h4⟩ := inv.sub j h1
    exact ⟨h3, by rw [getD_set_ne false (Ne.symm h2)]; exact h4⟩
  · have old : get? E s = some u → get? e s = some u ∨ (∃ j ∈ F, dstOf ops j = some s ∧ val j = u) ∨ ∃ j ∈ M, (listed.setIfInBounds i true).getD j false = true ∧ dstOf ops j = some s ∧ ((Act.mk t []).put o.dst v).tmps[s]? = some u := by
      intro h2
      rcases inv.env s u h2 with h | h | ⟨j, hj, hl, hjd, ht⟩
      · exact .inl h
      · exact .inr (.inl h)
      · have hij := hne j hl
        exact .inr (.inr ⟨j, hj, by rw [getD_set_ne false hij]; exact hl, hjd, by rw [put_ne (hdst j (hp.inM j hj) hij s hjd)]; exact ht⟩)
    rcases hE s u hs with ⟨_, h2⟩ | ⟨h1, h2, rfl⟩ | ⟨_, h2⟩
    · exact old h2
    · have hlt : i < listed.size := by rw [inv.head.size]; exact (Array.getElem?_eq_some_iff.1 ho).1
      exact .inr (.inr ⟨i, h1, by simp [hlt], by rw [hdo]; exact h2, hput s h2⟩)
    · exact old h2
  · have hij : i ≠ j := fun h => by
      subst h
      have hlt : i < listed.size := by rw [inv.head.size]; exact (Array.getElem?_eq_some_iff.1 ho).1
      simp [hlt] at hl
    rw [getD_set_ne false hij] at hl
    exact hmid j (inv.mid j hj hl) (Ne.symm hij)
  · rw [getD_set_ne false (hne j (inv.low j hj))]; exact inv.low j hj
theorem drawM_go {n1 : Nat} {val : Nat → Value} {F M : List Nat} (hp : Plan ops n1 n e F M) (hF : ∀ i ∈ F, ∃ e', StepQ P nt ops L0 S w0 i e' (val i) ∧ Src' ops val F e e') :
    ∀ (c : Nat) (listed : Array Bool) (t : Array Value) (W : World) (E : Env) (L : SHeap) (M2 : List Nat) (τ : Nat), cntF listed n = c → InvM nt ops n val F M e n1 M2 E listed t → Mem L S w0 W →
      AtMl P f nt ops n kk L0 S w0 R M2 E L → At P f (.inRegion ops (Region.linearise.go .any ops (c + (ops.size - n)) τ listed []) :: kk) t W R
  | 0, listed, t, W, E, L, M2, τ, hc, inv, hm, h => by
    have hall := cntF_zero hc
    have hM2 : M2 = [] := by
      cases M2 with
      | nil => rfl
      | cons m r =>
        obtain ⟨h1, h2⟩ := inv.sub m (.head _)
        rw [hall m (hp.inM m h1).2] at h2; cases h2
    subst hM2
    have hlisted : listed = firstN n ops.size := by
      apply Array.ext_getElem?
      intro j
      have hsz := inv.head.size
      have hle := hp.le
      rw [firstN_get]
      split
      · next h1 =>
        have := hall j h1
        have hjs : j < listed.size := by omega
        rw [Array.getD_eq_getD_getElem?, Array.getElem?_eq_getElem hjs] at this
        simp only [Option.getD_some] at this
        rw [Array.getElem?_eq_getElem hjs, this]
      · next h1 =>
        split
        · next h2 =>
          have := inv.head.tail j (by omega) (by omega)
          have hjs : j < listed.size := by omega
          rw [Array.getD_eq_getD_getElem?, Array.getElem?_eq_getElem hjs] at this
          simp only [Option.getD_some] at this
          rw [Array.getElem?_eq_getElem hjs, this]
        · rw [Array.getElem?_eq_none (by omega)]
    rw [Nat.zero_add, hlisted]
    refine h.2 τ t W ⟨inv.base.size, fun s v hs => ?_⟩ hm
    rcases inv.env s v hs with h | ⟨j, hj, hjd, rfl⟩ | ⟨j, hj, hl, hjd, ht⟩
    · exact inv.base.slot s v h
    · exact inv.free j hj (hall j (hp.inF j hj).2) s hjd
    · exact ht
  | c + 1, listed, t, W, E, L, M2, τ, hc, inv, hm, h => by
    rw [show c + 1 + (ops.size - n) = (c + (ops.size - n)) + 1 by omega, go_cons]
    obtain ⟨i0, hi0, hun0, hbelow⟩ := least_un (listed := listed) (n := n) (by omega)
    have hun0' : listed.getD i0 true = false := getD_in (by rw [inv.head.size]; have := hp.le; omega) hun0
    have hi0r : i0 ∈ Region.ready .any ops listed := by
      have hlt : i0 < ops.size := by have := hp.le; omega
      refine mem_ready.2 ⟨hun0', ops[i0], Array.getElem?_eq_getElem hlt, fun ed hed hb => hbelow _ (hp.back i0 hi0 _ ?_)⟩
      simp only [deps, Array.getElem?_eq_getElem hlt]
      exact depsE_mem (Array.mem_toList_iff.2 hed) hb
    have hpos : 0 < (Region.ready .any ops listed).length := List.length_pos_of_mem hi0r
    have hlt : τ % (Region.ready .any ops listed).length < (Region.ready .any ops listed).length := Nat.mod_lt _ hpos
    rw [List.getElem?_eq_getElem hlt]
    have hr := List.getElem_mem hlt
    generalize (Region.ready .any ops listed)[τ % (Region.ready .any ops listed).length] = i at hr
    generalize τ / (Region.ready .any ops listed).length = τ'
    simp only
    obtain ⟨hun, o, ho, hall⟩ := mem_ready.1 hr
    have his : i < ops.size := (Array.getElem?_eq_some_iff.1 ho).1
    have hin : i < n := by
      rcases Nat.lt_or_ge i n with h' | h'
      · exact h'
      · exact absurd hr (hp.waits (by omega) inv.head inv.low _ i0 rfl hi0 hun0 i h')
    have hi1 : n1 ≤ i := by
      rcases Nat.lt_or_ge i n1 with h' | h'
      · have := inv.low i h'
        rw [getD_both hun] at this; cases this
      · exact h'
    have hdo : dstOf ops i = o.dst := by simp only [dstOf, ho]
    have hdeps : ∀ j ∈ deps ops i, listed.getD j false = true := fun j hj => by
      simp only [deps, ho] at hj
      obtain ⟨ed, hed, hb, rfl⟩ := depsE_of hj
      exact hall ed (Array.mem_toList_iff.1 hed) hb
    have hsl : slotsAt ops i = slotsOf ops o := by simp only [slotsAt, ho]
    have hfree : ∀ s, s ∈ slotsOf ops o → ∀ j ∈ F, dstOf ops j = some s → t[s]? = some (val j) := fun s hs j hj hjd =>
      inv.free j hj (hdeps j (hp.reads i hi1 hin j (hp.inF j hj).1 (hp.inF j hj).2 s hjd (by rw [hsl]; exact hs))) s hjd
    have hcnt : cntF (listed.setIfInBounds i true) n = c := by
      have := cntF_set (by rw [inv.head.size]; exact his) (getD_both hun) hin
      omega
    rcases hp.cover i hi1 hin with hiF | hiM
    · -- a quiet one
      obtain ⟨e', ⟨o', ho', hd, hcase⟩, hsrc⟩ := hF i hiF
      have hoo : o' = o := Option.some.inj (ho'.symm.trans ho)
      subst hoo
      have hon : On ops o' e' t := fun s hs v hv => by
        rcases hsrc s v hv with h1 | ⟨j, hj, hjd, rfl⟩
        · exact inv.base.slot s v h1
        · exact hfree s hs j hj hjd
      have hM2i : ∀ j ∈ M2, j ≠ i := fun j hj hji => hp.apart i hiF (by rw [← hji]; exact (inv.sub j hj).1)
      have inv' : InvM nt ops n val F M e n1 M2 E (listed.setIfInBounds i true) ((Act.mk t []).put o'.dst (val i)).tmps :=
        inv.next hp ho hd hr hi1 hin (fun _ => rfl) (fun j hj => ⟨hj, hM2i j hj⟩) inv.nod inv.ch (fun j hj _ => hj) (fun s u hs => .inr (.inr ⟨hiF, hs⟩))
      have hpre : ∃ L1, L = L0 ++ L1 := by cases M2 <;> exact h.1
      have hsub0 : ∀ W, Mem L S w0 W → Mem L0 S w0 W := fun W hm => by
        obtain ⟨L1, rfl⟩ := hpre
        exact ⟨by have := hm.nodup; rw [List.map_append] at this; exact (List.nodup_append.1 this).1, fun p hp => hm.here p (List.mem_append_left _ hp), fun p hp => hm.own p (List.mem_append_left _ hp), hm.kept⟩
      rcases hcase with ⟨hw, hkn, hpl, hx⟩ | ⟨hw, hv⟩
      · have hexe := execOp_congr (Act.mk t []).eval (rho e') o' hpl (hon.rho hkn [])
        rcases hx W (hsub0 W hm) with hx | ⟨g, args, hx, hcalls⟩
        · rw [← hexe] at hx
          exact At.value ho (hon.wanted hw) hx (drawM_go hp hF c _ _ _ E L M2 τ' hcnt inv' hm h)
        · rw [← hexe] at hx
          refine At.enter ho (hon.wanted hw) hx (hcalls.mono fun en W' hh => ⟨val i, hh.1, ?_⟩)
          exact drawM_go hp hF c _ _ _ E L M2 τ' hcnt inv' (hm.after hh.2) h
      · rw [hv] at inv'
        exact At.unwanted ho (hon.wanted hw) (drawM_go hp hF c _ _ _ E L M2 τ' hcnt inv' hm h)
    · -- a loud one: it is the next
      have hiM2 : i ∈ M2 := inv.mid i hiM (getD_both hun)
      cases M2 with
      | nil => cases hiM2
      | cons m r =>
        have him : i = m := by
          cases hiM2 with
          | head => rfl
          | tail _ hir =>
            obtain ⟨p, hpm, hpd⟩ := chainM_head inv.ch i hir
            have := hdeps p hpd
            rw [(inv.sub p hpm).2] at this; cases this
        subst him
        obtain ⟨_, o', ho', hd, hcase⟩ := h
        have hoo : o' = o := Option.some.inj (ho'.symm.trans ho)
        subst hoo
        have hon : On ops o' E t := fun s hs v hv => by
          rcases inv.env s v hv with h1 | ⟨j, hj, hjd, rfl⟩ | ⟨j, hj, hl, hjd, ht⟩
          · exact inv.base.slot s v h1
          · exact hfree s hs j hj hjd
          · exact ht
        have hnod := List.nodup_cons.1 inv.nod
        have inv' : ∀ v, InvM nt ops n val F M e n1 r (putE E (dstOf ops i) v) (listed.setIfInBounds i true) ((Act.mk t []).put o'.dst v).tmps := fun v =>
          inv.next hp ho hd hr hi1 hin (fun hiF => absurd hiM (hp.apart i hiF)) (fun j hj => ⟨.tail _ hj, fun hji => hnod.1 (hji ▸ hj)⟩) hnod.2 (chainM_tail inv.ch)
            (fun j hj hji => by cases hj with | head => exact absurd rfl hji | tail _ hj => exact hj) (fun s u hs => by
              rw [hdo] at hs
              cases hod : o'.dst with
              | none => rw [hod] at hs; exact .inl ⟨by simp, hs⟩
              | some d =>
                rw [hod] at hs
                simp only [putE, get?] at hs
                cases hb : Nat.beq d s with
                | true =>
                  rw [hb] at hs
                  simp only [cond_true, Option.some.injEq] at hs
                  exact .inr (.inl ⟨hiM, by rw [Nat.eq_of_beq_eq_true hb], hs.symm⟩)
                | false =>
                  rw [hb] at hs
                  refine .inl ⟨fun h' => ?_, hs⟩
                  simp only [Option.some.injEq] at h'
                  subst h'
                  simp at hb)
        rcases hcase with ⟨hw, hkn, hpl, hx⟩ | ⟨hw, hK⟩
        · have hexe := execOp_congr (Act.mk t []).eval (rho E) o' hpl (hon.rho hkn [])
          rcases hx W hm with ⟨v, L', W', hx, hm', hK⟩ | ⟨L', W', hx, hm', hK⟩ | ⟨g, args, hx, hcalls⟩
          · rw [← hexe] at hx
            exact At.value ho (hon.wanted hw) hx (drawM_go hp hF c _ _ _ _ L' r τ' hcnt (inv' v) hm' hK)
          · rw [← hexe] at hx
            exact At.skipv ho (hon.wanted hw) hx (drawM_go hp hF c _ _ _ _ L' r τ' hcnt (inv' undef) hm' hK)
          · rw [← hexe] at hx
            refine At.enter ho (hon.wanted hw) hx (hcalls.mono fun en W' hh => ?_)
            obtain ⟨v, L', hen, hm', hK⟩ := hh
            exact ⟨v, hen, drawM_go hp hF c _ _ _ _ L' r τ' hcnt (inv' v) hm' hK⟩
        · exact At.unwanted ho (hon.wanted hw) (drawM_go hp hF c _ _ _ _ L r τ' hcnt (inv' undef) hm hK)
theorem AtD.phase {n1 : Nat} (n : Nat) (F M : List Nat) (L0 : SHeap) (hk : planB ops n1 n e F M = true) {L1 : SHeap} (hL : L = L0 ++ L1)
    (h : AtF P nt [.inRegion ops F] e L0 S w0 fun eF => AtM P f nt ops n kk L0 [.inRegion ops M] eF L S w0 R) : AtD P f nt ops n1 kk e L S w0 R := by
  have hp := Plan.of hk
  obtain ⟨val, hf⟩ := h _ F rfl hp.nodF
  obtain ⟨hF, e', ⟨eF, heF, hK⟩, hsrc⟩ := FreeF.get (F0 := F) (e0 := e) (fun i hi => hi) (fun s v hs => .inl hs) hf
  intro τ t w hkn hmm
  have hle := hp.le
  have hle1 := hp.le1
  have hcnt : cntF (firstN n1 ops.size) n = n - n1 := cntF_first hle1
  have key := drawM_go (f := f) (kk := kk) (R := R) hp hF (n - n1) (firstN n1 ops.size) t w eF L M τ hcnt
    ⟨⟨firstN_size (by omega), fun j oj hoj hl ed hed hb => ?_, fun t ht hts => getD_in (by rw [firstN_size (by omega)]; exact hts) (firstN_ge (by omega))⟩, hkn,
      fun j hj hl => (by rw [firstN_ge (hp.inF j hj).1] at hl; cases hl), fun j hj => ⟨hj, firstN_ge (hp.inM j hj).1⟩, hp.nodM, hp.chain, fun s v hs => by
        rcases hsrc s v (heF s v hs) with h | h
        · exact .inl h
        · exact .inr (.inl h), fun j hj _ => hj, fun j hj => firstN_lt hj⟩ hmm (hK M rfl)
  · rw [show n - n1 + (ops.size - n) = ops.size - n1 by omega] at key
    exact key
  · have hj1 : j < n1 := by
      rcases Nat.lt_or_ge j n1 with h | h
      · exact h
      · rw [firstN_ge h] at hl; cases hl
    have := hp.back j (by omega) ed.on (by simp only [deps, hoj]; exact depsE_mem (Array.mem_toList_iff.2 hed) hb)
    exact firstN_lt (by omega)
theorem AtD.tail (h : Region.seqB .any ops (ops.size - n) n (firstN n ops.size) = true) (hn : AtE P f nt (tailK ops n kk) e L S w0 R) : AtD P f nt ops n kk e L S w0 R := by
  intro t
  rw [go_seq _ n t _ h]
  exact hn
theorem AtD.norm {e' : Env} {L' : SHeap} (hn : AtD P f nt ops n kk e' L' S w0 R) (h : (restrict e (e'.map (·.1)), L) = (some e', L')) : AtD P f nt ops n kk e L S w0 R := by
  simp only [Prod.mk.injEq] at h
  obtain ⟨h, rfl⟩ := h
  intro τ t W hk hm
  exact hn τ t W ⟨hk.size, fun i v hv => hk.slot i v (restrict_get h i v hv)⟩ hm
theorem AtD.front {b : Nat × Obj} (hn : AtD P f nt ops n kk e (b :: L) S w0 R) : AtD P f nt ops n kk e (L ++ [b]) S w0 R := fun t => AtE.front (hn t)
theorem AtE.drawD (hk : (isDraw k, P.follows .mixedOrders) = (true, true)) (h : AtD P f nt (regOps k) 0 (restK k) e L S w0 R) : AtE P f nt k e L S w0 R := by
  simp only [Prod.mk.injEq] at hk
  obtain ⟨h1, hmx⟩ := hk
  unfold isDraw at h1
  split at h1
  · next id ops k' =>
    have hsch : ∀ τ, Region.schedule (P.follows .mixedOrders) ops τ = Region.linearise.go .any ops ops.size τ (Array.replicate ops.size false) [] := fun τ => by
      simp only [Region.schedule, hmx, Bool.true_or, if_true]; rfl
    intro t w hkn hmm
    refine At.step (k' := .inRegion ops (Region.schedule (P.follows .mixedOrders) ops (w.tape w.drawn (.order f id))) :: k') (t' := t) (w' := { w with drawn := w.drawn + 1 })
      (fun b cs hb => by have := rstep_region_draw (P := P) (b := b) (a := ⟨t, R.ds⟩) (k := k') (cs := cs) (w := w) (id := id) (ops := ops); rw [hb] at this; exact this) ?_
    rw [hsch]
    have key := h (w.tape w.drawn (.order f id)) t { w with drawn := w.drawn + 1 } hkn ⟨hmm.nodup, hmm.here, hmm.own, ⟨hmm.kept.os, hmm.kept.tape, hmm.kept.output, hmm.kept.size, hmm.kept.block⟩⟩
    simp only [regOps, restK, firstN_zero, Nat.sub_zero] at key
    exact key
  · cases h1
end Go.Eng
namespace Go.Eng
open Go Go.RowKit
theorem AtE.ru {P : Program} {f nt : Nat} {k : List Item} {e : Env} {L : SHeap} {S : List Nat} {w0 : World} {R : Goal P} (n : Nat) (hn : AtE P f nt (kN P nt n k e) (eN P nt n k e) L S w0 R)
    (h : ∀ W, Eng.run P nt n k e W = some (kN P nt n k e, eN P nt n k e, W) := by intro W; kernel_rfl) : AtE P f nt k e L S w0 R := AtE.run n h hn
theorem AtF.pu {P : Program} {nt : Nat} {k : List Item} {e : Env} {L : SHeap} {S : List Nat} {w0 : World} {K : Env → Prop} (hn : AtF P nt (nextK k) (putE e (curDst nt k e) (vQ P nt k e)) L S w0 K)
    (hc : cur nt k e = some (curO nt k e) := by kernel_rfl) (h : ∀ W, (execOp (rho e) (curO nt k e)).run P W = .ok (.value (vQ P nt k e)) W := by intro W; kernel_rfl) : AtF P nt k e L S w0 K := AtF.pure hc h hn
theorem AtQ.pu {P : Program} {f nt : Nat} {ops : Array Oper} {n : Nat} {kk : List Item} {k : List Item} {e : Env} {L : SHeap} {S : List Nat} {w0 : World} {R : Goal P} (hn : AtQ P f nt ops n kk (nextK k) (putE e (curDst nt k e) (vQ P nt k e)) L S w0 R)
    (hc : cur nt k e = some (curO nt k e) := by kernel_rfl) (h : ∀ W, (execOp (rho e) (curO nt k e)).run P W = .ok (.value (vQ P nt k e)) W := by intro W; kernel_rfl) : AtQ P f nt ops n kk k e L S w0 R := AtQ.pure hc h hn
end Go.Eng
namespace Go.Eng
open Go Go.RowKit
variable {P : Program} {nt : Nat} {k : List Item} {e : Env} {L : SHeap} {S : List Nat} {w0 : World} {R : Env → Prop}
theorem AtF.split (i : Nat) {b : Bool} (h : get? e i = some (.bool b)) (h1 : b = true → AtF P nt k ((i, .bool true) :: e) L S w0 R)
    (h0 : b = false → AtF P nt k ((i, .bool false) :: e) L S w0 R) : AtF P nt k e L S w0 R := by
  cases b
  · exact AtF.push h (h0 rfl)
  · exact AtF.push h (h1 rfl)
theorem AtF.splitP (i : Nat) {p : Prop} [Decidable p] (h : get? e i = some (.bool (decide p))) (h1 : p → AtF P nt k ((i, .bool true) :: e) L S w0 R)
    (h0 : ¬ p → AtF P nt k ((i, .bool false) :: e) L S w0 R) : AtF P nt k e L S w0 R :=
  AtF.split i h (fun hb => h1 (of_decide_eq_true hb)) (fun hb => h0 (of_decide_eq_false hb))
theorem AtF.splitN (i : Nat) {p : Prop} [Decidable p] (h : get? e i = some (.bool (!decide p))) (h1 : ¬ p → AtF P nt k ((i, .bool true) :: e) L S w0 R)
    (h0 : p → AtF P nt k ((i, .bool false) :: e) L S w0 R) : AtF P nt k e L S w0 R :=
  AtF.split i h (fun hb => h1 (of_decide_eq_false (by simpa using hb))) (fun hb => h0 (of_decide_eq_true (by simpa using hb)))
theorem AtF.splitS (i : Nat) {x y : ByteArray} (h : get? e i = some (.bool (x.toList == y.toList))) (h1 : x = y → AtF P nt k ((i, .bool true) :: e) L S w0 R)
    (h0 : ¬ x = y → AtF P nt k ((i, .bool false) :: e) L S w0 R) : AtF P nt k e L S w0 R :=
  AtF.split i h (fun hb => h1 ((strEq_iff x y).1 hb)) (fun hb => h0 (fun he => by rw [(strEq_iff x y).2 he] at hb; cases hb))
theorem AtF.splitT (i : Nat) {x y : ByteArray} (h : get? e i = some (.bool (!(x.toList == y.toList)))) (h1 : ¬ x = y → AtF P nt k ((i, .bool true) :: e) L S w0 R)
    (h0 : x = y → AtF P nt k ((i, .bool false) :: e) L S w0 R) : AtF P nt k e L S w0 R :=
  AtF.split i h (fun hb => h1 (fun he => by rw [(strEq_iff x y).2 he] at hb; cases hb)) (fun hb => h0 ((strEq_iff x y).1 (by simpa using hb)))
theorem AtF.letI (i : Nat) {kd : IntKind} {n : Int} (h : get? e i = some (.int kd n)) (hn : ∀ x, x = n → AtF P nt k ((i, .int kd x) :: e) L S w0 R) : AtF P nt k e L S w0 R :=
  AtF.push h (hn n rfl)
theorem AtF.letS (i : Nat) {n : ByteArray} (h : get? e i = some (.string n)) (hn : ∀ x, x = n → AtF P nt k ((i, .string x) :: e) L S w0 R) : AtF P nt k e L S w0 R :=
  AtF.push h (hn n rfl)
theorem AtF.indexS {s : ByteArray} {kd : IntKind} {i : Int} (h : asIndex P nt k e = some (some .string, .string s, .int kd i)) (hb : 0 ≤ i ∧ i < s.size)
    (hn : AtF P nt (nextK k) (putE e (curDst nt k e) (.int .u8 (bat s i))) L S w0 R) : AtF P nt k e L S w0 R := by
  unfold asIndex at h
  split at h
  · next o hc =>
    split at h
    · next T x ix ho =>
      simp only [Option.some.injEq, Prod.mk.injEq] at h
      obtain ⟨hT, hx, hi⟩ := h
      refine AtF.opV hc (fun W _ => ?_) hn
      simp only [execOp, ho, hx, hi]
      refine run_lift ?_
      rw [run_index_string _ _ _ _ _ hT, dif_pos hb]
      have hlen : i.toNat < s.data.toList.length := by have : s.size = s.data.size := rfl; simp; omega
      have : (s[i.toNat]'(by omega)) = ((s.data.toList)[i.toNat]?).getD 0 := by
        rw [List.getElem?_eq_getElem hlen]; simp [ByteArray.getElem_eq_getElem_data]
      rw [this]; rfl
    · cases h
  · cases h
theorem AtF.sliceS {s : ByteArray} {lo hi : Option Value} (h : asSlice P nt k e = some (some .string, .string s, lo, hi, none)) {a b : Int}
    (hlo : (∃ kd, lo = some (.int kd a)) ∨ (lo = none ∧ a = 0)) (hhi : (∃ kd, hi = some (.int kd b)) ∨ (hi = none ∧ b = s.size)) (hb : 0 ≤ a ∧ a ≤ b ∧ b ≤ s.size)
    (hn : AtF P nt (nextK k) (putE e (curDst nt k e) (.string (s.extract a.toNat b.toNat))) L S w0 R) : AtF P nt k e L S w0 R := by
  unfold asSlice at h
  split at h
  · next o hc =>
    split at h
    · next T x l2 h2 m2 ho =>
      simp only [Option.some.injEq, Prod.mk.injEq] at h
      obtain ⟨hT, hx, hl, hh, hm⟩ := h
      refine AtF.opV hc (fun W _ => ?_) hn
      simp only [execOp, ho, hx, hl, hh, hm]
      refine run_lift ?_
      rw [run_sliceAt_string _ _ _ _ _ _ hT]
      rcases hlo with ⟨kd, rfl⟩ | ⟨rfl, rfl⟩ <;> rcases hhi with ⟨kd', rfl⟩ | ⟨rfl, rfl⟩
      · exact run_slice_string _ _ _ _ _ _ _ hT hb.1 hb.2.1 hb.2.2
      · rw [run_slice_string_from_if _ _ _ _ _ hT, if_pos ⟨hb.1, hb.2.1⟩]; simp
      · rw [run_slice_string_to_if _ _ _ _ _ hT, if_pos ⟨hb.2.1, hb.2.2⟩]; rfl
      · rw [run_slice_string_all _ _ _ hT]; simp
    · cases h
  · cases h
theorem AtF.concat {x y : ByteArray} (h : asBin nt k e = some (.add, .string x, .string y)) (hb : x.size + y.size ≤ 9223372036854775807)
    (hn : AtF P nt (nextK k) (putE e (curDst nt k e) (.string (x ++ y))) L S w0 R) : AtF P nt k e L S w0 R := by
  obtain ⟨o, T, a, b, U, hc, ho, ha, hb'⟩ := asBin_spec h
  refine AtF.opV hc (fun W _ => ?_) hn
  simp only [execOp, ho, ha, hb']
  refine run_lift ?_
  rw [Sem.run_bind, eqGuard_none _ _ _ _ _ _ (by simp)]
  simp only [Result.andThen, binOp, Op.stringOp]
  rw [if_neg (by show ¬ (((x.size + y.size : Nat) : Int) > 9223372036854775807); omega)]
  rfl
theorem AtF.shl {kd kc : IntKind} {x y : Int} (h : asBin nt k e = some (.shl, .int kd x, .int kc y)) (hb : 0 ≤ y)
    (hn : AtF P nt (nextK k) (putE e (curDst nt k e) (.int kd (kd.wrap (x * 2 ^ (min y.toNat kd.bits))))) L S w0 R) : AtF P nt k e L S w0 R := by
  obtain ⟨o, T, a, b, U, hc, ho, ha, hb'⟩ := asBin_spec h
  refine AtF.opV hc (fun W _ => ?_) hn
  simp only [execOp, ho, ha, hb']
  refine run_lift ?_
  rw [Sem.run_bind, eqGuard_none _ _ _ _ _ _ (by simp)]
  simp only [Result.andThen, binOp, Op.shift]
  rw [if_neg (by omega)]
  rfl
theorem AtF.load (j off : Nat) {T : TypeId} {v : Value} (h : (asLoad nt k e, isCellsL L j, valAt P T (cellsL L j) off) = (some (T, .pointer (some ⟨blkL L j, off, none⟩)), true, some v))
    (hn : AtF P nt (nextK k) (putE e (curDst nt k e) v) L S w0 R) : AtF P nt k e L S w0 R := by
  simp only [Prod.mk.injEq] at h
  obtain ⟨h1, h2, h3⟩ := h
  obtain ⟨o, x, hc, ho, hx⟩ := asLoad_spec h1
  refine AtF.opV hc (fun W hm => ?_) hn
  simp only [execOp, ho, hx]
  exact run_lift (load_run (hm.heapAt h2) h3)
theorem AtF.loadW {b off : Nat} {T : TypeId} {v : Value} {c : List Value} (h : asLoad nt k e = some (T, .pointer (some ⟨b, off, none⟩))) (hb : b ∉ S) (hc : blkW w0 b = some c) (hv : valAt P T c off = some v)
    (hn : AtF P nt (nextK k) (putE e (curDst nt k e) v) L S w0 R) : AtF P nt k e L S w0 R := by
  obtain ⟨o, x, hcu, ho, hx⟩ := asLoad_spec h
  refine AtF.opV hcu (fun W hm => ?_) hn
  simp only [execOp, ho, hx]
  refine run_lift ?_
  unfold blkW at hc
  split at hc
  · next c' t fz hh =>
    simp at hc; subst hc
    have hlt : b < w0.heap.size := by
      rcases Nat.lt_or_ge b w0.heap.size with h | h
      · exact h
      · rw [Array.getElem?_eq_none h] at hh; cases hh
    refine load_run (t := t) (fz := fz) ?_ hv
    rw [hm.kept.block b hlt hb, hh]
  · cases hc
theorem AtF.indexAddrL {E : TypeId} {b o len cap sz o' : Nat} {kd : IntKind} {i : Int} (h : (asIndexAddr P nt k e, (P.info? E).map (·.size)) = (some (some (.slice E), .slice (some ⟨b, o, none⟩) len cap, .int kd i), some sz))
    (hb : 0 ≤ i ∧ i < len) (ho : o' = o + i.toNat * sz) (hn : AtF P nt (nextK k) (putE e (curDst nt k e) (.pointer (some ⟨b, o', none⟩))) L S w0 R) : AtF P nt k e L S w0 R := by
  simp only [Prod.mk.injEq] at h
  obtain ⟨h1, h2⟩ := h
  obtain ⟨op, T, x, y, hc, hop, hd, hx, hy⟩ := asIndexAddr_spec h1
  cases hq : P.info? E with
  | none => rw [hq] at h2; cases h2
  | some ii =>
    rw [hq] at h2; simp at h2
    refine AtF.opV hc (fun W hm => ?_) hn
    simp only [execOp, hop, hx, hy]
    refine run_lift ?_
    simp only [Instr.indexAt, asIntOf, Sem.run_bind, Sem.run_pure, Result.andThen_ok, run_underlying hd, hb, and_self, if_true, sizeOf, typeInfo, run_program, hq, addr_add, h2, ← ho]
theorem AtF.sliceL {E : TypeId} {b o len cap sz o' l' c' : Nat} {lo hi : Option Value} {x y : Int} (h : (asSlice P nt k e, (P.info? E).map (·.size)) = (some (some (.slice E), .slice (some ⟨b, o, none⟩) len cap, lo, hi, none), some sz))
    (hlo : (∃ kd, lo = some (.int kd x)) ∨ (lo = none ∧ x = 0)) (hhi : (∃ kd, hi = some (.int kd y)) ∨ (hi = none ∧ y = len ∧ len ≤ cap)) (hb : 0 ≤ x ∧ x ≤ y ∧ y ≤ cap)
    (ho : o' = if x.toNat = cap then o else o + x.toNat * sz) (hl : l' = y.toNat - x.toNat) (hcap : c' = cap - x.toNat)
    (hn : AtF P nt (nextK k) (putE e (curDst nt k e) (.slice (some ⟨b, o', none⟩) l' c')) L S w0 R) : AtF P nt k e L S w0 R := by
  simp only [Prod.mk.injEq] at h
  obtain ⟨h1, h2⟩ := h
  unfold asSlice at h1
  split at h1
  · next op hc =>
    split at h1
    · next T x' l2 h2' m2 hop =>
      simp only [Option.some.injEq, Prod.mk.injEq] at h1
      obtain ⟨hT, hx, hl2, hh2, hm2⟩ := h1
      cases hq : P.info? E with
      | none => rw [hq] at h2; cases h2
      | some ii =>
        rw [hq] at h2; simp at h2
        refine AtF.opV hc (fun W hm => ?_) hn
        simp only [execOp, hop, hx, hl2, hh2, hm2]
        refine run_lift ?_
        have key : (Instr.sliceBounds true len cap lo hi none).run P W = .ok (x.toNat, y.toNat, cap) W := by
          have hy : (y.toNat : Int) = y := Int.toNat_of_nonneg (by omega)
          have b1 : ∀ kd code, (Instr.sliceBound (.int kd y) cap code).run P W = .ok y.toNat W := fun kd code => run_sliceBound W kd y cap code (by omega) hb.2.2
          have b2 : ∀ kd code, (Instr.sliceBound (.int kd x) y.toNat code).run P W = .ok x.toNat W := fun kd code => run_sliceBound W kd x y.toNat code hb.1 (by omega)
          rcases hlo with ⟨kd, rfl⟩ | ⟨rfl, rfl⟩ <;> rcases hhi with ⟨kd', rfl⟩ | ⟨rfl, rfl, _⟩
          · simp only [Instr.sliceBounds, Sem.run_bind, Sem.run_pure, Result.andThen_ok, b1, b2]
          · simp only [Instr.sliceBounds, Sem.run_bind, Sem.run_pure, Result.andThen_ok]
            have := b2 kd .sliceB
            simp only [Int.toNat_natCast] at this
            simp [this]
          · simp only [Instr.sliceBounds, Sem.run_bind, Sem.run_pure, Result.andThen_ok, b1]; rfl
          · simp only [Instr.sliceBounds, Sem.run_bind, Sem.run_pure, Result.andThen_ok]; simp
        simp only [Instr.sliceAt, Sem.run_bind, run_underlying hT, Result.andThen_ok, Instr.slice, key, sizeOf, typeInfo, run_program, hq, Sem.run_pure]
        simp only [Option.map_some, addr_add, h2]
        rw [ho, hl, hcap]
        congr 1
        by_cases hcx : cap = x.toNat
        · simp [hcx]
        · have : ¬ x.toNat = cap := fun h => hcx h.symm
          simp [hcx, this]
    · cases h1
  · cases h1
end Go.Eng
namespace Go.Eng
open Go Go.RowKit
variable {P : Program} {f nt : Nat} {k : List Item} {e : Env} {L : SHeap} {S : List Nat} {w0 : World} {G : Goal P}
def asCallV (nt : Nat) (k : List Item) (e : Env) : Option (Value × List Value) :=
  match cur nt k e with
  | some o => match o.op with
    | .call c => match c.callee with
      | .value x => some (rho e x, c.args.toList.map (rho e))
      | _ => none
    | _ => none
  | none => none
theorem asCallV_spec {v : Value} {as : List Value} (h : asCallV nt k e = some (v, as)) :
    ∃ o c x, cur nt k e = some o ∧ o.op = .call c ∧ c.callee = .value x ∧ rho e x = v ∧ c.args.map (rho e) = ⟨as⟩ := by
  unfold asCallV at h
  split at h
  · next o hc =>
    split at h
    · next c ho =>
      split at h
      · next x hx =>
        simp only [Option.some.injEq, Prod.mk.injEq] at h
        obtain ⟨h1, h2⟩ := h
        refine ⟨o, c, x, hc, ho, hx, h1, ?_⟩
        apply Array.toList_inj.1; simpa using h2
      · cases h
    · cases h
  · cases h
def FnReady (P : Program) (g : FuncId) : Prop := ∃ fn, P.funcs[g]? = some fn ∧ fn.body.isNone = false ∧ (fn.name == "runtime.NumGoroutine") = false
theorem callV_run {o : Oper} {c : Call} {x : Operand} {g : FuncId} {first caps as : List Value} (ho : o.op = .call c) (hx : c.callee = .value x) (hv : rho e x = .func (.func g) ⟨first⟩ ⟨caps⟩) (ha : c.args.map (rho e) = ⟨as⟩)
    (hg : FnReady P g) (W : World) : (execOp (rho e) o).run P W = .ok (.enter g ⟨first ++ as ++ caps⟩) W := by
  obtain ⟨fn, h1, h2, h3⟩ := hg
  have hargs : (⟨first⟩ ++ ⟨as⟩ ++ ⟨caps⟩ : Array Value) = ⟨first ++ as ++ caps⟩ := by simp
  simp only [execOp, ho, resolve, hx, hv, ha, Deferred.ofValue, Sem.run_bind, Sem.run_pure, Result.andThen_ok, invoke, callFunc, run_program, h1, h2, h3, hargs, Bool.false_eq_true, if_false]
theorem AtE.callV (g : FuncId) (first caps as : List Value) {L1 : SHeap} {K : Value → SHeap → Prop} {K' : List PanicEntry → SHeap → Prop} (h : (asCallV nt k e, L) = (some (.func (.func g) ⟨first⟩ ⟨caps⟩, as), L1)) (hg : FnReady P g)
    (H : CallP P g ⟨first ++ as ++ caps⟩ L1 S w0 K K') (hn : ∀ v L', K v L' → AtE P f nt (nextK k) (putE e (curDst nt k e) v) L' S w0 G) (hp : ∀ ch L', K' ch L' → RaiseE P f nt e ch L' S w0 G) : AtE P f nt k e L S w0 G := by
  simp only [Prod.mk.injEq] at h
  obtain ⟨h, rfl⟩ := h
  obtain ⟨o, c, x, hc, ho, hx, hv, ha⟩ := asCallV_spec h
  have hcO : curO nt k e = o := by simp [curO, hc]
  exact AtE.callP g _ (fun W => by rw [hcO]; exact callV_run ho hx hv ha hg W) (by rw [hcO, hc]) H hn hp
def EffP (P : Program) (g : FuncId) (args : Array Value) (L0 : SHeap) (Pre : World → Prop) (K : Value → SHeap → Prop) (K' : List PanicEntry → SHeap → Prop) : Prop :=
  ∀ W, Mem L0 (L0.map (·.1)) W W → Pre W → Calls P g args W fun e W' =>
    (∃ v L', e = .returned v ∧ Mem L' (L0.map (·.1)) W W' ∧ K v L') ∨ ∃ ch L', e = .panicked ch ∧ Mem L' (L0.map (·.1)) W W' ∧ K' ch L'
theorem Mem.framed {L0 L1 L' : SHeap} {W W' : World} (hm' : Mem (L0 ++ L1) S w0 W) (hL : Mem L' (L0.map (·.1)) W W') : Mem (L' ++ L1) S w0 W' := by
  have hnd := hm'.nodup
  rw [List.map_append, List.nodup_append] at hnd
  obtain ⟨n0, n1, nd⟩ := hnd
  refine ⟨?_, ?_, ?_, ?_⟩
  · rw [List.map_append, List.nodup_append]
    refine ⟨hL.nodup, n1, ?_⟩
    intro a ha b hb hab
    subst hab
    obtain ⟨p, hp, rfl⟩ := List.mem_map.1 ha
    obtain ⟨q, hq, hqe⟩ := List.mem_map.1 hb
    rcases hL.own p hp with h1 | h1
    · have := hm'.lt (List.mem_append_right L0 hq)
      omega
    · exact nd _ h1 _ hb rfl
  · intro p hp
    rcases List.mem_append.1 hp with hp | hp
    · exact hL.here p hp
    · rw [hL.kept.block p.1 (hm'.lt (List.mem_append_right _ hp)) (fun h0 => nd _ h0 _ (List.mem_map_of_mem hp) rfl)]
      exact hm'.here p (List.mem_append_right _ hp)
  · intro p hp
    rcases List.mem_append.1 hp with hp | hp
    · rcases hL.own p hp with h1 | h1
      · exact .inl (Nat.le_trans hm'.kept.size h1)
      · obtain ⟨q, hq, hqe⟩ := List.mem_map.1 h1
        have := hm'.own q (List.mem_append_left _ hq)
        rw [hqe] at this; exact this
    · exact hm'.own p (List.mem_append_right _ hp)
  · refine ⟨hL.kept.os.trans hm'.kept.os, hL.kept.tape.trans hm'.kept.tape, hL.kept.output.trans hm'.kept.output, Nat.le_trans hm'.kept.size hL.kept.size, fun i hi hs => ?_⟩
    rw [hL.kept.block i (Nat.lt_of_lt_of_le hi hm'.kept.size) (fun h0 => ?_)]
    · exact hm'.kept.block i hi hs
    · obtain ⟨q, hq, hqe⟩ := List.mem_map.1 h0
      rcases hm'.own q (List.mem_append_left _ hq) with h1 | h1
      · rw [hqe] at h1; omega
      · rw [hqe] at h1; exact hs h1
theorem CallP.eff {g : FuncId} {args : Array Value} {L0 L1 : SHeap} {Pre : World → Prop} {K k1 : Value → SHeap → Prop} {K' k1' : List PanicEntry → SHeap → Prop} (h : EffP P g args L0 Pre K K') (hpre : ∀ W, Mem L S w0 W → Pre W) (hp : (L0 ++ L1).Perm L)
    (hK : ∀ v L', K v L' → ∃ L2, (L' ++ L1).Perm L2 ∧ k1 v L2) (hK' : ∀ ch L', K' ch L' → ∃ L2, (L' ++ L1).Perm L2 ∧ k1' ch L2) : CallP P g args L S w0 k1 k1' := by
  intro W hm
  have hm' : Mem (L0 ++ L1) S w0 W := hm.perm hp
  have hnd := hm'.nodup
  rw [List.map_append, List.nodup_append] at hnd
  refine (h W ⟨hnd.1, fun p hp => hm'.here p (List.mem_append_left _ hp), fun p hp => .inr (List.mem_map_of_mem hp), Kept.refl _ W⟩ (hpre W hm)).mono ?_
  rintro e W' (⟨v, L', rfl, hL, hk⟩ | ⟨ch, L', rfl, hL, hk⟩)
  · obtain ⟨L2, hp2, hk2⟩ := hK v L' hk
    exact .inl ⟨v, L2, rfl, Mem.perm (L := L' ++ L1) (hm'.framed hL) hp2.symm, hk2⟩
  · obtain ⟨L2, hp2, hk2⟩ := hK' ch L' hk
    exact .inr ⟨ch, L2, rfl, Mem.perm (L := L' ++ L1) (hm'.framed hL) hp2.symm, hk2⟩
theorem CallP.mono {g : FuncId} {args : Array Value} {K k1 : Value → SHeap → Prop} {K' k1' : List PanicEntry → SHeap → Prop} (h : CallP P g args L S w0 K K') (hk : ∀ v L', K v L' → k1 v L') (hk' : ∀ ch L', K' ch L' → k1' ch L') : CallP P g args L S w0 k1 k1' :=
  fun W hm => (h W hm).mono fun _ _ hh => by
    rcases hh with ⟨v, L', h1, h2, h3⟩ | ⟨ch, L', h1, h2, h3⟩
    · exact .inl ⟨v, L', h1, h2, hk v L' h3⟩
    · exact .inr ⟨ch, L', h1, h2, hk' ch L' h3⟩
end Go.Eng
namespace Go.Eng
open Go Go.RowKit
variable {P : Program} {f nt : Nat} {k : List Item} {e : Env} {L L0 : SHeap} {S : List Nat} {w0 : World} {ops : Array Oper} {n : Nat} {kk : List Item} {R : Goal P}
theorem AtM.store (L1 : SHeap) (j off : Nat) {T : TypeId} {v : Value} (hl : L = L0 ++ L1) (h : (asStore nt k e, isCellsL L j, fzL L j, putOk P T (cellsL L j) off v) = (some (T, .pointer (some ⟨blkL L j, off, none⟩), v), true, (0, 0), true))
    (hn : AtM P f nt ops n kk L0 (nextK k) (putE e (curDst nt k e) undef) (setL L j (putD P T (cellsL L j) off v)) S w0 R) : AtM P f nt ops n kk L0 k e L S w0 R := by
  simp only [Prod.mk.injEq] at h
  obtain ⟨h1, h2, h3, h4⟩ := h
  obtain ⟨o, x, y, hc, ho, hx, hy⟩ := asStore_spec h1
  cases hp : putC P T (cellsL L j) off v with
  | none => simp [putOk, hp] at h4
  | some c' =>
    have hd : putD P T (cellsL L j) off v = c' := by simp [putD, hp]
    rw [hd] at hn
    refine AtM.opK L1 hl hc (fun W hm => ⟨W.setRow (blkL L j) ⟨c'⟩, ?_, hm.setRow h2 c'⟩) hn
    simp only [execOp, ho, hx, hy]
    have hh := hm.heapAt h2
    rw [h3] at hh
    rw [Sem.run_bind, store_run hh hp]; rfl
theorem AtM.pure (L1 : SHeap) (hl : L = L0 ++ L1) (hc : cur nt k e = some (curO nt k e)) (hr : ∀ W, (execOp (rho e) (curO nt k e)).run P W = .ok (.value (vQ P nt k e)) W)
    (hn : AtM P f nt ops n kk L0 (nextK k) (putE e (curDst nt k e) (vQ P nt k e)) L S w0 R) : AtM P f nt ops n kk L0 k e L S w0 R :=
  AtM.opW L1 hl hc fun W hm => ⟨_, L, W, hr W, hm, hn⟩
theorem AtM.appendS (L1 : SHeap) {T U E : TypeId} {z : Value} {sz bytes : Nat} {x : Value} (m : Nat) (news : List Value) (hl : L = L0 ++ L1)
    (h : (asBuiltin nt k e, P.underlying T, infoZ P E, z.cells.size) = (some (.append, [.slice none 0 0, x], [T, U]), some (.slice E), some (some z, sz, bytes), sz))
    (hs : ∀ W, Mem L S w0 W → Go.Src P sz U x m news W) (hb : m ≤ 9223372036854775807 ∧ m * bytes ≤ 140737488355328)
    (h0 : m = 0 → AtM P f nt ops n kk L0 (nextK k) (putE e (curDst nt k e) (.slice none 0 0)) L S w0 R)
    (hn : 0 < m → ∀ B cap r, m ≤ cap → (news ++ r).length = cap * sz → AtM P f nt ops n kk L0 (nextK k) (putE e (curDst nt k e) (.slice (some ⟨B, 0, none⟩) m cap)) (L ++ [(B, .cells ⟨news ++ r⟩ E)]) S w0 R) : AtM P f nt ops n kk L0 k e L S w0 R := by
  simp only [Prod.mk.injEq] at h
  obtain ⟨h1, h2, h3, h4⟩ := h
  obtain ⟨o, cl, hc, ho, hcb, ha, ht⟩ := asBuiltin_spec h1
  obtain ⟨i, hi, hz, hsz, hby⟩ := info_open h3
  refine AtM.opW L1 hl hc fun W hm => ?_
  rw [run_builtin ho hcb ha ht (by simp) W]
  have hsr := hs W hm
  rcases Nat.eq_zero_or_pos m with hz0 | hp
  · subst hz0
    have hnl := hsr.newsLen
    rw [Nat.zero_mul] at hnl
    obtain rfl : news = [] := List.length_eq_zero_iff.1 hnl
    have hr := run_append_nothing W T U o.type E i h2 hi none 0 0 (Nat.le_refl _) x (by rw [hsz]; exact hsr)
    exact ⟨_, L, W, run_lift hr, hm, h0 rfl⟩
  · have hr := run_append_grow_src W T U o.type E i z h2 hi hz none 0 0 [] (by simp [Builtin.firstCells]) x m news (by rw [hsz]; exact hsr) (by omega) (by omega) (growslice_fits (by omega) (by rw [hby, Nat.zero_add]; exact hb.2))
    have he : (([] ++ news).toArray ++ Builtin.zeroCells z.cells (grownCap W (0 + m) 0 E - (0 + m))) = ⟨news ++ (Builtin.zeroCells z.cells (grownCap W (0 + m) 0 E - (0 + m))).toList⟩ := by
      apply Array.toList_inj.1; simp
    rw [he] at hr
    refine ⟨_, _, _, run_lift hr, hm.drew.alloc _, ?_⟩
    have := hn hp W.heap.size (grownCap W (0 + m) 0 E) (Builtin.zeroCells z.cells (grownCap W (0 + m) 0 E - (0 + m))).toList ?_ ?_
    · simpa using this
    · have := grownCap_ge W (0 + m) 0 E
      omega
    · rw [List.length_append, zeroCells_len, hsr.newsLen, h4, ← Nat.add_mul]
      congr 1
      have := grownCap_ge W (0 + m) 0 E
      omega
theorem AtE.loadT {b off : Nat} {T : TypeId} {v : Value} {c : List Value} (h : asLoad nt k e = some (T, .pointer (some ⟨b, off, none⟩))) (hc : ∃ t fz, (b, Obj.cells ⟨c⟩ t fz) ∈ L) (hv : valAt P T c off = some v)
    (hn : AtE P f nt (nextK k) (putE e (curDst nt k e) v) L S w0 R) : AtE P f nt k e L S w0 R := by
  obtain ⟨o, x, hcu, ho, hx⟩ := asLoad_spec h
  refine AtE.opV hcu (fun W hm => ?_) hn
  simp only [execOp, ho, hx]
  obtain ⟨t, fz, hh⟩ := hc
  exact run_lift (load_run (t := t) (fz := fz) (hm.here _ hh) hv)
theorem AtE.indexAddrP {E : TypeId} {p : Option Addr} {b o len cap sz o' : Nat} {kd : IntKind} {i : Int} (hp : p = some ⟨b, o, none⟩) (h : (asIndexAddr P nt k e, (P.info? E).map (·.size)) = (some (some (.slice E), .slice p len cap, .int kd i), some sz))
    (hb : 0 ≤ i ∧ i < len) (ho : o' = o + i.toNat * sz) (hn : AtE P f nt (nextK k) (putE e (curDst nt k e) (.pointer (some ⟨b, o', none⟩))) L S w0 R) : AtE P f nt k e L S w0 R := by
  subst hp; exact AtE.indexAddrL h hb ho hn
theorem AtQ.indexAddrP {E : TypeId} {p : Option Addr} {b o len cap sz o' : Nat} {kd : IntKind} {i : Int} (hp : p = some ⟨b, o, none⟩) (h : (asIndexAddr P nt k e, (P.info? E).map (·.size)) = (some (some (.slice E), .slice p len cap, .int kd i), some sz))
    (hb : 0 ≤ i ∧ i < len) (ho : o' = o + i.toNat * sz) (hn : AtQ P f nt ops n kk (nextK k) (putE e (curDst nt k e) (.pointer (some ⟨b, o', none⟩))) L S w0 R) : AtQ P f nt ops n kk k e L S w0 R := by
  subst hp; exact AtQ.indexAddrL h hb ho hn
theorem AtF.indexAddrP {R : Env → Prop} {E : TypeId} {p : Option Addr} {b o len cap sz o' : Nat} {kd : IntKind} {i : Int} (hp : p = some ⟨b, o, none⟩) (h : (asIndexAddr P nt k e, (P.info? E).map (·.size)) = (some (some (.slice E), .slice p len cap, .int kd i), some sz))
    (hb : 0 ≤ i ∧ i < len) (ho : o' = o + i.toNat * sz) (hn : AtF P nt (nextK k) (putE e (curDst nt k e) (.pointer (some ⟨b, o', none⟩))) L S w0 R) : AtF P nt k e L S w0 R := by
  subst hp; exact AtF.indexAddrL h hb ho hn
end Go.Eng
namespace Go.Eng
open Go
structure Lab where
  unt : Int
  after : List Int
  appr : Int
  den : Int
deriving DecidableEq
structure Blk where
  id : Int
  kind : Int
  text : ByteArray
  story : Int
  ref : Int
  lab : Lab
deriving DecidableEq
structure Fct where
  n : Int
  time : Int
  kind : Int
  story : Int
  lang : ByteArray
  rev : Int
  base : Int
  title : ByteArray
  author : ByteArray
  topics : List ByteArray
  blocks : List Blk
  lab : Lab
  editor : Int
  block : Int
  sentence : Int
  text : ByteArray
  name : ByteArray
  partner : Int
  cls : Int
  unt : Int
deriving DecidableEq
abbrev Fct.cells (f : Fct) (tp : Option Addr) (tc : Nat) (bp : Option Addr) (bc : Nat) (ap : Option Addr) (ac : Nat) : List Value :=
  [.int .i64 f.n, .int .i64 f.time, .int .i64 f.kind, .int .i64 f.story, .string f.lang, .int .i64 f.rev, .int .i64 f.base, .string f.title, .string f.author, .slice tp f.topics.length tc, .slice bp f.blocks.length bc,
    .int .i64 f.lab.unt, .slice ap f.lab.after.length ac, .int .i64 f.lab.appr, .int .i64 f.lab.den, .int .i64 f.editor, .int .i64 f.block, .int .i64 f.sentence, .string f.text, .string f.name, .int .i64 f.partner, .int .i64 f.cls, .int .i64 f.unt]
end Go.Eng
