/- A part of the engine by which the functions are walked; it speaks of no program. -/
import Derived.Test.YtgplckfjbdnedaaDoorEngFreeRules
import Derived.Laws.StructEq
namespace Go.Eng
open Go Go.RowKit

/-! ### Structs of plain parts, compared -/
def eq1 : Value → Value → Bool
  | .int k a, .int k' b => decide (k = k') && decide (a = b)
  | .string a, .string b => a.toList == b.toList
  | .bool a, .bool b => a == b
  | _, _ => false
def eqCells : List Value → List Value → Bool
  | x :: xs, y :: ys => eq1 x y && eqCells xs ys
  | [], [] => true
  | _, _ => false

theorem eq1_spec {x y : Value} (h : eq1 x y = true) : x = y := by
  unfold eq1 at h
  split at h
  · simp only [Bool.and_eq_true, decide_eq_true_eq] at h; rw [h.1, h.2]
  · rw [(strEq_iff _ _).1 h]
  · simp only [beq_iff_eq] at h; rw [h]
  · cases h
theorem eqCells_spec : ∀ {xs ys : List Value}, eqCells xs ys = true → xs = ys
  | x :: xs, y :: ys, h => by
    simp only [eqCells, Bool.and_eq_true] at h
    rw [eq1_spec h.1, eqCells_spec h.2]
  | [], [], _ => rfl

/-- The parts lie one after another, each one cell. -/
def eqFs (P : Program) : List Field → List Value → List Value → Nat → Bool
  | [], [], [], _ => true
  | f :: fs, x :: xs, y :: ys, o => bif f.name == "_" then false else bif Nat.beq f.offset o then
      (match P.underlying f.type, x, y with
        | some (.int _), .int k _, .int k' _ => bif decide (k = k') then eqFs P fs xs ys (o + 1) else false
        | some .string, .string _, .string _ => eqFs P fs xs ys (o + 1)
        | some .bool, .bool _, .bool _ => eqFs P fs xs ys (o + 1)
        | _, _, _ => false) else false
  | _, _, _, _ => false

theorem eqFs_run {P : Program} (d : Nat) (W : World) (X Y : Array Value) : ∀ (fs : List Field) (xs ys : List Value) (o : Nat), eqFs P fs xs ys o = true → X.toList.drop o = xs → Y.toList.drop o = ys →
    (Op.eqFields (d + 1) X Y fs).run P W = .ok (eqCells xs ys) W
  | [], [], [], _, _, _, _ => by simp [Op.eqFields, eqCells]
  | f :: fs, x :: xs, y :: ys, o, h, hx, hy => by
    simp only [eqFs] at h
    cases hn : f.name == "_" with
    | true => rw [hn] at h; cases h
    | false =>
      rw [hn] at h
      cases ho : Nat.beq f.offset o with
      | false => rw [ho] at h; cases h
      | true =>
        rw [ho] at h
        have ho := Nat.eq_of_beq_eq_true ho
        simp only [cond_true, cond_false] at h
        have hxo : X[o]? = some x := by
          have : X.toList[o]? = some x := by rw [← List.head?_drop, hx]; rfl
          simpa using this
        have hyo : Y[o]? = some y := by
          have : Y.toList[o]? = some y := by rw [← List.head?_drop, hy]; rfl
          simpa using this
        have hx' : X.toList.drop (o + 1) = xs := by rw [← List.drop_drop, hx]; rfl
        have hy' : Y.toList.drop (o + 1) = ys := by rw [← List.drop_drop, hy]; rfl
        have hn' : f.name ≠ "_" := by simpa using hn
        have key : ∀ (D : TypeDesc), P.underlying f.type = some D → (match D with | .struct _ => false | .array _ _ => false | _ => true) = true → (Op.equalIn (d + 1) f.type x y).run P W = .ok (eq1 x y) W → eqFs P fs xs ys (o + 1) = true →
            (Op.eqFields (d + 1) X Y (f :: fs)).run P W = .ok (eqCells (x :: xs) (y :: ys)) W := by
          intro D hD hag heq hrest
          have ih := eqFs_run d W X Y fs xs ys (o + 1) hrest hx' hy'
          have hagg : (isAgg f.type).run P W = .ok false W := by
            cases D <;> simp_all [isAgg, underlying, Result.andThen]
          simp only [Op.eqFields, hn', ne_eq, not_false_eq_true, if_true, part, Sem.run_bind, hagg, Result.andThen_ok, Bool.false_eq_true, if_false, ho, hxo, hyo, Sem.run_pure, heq, Sem.run_ite, ih]
          cases hq : eq1 x y <;> simp [eqCells, hq]
        split at h
        · next hu =>
          rename_i kk k a k' b
          cases hk : decide (k = k') with
          | false => rw [hk] at h; cases h
          | true =>
            rw [hk] at h
            have hk := of_decide_eq_true hk
            subst hk
            exact key _ hu rfl (by rw [run_equalIn_int W d _ _ _ _ _ hu]; simp only [eq1, decide_true, Bool.true_and]; rfl) h
        · next hu => exact key _ hu rfl (run_equalIn_string W d _ _ _ hu) h
        · next hu => exact key _ hu rfl (run_equalIn_bool' W d _ _ _ hu) h
        · cases h

variable {P : Program} {f nt : Nat} {k : List Item} {e : Env} {L : SHeap} {S : List Nat} {w0 : World} {R : Goal P}

def asBinT (nt : Nat) (k : List Item) (e : Env) : Option (BinOp × TypeId × Value × Value) :=
  match cur nt k e with
  | some o => match o.op with
    | .binOp op T x y _ => some (op, T, rho e x, rho e y)
    | _ => none
  | none => none

theorem eqlA_run {T : TypeId} {xs ys : List Value} (hg : P.eqGuardType P.depth T = false) (hp : P.stoodInHeld T = false) {fs : Array Field} (hf : P.underlying T = some (.struct fs)) (he : eqFs P fs.toList xs ys 0 = true) (op : BinOp) (x y : Operand) (W : World) (hop : op = .eql ∨ op = .neq) :
    (eqGuard op T x y (.agg ⟨xs⟩) (.agg ⟨ys⟩)).run P W = .ok () W ∧ (binOp op T (.agg ⟨xs⟩) (.agg ⟨ys⟩)).run P W = .ok (.bool (if op = .eql then eqCells xs ys else !eqCells xs ys)) W := by
  refine ⟨run_eqGuard_agg W op T x y _ _ hg, ?_⟩
  have hfs : P.fieldsOf T = fs := by simp [Program.fieldsOf, hf]
  have h1 := run_equalIn_struct W 9999 T ⟨xs⟩ ⟨ys⟩ (by rw [hfs]; exact hf) hp
  rw [hfs, eqFs_run 9998 W ⟨xs⟩ ⟨ys⟩ fs.toList xs ys 0 he rfl rfl] at h1
  rcases hop with rfl | rfl
  · rw [run_eql_struct, h1]; rfl
  · rw [run_neq_struct, h1]; rfl

theorem AtE.eqlA {T : TypeId} {xs ys : List Value} {fs : Array Field} (h : (asBinT nt k e, P.eqGuardType P.depth T, P.stoodInHeld T, P.underlying T, eqFs P fs.toList xs ys 0) = (some (.eql, T, .agg ⟨xs⟩, .agg ⟨ys⟩), false, false, some (.struct fs), true))
    (hn : AtE P f nt (nextK k) (putE e (curDst nt k e) (.bool (eqCells xs ys))) L S w0 R) : AtE P f nt k e L S w0 R := by
  simp only [Prod.mk.injEq] at h
  obtain ⟨h1, h2, h3, h4, h5⟩ := h
  unfold asBinT at h1
  split at h1
  · next o hc =>
    split at h1
    · next op T' x y U ho =>
      simp only [Option.some.injEq, Prod.mk.injEq] at h1
      obtain ⟨rfl, rfl, ha, hb⟩ := h1
      refine AtE.opV hc (fun W _ => ?_) hn
      simp only [execOp, ho, ha, hb]
      refine run_lift ?_
      obtain ⟨r1, r2⟩ := eqlA_run h2 h3 h4 h5 .eql x y W (.inl rfl)
      rw [Sem.run_bind, r1, Result.andThen_ok, r2]; rfl
    · cases h1
  · cases h1
end Go.Eng
