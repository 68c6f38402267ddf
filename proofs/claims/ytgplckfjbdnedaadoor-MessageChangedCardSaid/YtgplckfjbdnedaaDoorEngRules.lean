/- A part of the engine by which the functions are walked; it speaks of no program. -/
import Derived.Test.YtgplckfjbdnedaaDoorEngRun
import Derived.OwnWalk
namespace Go.Eng
open Go Go.RowKit

variable {P : Program} {f nt : Nat} {k : List Item} {e : Env} {L : SHeap} {S : List Nat} {w0 : World} {R : Goal P}

/-! ### Frames of the judgement -/

/-- Names for what a slot holds. -/
theorem AtE.push {i : Nat} {v : Value} (h : get? e i = some v) (hn : AtE P f nt k ((i, v) :: e) L S w0 R) : AtE P f nt k e L S w0 R := by
  intro t W hk hm
  refine hn t W ⟨hk.size, fun j u hj => ?_⟩ hm
  simp only [get?] at hj
  cases hb : Nat.beq i j with
  | true =>
    have : i = j := Nat.eq_of_beq_eq_true hb
    subst this
    rw [hb] at hj; simp only [cond_true, Option.some.injEq] at hj
    subst hj; exact hk.slot i v h
  | false => rw [hb] at hj; exact hk.slot j u hj

def restrict (e : Env) : List Nat → Option Env
  | [] => some []
  | i :: r => match get? e i with
    | none => none
    | some v => match restrict e r with
      | none => none
      | some e' => some ((i, v) :: e')

theorem restrict_get {e : Env} : ∀ {is : List Nat} {e' : Env}, restrict e is = some e' → ∀ i v, get? e' i = some v → get? e i = some v
  | [], e', h, i, v, hv => by simp [restrict] at h; subst h; simp [get?] at hv
  | j :: r, e', h, i, v, hv => by
    simp only [restrict] at h
    split at h
    · cases h
    · next u hu =>
      split at h
      · cases h
      · next e2 h2 =>
        simp at h; subst h
        simp only [get?] at hv
        cases hb : Nat.beq j i with
        | true =>
          have : j = i := Nat.eq_of_beq_eq_true hb
          subst this
          rw [hb] at hv; simp only [cond_true, Option.some.injEq] at hv
          subst hv; exact hu
        | false => rw [hb] at hv; exact restrict_get h2 i v hv

/-- Of the known blocks those with these numbers, in this order. -/
def selL (L : SHeap) : List Nat → SHeap
  | [] => []
  | i :: r => match L[i]? with
    | some x => x :: selL L r
    | none => selL L r

def notIn (i : Nat) : List Nat → Bool
  | [] => true
  | j :: r => bif Nat.beq i j then false else notIn i r
def nodupB : List Nat → Bool
  | [] => true
  | i :: r => bif notIn i r then nodupB r else false

theorem notIn_spec {i : Nat} : ∀ {l : List Nat}, notIn i l = true → i ∉ l
  | [], _ => by simp
  | j :: r, h => by
    simp only [notIn] at h
    cases hb : Nat.beq i j with
    | true => rw [hb] at h; simp at h
    | false =>
      rw [hb] at h
      intro hm
      cases hm with
      | head => simp at hb
      | tail _ hm => exact notIn_spec (by simpa using h) hm
theorem nodupB_spec : ∀ {l : List Nat}, nodupB l = true → l.Nodup
  | [], _ => List.nodup_nil
  | i :: r, h => by
    simp only [nodupB] at h
    cases hn : notIn i r with
    | false => rw [hn] at h; simp at h
    | true => rw [hn] at h; exact List.nodup_cons.2 ⟨notIn_spec hn, nodupB_spec (by simpa using h)⟩

theorem selL_mem : ∀ {is : List Nat} {x : Nat × Obj}, x ∈ selL L is → ∃ i ∈ is, L[i]? = some x
  | [], _, h => by simp [selL] at h
  | i :: r, x, h => by
    simp only [selL] at h
    split at h
    · next y hy =>
      cases h with
      | head => exact ⟨i, by simp, hy⟩
      | tail _ h => obtain ⟨j, hj, hx⟩ := selL_mem h; exact ⟨j, by simp [hj], hx⟩
    · obtain ⟨j, hj, hx⟩ := selL_mem h; exact ⟨j, by simp [hj], hx⟩

theorem Mem.sel {W : World} (hm : Mem L S w0 W) {is : List Nat} (h : is.Nodup) : Mem (selL L is) S w0 W := by
  have hidx : ∀ (i j : Nat) (x y : Nat × Obj), L[i]? = some x → L[j]? = some y → x.1 = y.1 → i = j := by
    intro i j x y hi hj he
    have hil := (List.getElem?_eq_some_iff.1 hi).1
    have hjl := (List.getElem?_eq_some_iff.1 hj).1
    have h1 : (L.map (·.1))[i]? = some x.1 := by rw [List.getElem?_map, hi]; rfl
    have h2 : (L.map (·.1))[j]? = some x.1 := by rw [List.getElem?_map, hj]; simp [he]
    have hil' : i < (L.map (·.1)).length := by simpa using hil
    have hjl' : j < (L.map (·.1)).length := by simpa using hjl
    rw [List.getElem?_eq_getElem hil'] at h1
    rw [List.getElem?_eq_getElem hjl'] at h2
    have heq : (L.map (·.1))[i] = (L.map (·.1))[j] := (Option.some.inj h1).trans (Option.some.inj h2).symm
    have hpw := List.pairwise_iff_getElem.1 hm.nodup
    rcases Nat.lt_trichotomy i j with h | h | h
    · exact absurd heq (hpw i j hil' hjl' h)
    · exact h
    · exact absurd heq.symm (hpw j i hjl' hil' h)
  refine ⟨?_, fun p hp => ?_, fun p hp => ?_, hm.kept⟩
  · induction is with
    | nil => simp [selL]
    | cons i r ih =>
      simp only [selL]
      have hr := ih (List.nodup_cons.1 h).2
      split
      · next x hx =>
        rw [List.map_cons, List.nodup_cons]
        refine ⟨fun hmem => ?_, hr⟩
        obtain ⟨y, hy, he⟩ := List.mem_map.1 hmem
        obtain ⟨j, hj, hyj⟩ := selL_mem hy
        have := hidx i j x y hx hyj he.symm
        subst this
        exact (List.nodup_cons.1 h).1 hj
      · exact hr
  · obtain ⟨i, _, hx⟩ := selL_mem hp; exact hm.here p (List.mem_of_getElem? hx)
  · obtain ⟨i, _, hx⟩ := selL_mem hp; exact hm.own p (List.mem_of_getElem? hx)

/-- At a cut: only what the cut's own lists name is handed on. -/
theorem AtE.cut (is : List Nat) {k' : List Item} {e' : Env} {L' : SHeap} (hn : AtE P f nt k' e' L' S w0 R) (h : (k, restrict e (e'.map (·.1)), selL L is, nodupB is) = (k', some e', L', true)) : AtE P f nt k e L S w0 R := by
  simp only [Prod.mk.injEq] at h
  obtain ⟨rfl, h, rfl, hnd⟩ := h
  intro t W hk hm
  exact hn t W ⟨hk.size, fun i v hv => hk.slot i v (restrict_get h i v hv)⟩ (hm.sel (nodupB_spec hnd))

theorem AtE.heap {L' : SHeap} (hn : AtE P f nt k e L' S w0 R) (h : L = L') : AtE P f nt k e L S w0 R := h ▸ hn

/-! ### A Bool that is not known parts the way -/

theorem AtE.split (i : Nat) {b : Bool} (h : get? e i = some (.bool b)) (h1 : b = true → AtE P f nt k ((i, .bool true) :: e) L S w0 R)
    (h0 : b = false → AtE P f nt k ((i, .bool false) :: e) L S w0 R) : AtE P f nt k e L S w0 R := by
  cases b
  · exact AtE.push h (h0 rfl)
  · exact AtE.push h (h1 rfl)

theorem AtE.splitP (i : Nat) {p : Prop} [Decidable p] (h : get? e i = some (.bool (decide p))) (h1 : p → AtE P f nt k ((i, .bool true) :: e) L S w0 R)
    (h0 : ¬ p → AtE P f nt k ((i, .bool false) :: e) L S w0 R) : AtE P f nt k e L S w0 R :=
  AtE.split i h (fun hb => h1 (of_decide_eq_true hb)) (fun hb => h0 (of_decide_eq_false hb))

theorem AtE.splitN (i : Nat) {p : Prop} [Decidable p] (h : get? e i = some (.bool (!decide p))) (h1 : ¬ p → AtE P f nt k ((i, .bool true) :: e) L S w0 R)
    (h0 : p → AtE P f nt k ((i, .bool false) :: e) L S w0 R) : AtE P f nt k e L S w0 R :=
  AtE.split i h (fun hb => h1 (of_decide_eq_false (by simpa using hb))) (fun hb => h0 (of_decide_eq_true (by simpa using hb)))

theorem toList_loop (a : ByteArray) : ∀ (n i : Nat) (r : List UInt8), a.size - i = n → ByteArray.toList.loop a i r = r.reverse ++ a.data.toList.drop i
  | 0, i, r, h => by
    unfold ByteArray.toList.loop
    have : ¬ i < a.size := by omega
    rw [if_neg this]
    have h2 : a.data.toList.length ≤ i := by simp; have : a.size = a.data.size := rfl; omega
    rw [List.drop_eq_nil_of_le h2]; simp
  | n + 1, i, r, h => by
    unfold ByteArray.toList.loop
    have hi : i < a.size := by omega
    rw [if_pos hi]
    rw [toList_loop a n (i + 1) _ (by omega)]
    have hlen : i < a.data.toList.length := by simpa using hi
    rw [List.drop_eq_getElem_cons hlen]
    have : a.get! i = a.data.toList[i] := by
      show a.data[i]! = _
      rw [getElem!_pos a.data i hi]; simp
    rw [this]; simp
theorem toList_eq (a : ByteArray) : a.toList = a.data.toList := by
  unfold ByteArray.toList
  rw [toList_loop a a.size 0 [] (by omega)]; simp
theorem strEq_iff (x y : ByteArray) : (x.toList == y.toList) = true ↔ x = y := by
  rw [toList_eq, toList_eq, beq_iff_eq]
  constructor
  · intro h; exact ByteArray.ext (Array.toList_inj.1 h)
  · rintro rfl; rfl

theorem AtE.splitS (i : Nat) {x y : ByteArray} (h : get? e i = some (.bool (x.toList == y.toList))) (h1 : x = y → AtE P f nt k ((i, .bool true) :: e) L S w0 R)
    (h0 : ¬ x = y → AtE P f nt k ((i, .bool false) :: e) L S w0 R) : AtE P f nt k e L S w0 R :=
  AtE.split i h (fun hb => h1 ((strEq_iff x y).1 hb)) (fun hb => h0 (fun he => by rw [(strEq_iff x y).2 he] at hb; cases hb))

theorem AtE.splitT (i : Nat) {x y : ByteArray} (h : get? e i = some (.bool (!(x.toList == y.toList)))) (h1 : ¬ x = y → AtE P f nt k ((i, .bool true) :: e) L S w0 R)
    (h0 : x = y → AtE P f nt k ((i, .bool false) :: e) L S w0 R) : AtE P f nt k e L S w0 R :=
  AtE.split i h (fun hb => h1 (fun he => by rw [(strEq_iff x y).2 he] at hb; cases hb)) (fun hb => h0 ((strEq_iff x y).1 (by simpa using hb)))

theorem AtE.letI (i : Nat) {kd : IntKind} {n : Int} (h : get? e i = some (.int kd n)) (hn : ∀ x, x = n → AtE P f nt k ((i, .int kd x) :: e) L S w0 R) : AtE P f nt k e L S w0 R :=
  AtE.push h (hn n rfl)
theorem AtE.letS (i : Nat) {n : ByteArray} (h : get? e i = some (.string n)) (hn : ∀ x, x = n → AtE P f nt k ((i, .string x) :: e) L S w0 R) : AtE P f nt k e L S w0 R :=
  AtE.push h (hn n rfl)
theorem AtE.letB (i : Nat) {n : Bool} (h : get? e i = some (.bool n)) (hn : ∀ x, x = n → AtE P f nt k ((i, .bool x) :: e) L S w0 R) : AtE P f nt k e L S w0 R :=
  AtE.push h (hn n rfl)

/-! ### One operation that needs a fact -/

def curO (nt : Nat) (k : List Item) (e : Env) : Oper := match cur nt k e with | some o => o | none => default
def curDst (nt : Nat) (k : List Item) (e : Env) : Option Tmp := match cur nt k e with | some o => o.dst | none => none

theorem AtE.opV {o : Oper} {v : Value} (hc : cur nt k e = some o) (hr : ∀ W, Mem L S w0 W → (execOp (rho e) o).run P W = .ok (.value v) W)
    (hn : AtE P f nt (nextK k) (putE e (curDst nt k e) v) L S w0 R) : AtE P f nt k e L S w0 R := by
  refine AtE.op hc fun W hm => ⟨v, W, hr W hm, fun t hk => hn t W ?_ hm⟩
  simpa only [curDst, hc] using hk

/-- An operation that yields a value and makes new blocks or turns known ones. -/
theorem AtE.opW {o : Oper} {v : Value} {L' : SHeap} (hc : cur nt k e = some o) (hr : ∀ W, Mem L S w0 W → ∃ W', (execOp (rho e) o).run P W = .ok (.value v) W' ∧ Mem L' S w0 W')
    (hn : AtE P f nt (nextK k) (putE e (curDst nt k e) v) L' S w0 R) : AtE P f nt k e L S w0 R := by
  refine AtE.op hc fun W hm => ?_
  obtain ⟨W', h1, h2⟩ := hr W hm
  exact ⟨v, W', h1, fun t hk => hn t W' (by simpa only [curDst, hc] using hk) h2⟩

theorem AtE.opK {o : Oper} {L' : SHeap} (hc : cur nt k e = some o) (hr : ∀ W, Mem L S w0 W → ∃ W', (execOp (rho e) o).run P W = .ok .skip W' ∧ Mem L' S w0 W')
    (hn : AtE P f nt (nextK k) (putE e (curDst nt k e) undef) L' S w0 R) : AtE P f nt k e L S w0 R := by
  refine AtE.opSkip hc fun W hm => ?_
  obtain ⟨W', h1, h2⟩ := hr W hm
  exact ⟨W', h1, fun t hk => hn t W' (by simpa only [curDst, hc] using hk) h2⟩

theorem run_lift {s : Sem Value} {v : Value} {W W' : World} (h : s.run P W = .ok v W') : (do pure (Next.value (← s)) : Sem Next).run P W = .ok (.value v) W' := by
  rw [Sem.run_bind, h]; rfl

/-! Strings. -/
def bat (s : ByteArray) (i : Int) : Int := (((s.data.toList)[i.toNat]?).getD 0).toNat
theorem bat_nonneg (s : ByteArray) (i : Int) : 0 ≤ bat s i := by unfold bat; omega
theorem bat_lt (s : ByteArray) (i : Int) : bat s i < 256 := by unfold bat; have := (((s.data.toList)[i.toNat]?).getD 0).toNat_lt; omega

def asIndex (P : Program) (nt : Nat) (k : List Item) (e : Env) : Option (Option TypeDesc × Value × Value) :=
  match cur nt k e with
  | some o => match o.op with
    | .index T x i => some (P.underlying T, rho e x, rho e i)
    | _ => none
  | none => none

theorem AtE.indexS {s : ByteArray} {kd : IntKind} {i : Int} (h : asIndex P nt k e = some (some .string, .string s, .int kd i)) (hb : 0 ≤ i ∧ i < s.size)
    (hn : AtE P f nt (nextK k) (putE e (curDst nt k e) (.int .u8 (bat s i))) L S w0 R) : AtE P f nt k e L S w0 R := by
  unfold asIndex at h
  split at h
  · next o hc =>
    split at h
    · next T x ix ho =>
      simp only [Option.some.injEq, Prod.mk.injEq] at h
      obtain ⟨hT, hx, hi⟩ := h
      refine AtE.opV hc (fun W _ => ?_) hn
      simp only [execOp, ho, hx, hi]
      refine run_lift ?_
      rw [run_index_string _ _ _ _ _ hT, dif_pos hb]
      have hlen : i.toNat < s.data.toList.length := by have : s.size = s.data.size := rfl; simp; omega
      have : (s[i.toNat]'(by omega)) = ((s.data.toList)[i.toNat]?).getD 0 := by
        rw [List.getElem?_eq_getElem hlen]; simp [ByteArray.getElem_eq_getElem_data]
      rw [this]; rfl
    · cases h
  · cases h

def asSlice (P : Program) (nt : Nat) (k : List Item) (e : Env) : Option (Option TypeDesc × Value × Option Value × Option Value × Option Value) :=
  match cur nt k e with
  | some o => match o.op with
    | .slice T x lo hi mx => some (P.underlying T, rho e x, lo.map (rho e), hi.map (rho e), mx.map (rho e))
    | _ => none
  | none => none

theorem AtE.sliceS {s : ByteArray} {lo hi : Option Value} (h : asSlice P nt k e = some (some .string, .string s, lo, hi, none)) {a b : Int}
    (hlo : (∃ kd, lo = some (.int kd a)) ∨ (lo = none ∧ a = 0)) (hhi : (∃ kd, hi = some (.int kd b)) ∨ (hi = none ∧ b = s.size)) (hb : 0 ≤ a ∧ a ≤ b ∧ b ≤ s.size)
    (hn : AtE P f nt (nextK k) (putE e (curDst nt k e) (.string (s.extract a.toNat b.toNat))) L S w0 R) : AtE P f nt k e L S w0 R := by
  unfold asSlice at h
  split at h
  · next o hc =>
    split at h
    · next T x l2 h2 m2 ho =>
      simp only [Option.some.injEq, Prod.mk.injEq] at h
      obtain ⟨hT, hx, hl, hh, hm⟩ := h
      refine AtE.opV hc (fun W _ => ?_) hn
      simp only [execOp, ho, hx, hl, hh, hm]
      refine run_lift ?_
      rw [run_sliceAt_string _ _ _ _ _ _ hT]
      rcases hlo with ⟨kd, rfl⟩ | ⟨rfl, rfl⟩ <;> rcases hhi with ⟨kd', rfl⟩ | ⟨rfl, rfl⟩
      · exact run_slice_string _ _ _ _ _ _ _ hT hb.1 hb.2.1 hb.2.2
      · rw [run_slice_string_from_if _ _ _ _ _ hT, if_pos ⟨hb.1, hb.2.1⟩]; simp
      · rw [run_slice_string_to_if _ _ _ _ _ hT, if_pos ⟨hb.2.1, hb.2.2⟩]; rfl
      · rw [run_slice_string_all _ _ _ hT]; simp
    · cases h
  · cases h

def asBin (nt : Nat) (k : List Item) (e : Env) : Option (BinOp × Value × Value) :=
  match cur nt k e with
  | some o => match o.op with
    | .binOp op _ x y _ => some (op, rho e x, rho e y)
    | _ => none
  | none => none

theorem asBin_spec {op : BinOp} {a b : Value} (h : asBin nt k e = some (op, a, b)) : ∃ o T x y U, cur nt k e = some o ∧ o.op = .binOp op T x y U ∧ rho e x = a ∧ rho e y = b := by
  unfold asBin at h
  split at h
  · next o hc =>
    split at h
    · next op' T x y U ho =>
      simp only [Option.some.injEq, Prod.mk.injEq] at h
      obtain ⟨rfl, hx, hy⟩ := h
      exact ⟨o, T, x, y, U, hc, ho, hx, hy⟩
    · cases h
  · cases h

theorem eqGuard_none {op : BinOp} (T : TypeId) (x y : Operand) (a b : Value) (W : World) (h : op ≠ .eql ∧ op ≠ .neq) : (eqGuard op T x y a b).run P W = .ok () W := by
  cases op <;> simp_all [eqGuard]

theorem AtE.concat {x y : ByteArray} (h : asBin nt k e = some (.add, .string x, .string y)) (hb : x.size + y.size ≤ 9223372036854775807)
    (hn : AtE P f nt (nextK k) (putE e (curDst nt k e) (.string (x ++ y))) L S w0 R) : AtE P f nt k e L S w0 R := by
  obtain ⟨o, T, a, b, U, hc, ho, ha, hb'⟩ := asBin_spec h
  refine AtE.opV hc (fun W _ => ?_) hn
  simp only [execOp, ho, ha, hb']
  refine run_lift ?_
  rw [Sem.run_bind, eqGuard_none _ _ _ _ _ _ (by simp)]
  simp only [Result.andThen, binOp, Op.stringOp]
  rw [if_neg (by show ¬ (((x.size + y.size : Nat) : Int) > 9223372036854775807); omega)]
  rfl

theorem AtE.shl {kd kc : IntKind} {x y : Int} (h : asBin nt k e = some (.shl, .int kd x, .int kc y)) (hb : 0 ≤ y)
    (hn : AtE P f nt (nextK k) (putE e (curDst nt k e) (.int kd (kd.wrap (x * 2 ^ (min y.toNat kd.bits))))) L S w0 R) : AtE P f nt k e L S w0 R := by
  obtain ⟨o, T, a, b, U, hc, ho, ha, hb'⟩ := asBin_spec h
  refine AtE.opV hc (fun W _ => ?_) hn
  simp only [execOp, ho, ha, hb']
  refine run_lift ?_
  rw [Sem.run_bind, eqGuard_none _ _ _ _ _ _ (by simp)]
  simp only [Result.andThen, binOp, Op.shift]
  rw [if_neg (by omega)]
  rfl

theorem AtE.shr {kd kc : IntKind} {x y : Int} (h : asBin nt k e = some (.shr, .int kd x, .int kc y)) (hb : 0 ≤ y)
    (hn : AtE P f nt (nextK k) (putE e (curDst nt k e) (.int kd (x.fdiv (2 ^ (min y.toNat kd.bits))))) L S w0 R) : AtE P f nt k e L S w0 R := by
  obtain ⟨o, T, a, b, U, hc, ho, ha, hb'⟩ := asBin_spec h
  refine AtE.opV hc (fun W _ => ?_) hn
  simp only [execOp, ho, ha, hb']
  refine run_lift ?_
  rw [Sem.run_bind, eqGuard_none _ _ _ _ _ _ (by simp)]
  simp only [Result.andThen, binOp, Op.shift]
  rw [if_neg (by omega)]
  rfl

theorem AtE.rem {kd : IntKind} {x y : Int} (h : asBin nt k e = some (.rem, .int kd x, .int kd y)) (hb : y ≠ 0)
    (hn : AtE P f nt (nextK k) (putE e (curDst nt k e) (.int kd (x.tmod y))) L S w0 R) : AtE P f nt k e L S w0 R := by
  obtain ⟨o, T, a, b, U, hc, ho, ha, hb'⟩ := asBin_spec h
  refine AtE.opV hc (fun W _ => ?_) hn
  simp only [execOp, ho, ha, hb']
  refine run_lift ?_
  rw [Sem.run_bind, eqGuard_none _ _ _ _ _ _ (by simp)]
  simp [Result.andThen, binOp, Op.intDiv, hb]

theorem AtE.quo {kd : IntKind} {x y : Int} (h : asBin nt k e = some (.quo, .int kd x, .int kd y)) (hb : y ≠ 0)
    (hn : AtE P f nt (nextK k) (putE e (curDst nt k e) (.int kd (kd.wrap (x.tdiv y)))) L S w0 R) : AtE P f nt k e L S w0 R := by
  obtain ⟨o, T, a, b, U, hc, ho, ha, hb'⟩ := asBin_spec h
  refine AtE.opV hc (fun W _ => ?_) hn
  simp only [execOp, ho, ha, hb']
  refine run_lift ?_
  rw [Sem.run_bind, eqGuard_none _ _ _ _ _ _ (by simp)]
  simp [Result.andThen, binOp, Op.intDiv, hb]

/-! ### Calls -/

/-- What a call comes to, from whatever world in which the known blocks lie. -/
def CallH (P : Program) (g : FuncId) (args : Array Value) (L : SHeap) (S : List Nat) (w0 : World) (K : Value → SHeap → Prop) : Prop :=
  ∀ W, Mem L S w0 W → Calls P g args W fun e W' => ∃ v L', e = .returned v ∧ Mem L' S w0 W' ∧ K v L'

theorem AtE.call (g : FuncId) (args : Array Value) {L1 : SHeap} {K : Value → SHeap → Prop} (hr : ∀ W, (execOp (rho e) (curO nt k e)).run P W = .ok (.enter g args) W)
    (hc : (cur nt k e, L) = (some (curO nt k e), L1)) (h : CallH P g args L1 S w0 K)
    (hn : ∀ v L', K v L' → AtE P f nt (nextK k) (putE e (curDst nt k e) v) L' S w0 R) : AtE P f nt k e L S w0 R := by
  intro t W hk hm
  simp only [Prod.mk.injEq] at hc
  obtain ⟨hc, rfl⟩ := hc
  obtain ⟨ops, i, rest, k', rfl, ho, hw, hkn, hp, hd⟩ := cur_spec hc
  have hr' := hr W
  rw [← execOp_congr (Act.mk t []).eval (rho e) _ hp (hk.rho hkn [])] at hr'
  refine At.enter ho (hk.wanted hw) hr' ((h W hm).mono fun en W' hh => ?_)
  obtain ⟨v, L', he, hm', hK⟩ := hh
  refine ⟨v, he, hn v L' hK _ W' ?_ hm'⟩
  have := hk.put hd v []
  simpa only [curDst, hc] using this

/-- A function that computes v and leaves what was there as it was. -/
def PureC (P : Program) (g : FuncId) (args : Array Value) (v : Value) : Prop :=
  ∀ W, Calls P g args W fun e W' => e = .returned v ∧ Below W.heap.size W W'

theorem CallH.pure {g : FuncId} {args : Array Value} {v : Value} {K : Value → SHeap → Prop} (h : PureC P g args v) (hK : K v L) : CallH P g args L S w0 K :=
  fun W hm => (h W).mono fun _ _ hh => ⟨v, L, hh.1, hm.after hh.2, hK⟩

/-! ### The end -/

def Fin (R : Ending → World → Prop) (L : SHeap) (S : List Nat) (w0 : World) (v : Value) : Prop := ∀ W, Mem L S w0 W → R (.returned v) W

def retV (e : Env) (rs : List ResultVar) : Option Value :=
  match rs with
  | [] => some (.tuple #[])
  | [.tmp a] => get? e a
  | [.tmp a, .tmp b] => match get? e a with
    | some x => match get? e b with
      | some y => some (.tuple #[x, y])
      | none => none
    | none => none
  | [.tmp a, .tmp b, .tmp c] => match get? e a with
    | some x => match get? e b with
      | some y => match get? e c with
        | some z => some (.tuple #[x, y, z])
        | none => none
      | none => none
    | none => none
  | _ => none

theorem Knows.getD {t : Array Value} (hk : Knows nt e t) {i : Nat} {v : Value} (h : get? e i = some v) : t.getD i undef = v := by
  rw [Array.getD_eq_getD_getElem?, hk.slot i v h]; rfl

theorem results_run {fn : Func} {t : Array Value} (hk : Knows nt e t) {v : Value} (h : retV e fn.results.toList = some v) (W : World) : (results fn t).run P W = .ok v W := by
  have hr : fn.results = fn.results.toList.toArray := by simp
  unfold retV at h
  split at h
  · next h0 => rw [h0] at hr; simp at h; subst h; exact results_none hr _ _ _
  · next a h0 => rw [h0] at hr; rw [results_tmp hr, hk.getD h]
  · next a b h0 =>
    rw [h0] at hr
    split at h
    · next x hx =>
      split at h
      · next y hy => simp at h; subst h; rw [results_tmp2 hr, hk.getD hx, hk.getD hy]
      · cases h
    · cases h
  · next a b c h0 =>
    rw [h0] at hr
    split at h
    · next x hx =>
      split at h
      · next y hy =>
        split at h
        · next z hz => simp at h; subst h; rw [results_tmp3 hr, hk.getD hx, hk.getD hy, hk.getD hz]
        · cases h
      · cases h
    · cases h
  · cases h

def isRet : List Item → Bool
  | .code .ret :: _ => true
  | [] => true
  | _ => false

theorem AtE.ret {R : Ending → World → Prop} {fn : Func} {v : Value} {L1 : SHeap} (hf : P.funcs[f]? = some fn) (hv : (isRet k, retV e fn.results.toList, L) = (true, some v, L1)) (h : Fin R L1 S w0 v) : AtE P f nt k e L S w0 (nrm R) := by
  simp only [Prod.mk.injEq] at hv
  obtain ⟨h1, hv, rfl⟩ := hv
  intro t W hk hm
  unfold isRet at h1
  split at h1
  · exact At.ret hf (results_run hk hv W) (h W hm)
  · exact At.fin hf (results_run hk hv W) (h W hm)
  · cases h1

/-! ### Words of the conditions -/

def iand (k : IntKind) (x y : Int) : Int := k.wrap ((BitVec.ofInt k.bits x &&& BitVec.ofInt k.bits y).toNat : Int)
def ior (k : IntKind) (x y : Int) : Int := k.wrap ((BitVec.ofInt k.bits x ||| BitVec.ofInt k.bits y).toNat : Int)
def ixor (k : IntKind) (x y : Int) : Int := k.wrap ((BitVec.ofInt k.bits x ^^^ BitVec.ofInt k.bits y).toNat : Int)
def iandNot (k : IntKind) (x y : Int) : Int := k.wrap ((BitVec.ofInt k.bits x &&& ~~~ BitVec.ofInt k.bits y).toNat : Int)
def inot (k : IntKind) (x : Int) : Int := ixor k (if k.signed then -1 else k.max) x

/-- A part of a body, by the way to it. -/
def sub : Code → List Nat → Code
  | c, [] => c
  | .seq a b, i :: r => match i with | 0 => sub a r | _ => sub b r
  | .cond _ a b, i :: r => match i with | 0 => sub a r | _ => sub b r
  | .block _ b, _ :: r => sub b r
  | .loop b, _ :: r => sub b r
  | .scope b, _ :: r => sub b r
  | .rangeFunc _ _ a b, i :: r => match i with | 0 => sub a r | _ => sub b r
  | c, _ => c

/-- The whole function. -/
def body (fn : Func) : Code := match fn.body with | some c => c | none => .skip

def argsE : Nat → List Value → Env
  | _, [] => []
  | i, v :: r => (i, v) :: argsE (i + 1) r

theorem argsE_get : ∀ (vs : List Value) (i j : Nat) (v : Value), get? (argsE i vs) j = some v → i ≤ j ∧ vs[j - i]? = some v
  | [], _, _, _, h => by simp [argsE, get?] at h
  | u :: r, i, j, v, h => by
    simp only [argsE, get?] at h
    cases hb : Nat.beq i j with
    | true =>
      have : i = j := Nat.eq_of_beq_eq_true hb
      subst this
      rw [hb] at h; simp at h; subst h; simp
    | false =>
      rw [hb] at h
      have hne : i ≠ j := fun e => by subst e; simp at hb
      obtain ⟨h1, h2⟩ := argsE_get r (i + 1) j v h
      refine ⟨by omega, ?_⟩
      have : j - i = (j - (i + 1)) + 1 := by omega
      rw [this]; simpa using h2

theorem AtE.calls {fn : Func} {args : List Value} {L : SHeap} {S : List Nat} {w0 W : World} {R : Ending → World → Prop} (hf : P.funcs[f]? = some fn) (hb : (fn.body.isSome, fn.ntmps, Nat.ble args.length nt) = (true, nt, true)) (hm : Mem L S w0 W)
    (h : AtE P f nt [.code (body fn)] (argsE 0 args) L S w0 (nrm R)) : Calls P f ⟨args⟩ W R := by
  simp only [Prod.mk.injEq] at hb
  obtain ⟨h1, h2, h3⟩ := hb
  obtain ⟨c, hc⟩ := Option.isSome_iff_exists.1 h1
  refine At.calls hf hc ?_
  have hbd : body fn = c := by simp [body, hc]
  rw [← hbd]
  have hle : args.length ≤ nt := Nat.le_of_ble_eq_true h3
  refine h _ W ⟨?_, ?_⟩ hm
  · simp [h2]; omega
  · intro i v hv
    obtain ⟨_, hv⟩ := argsE_get args 0 i v hv
    simp only [Nat.sub_zero] at hv
    have hi : i < args.length := (List.getElem?_eq_some_iff.1 hv).1
    rw [Array.getElem?_append_left (by simpa using hi)]
    simpa using hv
end Go.Eng
