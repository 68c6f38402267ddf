/- Contracts and plain laws for the proof; no claim of its own. -/
import Derived.Test.YtgplckfjbdnedaaDoorWireC4
import Derived.Test.YtgplckfjbdnedaaDoorEngM1
import Derived.Test.YtgplckfjbdnedaaDoorEngCase
namespace Go.Eng
open Go Go.RowKit Go.Proofs Wire
set_option linter.unusedVariables false

/-! ### A message: plain -/
structure MS where
  k : Int
  p : Int
  q : Int
  t : Int
  b : Int
  v : Int
  d : ByteArray

abbrev MS.val (m : MS) : Value := .agg #[.int .i64 m.k, .int .i64 m.p, .int .i64 m.q, .int .i64 m.t, .int .i64 m.b, .int .i64 m.v, .string m.d]
def MS.Ok (m : MS) : Prop :=
  (1 ≤ m.p ∧ m.p ≤ 8 ∧ 1 ≤ m.q ∧ m.q ≤ 4611686018427387903 ∧ 1 ≤ m.t ∧ m.t ≤ 64 ∧ 0 ≤ m.b ∧ m.b ≤ 4294967295 ∧ 0 ≤ m.v ∧ m.v ≤ 4294967295) ∧
    ((m.k = 1 ∧ m.d.size ≤ 16384) ∨ (m.k = 2 ∧ m.b = 0 ∧ m.v = 0 ∧ m.d.size = 0) ∨ (m.k = 3 ∧ m.b = 0 ∧ m.d.size = 0) ∨ (m.k = 4 ∧ m.v = 0 ∧ m.d.size = 0))
instance (m : MS) : Decidable m.Ok := by unfold MS.Ok; infer_instance
def MS.valid (m : MS) : Bool := decide m.Ok

theorem size_nil {s : ByteArray} (h : s.size = 0) : s = ⟨#[]⟩ := by
  apply ByteArray.ext
  exact Array.eq_empty_of_size_eq_zero h
theorem strEmpty (s : ByteArray) : (s.toList == (⟨#[]⟩ : ByteArray).toList) = decide (s.size = 0) := by
  have h := strEq_iff s ⟨#[]⟩
  cases hb : (s.toList == (⟨#[]⟩ : ByteArray).toList) with
  | true => rw [h.1 hb]; rfl
  | false =>
    symm
    apply decide_eq_false
    intro h0
    rw [h.2 (size_nil h0)] at hb
    cases hb

theorem ok_false {m : MS} (h : ¬ m.Ok) : (Value.bool false) = .bool m.valid := by rw [MS.valid, decide_eq_false h]
theorem ok_dec {m : MS} {p : Prop} [Decidable p] (h : m.Ok ↔ p) : (Value.bool (decide p)) = .bool m.valid := by
  rw [MS.valid]; congr 1; simp only [decide_eq_decide]; exact h.symm

theorem mValid_c (m : MS) : PureC Tryd.prog 14 ⟨[m.val]⟩ (.bool m.valid) := by
  refine fun W => mValid_vc m.k m.p m.q m.t m.b m.v m.d (Mem.start [] W) fun B => ?_
  repeat' (first
    | refine And.intro ?_ ?_
    | exact finPure (ok_false (by unfold MS.Ok; omega))
    | exact finPure (ok_dec (by unfold MS.Ok; omega))
    | (rw [strEmpty]; exact finPure (ok_dec (by unfold MS.Ok; omega)))
    | intro _)

theorem qValid_c (m : MS) : PureC Tryd.prog 15 ⟨[m.val]⟩ (.bool m.valid) := by
  refine fun W => qValid_vc m.k m.p m.q m.t m.b m.v m.d (Mem.start [] W) fun B => ?_
  repeat' (first
    | refine And.intro ?_ ?_
    | exact finPure (ok_false (by unfold MS.Ok; omega))
    | exact finPure (ok_dec (by unfold MS.Ok; omega))
    | (rw [strEmpty]; exact finPure (ok_dec (by unfold MS.Ok; omega)))
    | intro _)

/-! ### short -/
def MS.short (m : MS) : MS := { m with d := m.d.extract 0 (min m.d.size 20000) }
theorem short_c (m : MS) : PureC Tryd.prog 11 ⟨[m.val]⟩ m.short.val := by
  refine fun W => short_vc m.k m.p m.q m.t m.b m.v m.d (Mem.start [] W) fun B B1 => ?_
  have h : (Int.toNat (if (20000 : Int) < (m.d.size : Int) then (20000 : Int) else (m.d.size : Int))) = min m.d.size 20000 := by split <;> omega
  refine ⟨by split <;> omega, ?_⟩
  rw [h]
  exact finPure rfl

/-! ### Encode -/
def MS.body (m : MS) : List UInt8 := enc m.k ++ (enc m.p ++ (enc m.q ++ (enc m.t ++ (enc m.b ++ (enc m.v ++ encS (bts m.d))))))
def sealL (l : List UInt8) : List UInt8 := enc (crc l : Int) ++ l
abbrev ba (l : List UInt8) : ByteArray := ⟨l.toArray⟩
def MS.code (m : MS) : ByteArray := ba (sealL m.body)
def MS.encAns (m : MS) : Value := if m.Ok then .tuple #[.string m.code, .int .i64 0] else .tuple #[.string ⟨#[]⟩, .int .i64 200]

theorem MS.Ok.ints {m : MS} (h : m.Ok) : okInt m.k ∧ okInt m.p ∧ okInt m.q ∧ okInt m.t ∧ okInt m.b ∧ okInt m.v ∧ m.d.size ≤ 65536 := by
  unfold MS.Ok at h
  unfold okInt maxInt
  omega
theorem okCrc (l : List UInt8) : okInt (crc l : Int) := by
  have := crc_lt l
  unfold okInt maxInt
  omega
theorem encS_len (t : List UInt8) : (encS t).length ≤ t.length + 10 := by
  unfold encS; rw [List.length_append]; have := enc_len t.length; omega
theorem body_len (m : MS) : m.body.length ≤ m.d.size + 70 := by
  have h := encS_len (bts m.d)
  rw [bts_len] at h
  unfold MS.body
  simp only [List.length_append]
  have := enc_len m.k; have := enc_len m.p; have := enc_len m.q; have := enc_len m.t; have := enc_len m.b; have := enc_len m.v
  omega
theorem ba_append (a b : List UInt8) : ba a ++ ba b = ba (a ++ b) := bts_inj (by rw [bts_append, bts_mk, bts_mk, bts_mk])
theorem ba_size (a : List UInt8) : (ba a).size = a.length := by rw [← bts_len, bts_mk]
theorem nil_ba (a : List UInt8) : (⟨#[]⟩ : ByteArray) ++ ba a = ba a := ba_append [] a
end Go.Eng
