/- A part of the engine by which the functions are walked; it speaks of no program. -/
import Derived.Test.YtgplckfjbdnedaaDoorEngDrawRules
namespace Go.Eng
open Go Go.RowKit

/-! ### Words of the machine, in plain numbers -/

theorem wi64 {x : Int} (h : -9223372036854775808 ≤ x ∧ x ≤ 9223372036854775807) : IntKind.i64.wrap x = x := by rw [IntKind.wrap_i64]; omega
theorem wu64 {x : Int} (h : 0 ≤ x ∧ x < 18446744073709551616) : IntKind.u64.wrap x = x := by rw [IntKind.wrap_u64]; omega
theorem wu32 {x : Int} (h : 0 ≤ x ∧ x < 4294967296) : IntKind.u32.wrap x = x := by rw [IntKind.wrap_u32]; omega
theorem wu8 {x : Int} (h : 0 ≤ x ∧ x < 256) : IntKind.u8.wrap x = x := by rw [IntKind.wrap_u8]; omega

theorem ofInt_nat (n x : Nat) : (BitVec.ofInt n (x : Int)).toNat = x % 2 ^ n := by
  rw [BitVec.toNat_ofInt, ← Int.natCast_emod, Int.toNat_natCast]

theorem ior64 {x y : Nat} (hx : x < 2 ^ 64) (hy : y < 2 ^ 64) : ior .u64 (x : Int) (y : Int) = ((x ||| y : Nat) : Int) := by
  have h : x ||| y < 2 ^ 64 := Nat.or_lt_two_pow hx hy
  have e1 : x % 2 ^ 64 = x := Nat.mod_eq_of_lt (by omega)
  have e2 : y % 2 ^ 64 = y := Nat.mod_eq_of_lt (by omega)
  have e : (BitVec.ofInt 64 (x : Int) ||| BitVec.ofInt 64 (y : Int)).toNat = x ||| y := by
    rw [BitVec.toNat_or, ofInt_nat, ofInt_nat, e1, e2]
  show IntKind.u64.wrap ((BitVec.ofInt 64 (x : Int) ||| BitVec.ofInt 64 (y : Int)).toNat : Int) = _
  rw [e, wu64 (by omega)]
theorem ior32 {x y : Nat} (hx : x < 2 ^ 32) (hy : y < 2 ^ 32) : ior .u32 (x : Int) (y : Int) = ((x ||| y : Nat) : Int) := by
  have h : x ||| y < 2 ^ 32 := Nat.or_lt_two_pow hx hy
  have e1 : x % 2 ^ 32 = x := Nat.mod_eq_of_lt (by omega)
  have e2 : y % 2 ^ 32 = y := Nat.mod_eq_of_lt (by omega)
  have e : (BitVec.ofInt 32 (x : Int) ||| BitVec.ofInt 32 (y : Int)).toNat = x ||| y := by
    rw [BitVec.toNat_or, ofInt_nat, ofInt_nat, e1, e2]
  show IntKind.u32.wrap ((BitVec.ofInt 32 (x : Int) ||| BitVec.ofInt 32 (y : Int)).toNat : Int) = _
  rw [e, wu32 (by omega)]
theorem ior8 {x y : Nat} (hx : x < 2 ^ 8) (hy : y < 2 ^ 8) : ior .u8 (x : Int) (y : Int) = ((x ||| y : Nat) : Int) := by
  have h : x ||| y < 2 ^ 8 := Nat.or_lt_two_pow hx hy
  have e1 : x % 2 ^ 8 = x := Nat.mod_eq_of_lt (by omega)
  have e2 : y % 2 ^ 8 = y := Nat.mod_eq_of_lt (by omega)
  have e : (BitVec.ofInt 8 (x : Int) ||| BitVec.ofInt 8 (y : Int)).toNat = x ||| y := by
    rw [BitVec.toNat_or, ofInt_nat, ofInt_nat, e1, e2]
  show IntKind.u8.wrap ((BitVec.ofInt 8 (x : Int) ||| BitVec.ofInt 8 (y : Int)).toNat : Int) = _
  rw [e, wu8 (by omega)]
theorem iorS {x y : Nat} (hx : x < 2 ^ 63) (hy : y < 2 ^ 63) : ior .i64 (x : Int) (y : Int) = ((x ||| y : Nat) : Int) := by
  have h : x ||| y < 2 ^ 63 := Nat.or_lt_two_pow hx hy
  have e1 : x % 2 ^ 64 = x := Nat.mod_eq_of_lt (by omega)
  have e2 : y % 2 ^ 64 = y := Nat.mod_eq_of_lt (by omega)
  have e : (BitVec.ofInt 64 (x : Int) ||| BitVec.ofInt 64 (y : Int)).toNat = x ||| y := by
    rw [BitVec.toNat_or, ofInt_nat, ofInt_nat, e1, e2]
  show IntKind.i64.wrap ((BitVec.ofInt 64 (x : Int) ||| BitVec.ofInt 64 (y : Int)).toNat : Int) = _
  rw [e, wi64 (by omega)]
theorem ixor64 {x y : Nat} (hx : x < 2 ^ 64) (hy : y < 2 ^ 64) : ixor .u64 (x : Int) (y : Int) = ((x ^^^ y : Nat) : Int) := by
  have h : x ^^^ y < 2 ^ 64 := Nat.xor_lt_two_pow hx hy
  have e1 : x % 2 ^ 64 = x := Nat.mod_eq_of_lt (by omega)
  have e2 : y % 2 ^ 64 = y := Nat.mod_eq_of_lt (by omega)
  have e : (BitVec.ofInt 64 (x : Int) ^^^ BitVec.ofInt 64 (y : Int)).toNat = x ^^^ y := by
    rw [BitVec.toNat_xor, ofInt_nat, ofInt_nat, e1, e2]
  show IntKind.u64.wrap ((BitVec.ofInt 64 (x : Int) ^^^ BitVec.ofInt 64 (y : Int)).toNat : Int) = _
  rw [e, wu64 (by omega)]
theorem ixor32 {x y : Nat} (hx : x < 2 ^ 32) (hy : y < 2 ^ 32) : ixor .u32 (x : Int) (y : Int) = ((x ^^^ y : Nat) : Int) := by
  have h : x ^^^ y < 2 ^ 32 := Nat.xor_lt_two_pow hx hy
  have e1 : x % 2 ^ 32 = x := Nat.mod_eq_of_lt (by omega)
  have e2 : y % 2 ^ 32 = y := Nat.mod_eq_of_lt (by omega)
  have e : (BitVec.ofInt 32 (x : Int) ^^^ BitVec.ofInt 32 (y : Int)).toNat = x ^^^ y := by
    rw [BitVec.toNat_xor, ofInt_nat, ofInt_nat, e1, e2]
  show IntKind.u32.wrap ((BitVec.ofInt 32 (x : Int) ^^^ BitVec.ofInt 32 (y : Int)).toNat : Int) = _
  rw [e, wu32 (by omega)]
theorem ixor8 {x y : Nat} (hx : x < 2 ^ 8) (hy : y < 2 ^ 8) : ixor .u8 (x : Int) (y : Int) = ((x ^^^ y : Nat) : Int) := by
  have h : x ^^^ y < 2 ^ 8 := Nat.xor_lt_two_pow hx hy
  have e1 : x % 2 ^ 8 = x := Nat.mod_eq_of_lt (by omega)
  have e2 : y % 2 ^ 8 = y := Nat.mod_eq_of_lt (by omega)
  have e : (BitVec.ofInt 8 (x : Int) ^^^ BitVec.ofInt 8 (y : Int)).toNat = x ^^^ y := by
    rw [BitVec.toNat_xor, ofInt_nat, ofInt_nat, e1, e2]
  show IntKind.u8.wrap ((BitVec.ofInt 8 (x : Int) ^^^ BitVec.ofInt 8 (y : Int)).toNat : Int) = _
  rw [e, wu8 (by omega)]
theorem ixorS {x y : Nat} (hx : x < 2 ^ 63) (hy : y < 2 ^ 63) : ixor .i64 (x : Int) (y : Int) = ((x ^^^ y : Nat) : Int) := by
  have h : x ^^^ y < 2 ^ 63 := Nat.xor_lt_two_pow hx hy
  have e1 : x % 2 ^ 64 = x := Nat.mod_eq_of_lt (by omega)
  have e2 : y % 2 ^ 64 = y := Nat.mod_eq_of_lt (by omega)
  have e : (BitVec.ofInt 64 (x : Int) ^^^ BitVec.ofInt 64 (y : Int)).toNat = x ^^^ y := by
    rw [BitVec.toNat_xor, ofInt_nat, ofInt_nat, e1, e2]
  show IntKind.i64.wrap ((BitVec.ofInt 64 (x : Int) ^^^ BitVec.ofInt 64 (y : Int)).toNat : Int) = _
  rw [e, wi64 (by omega)]
theorem iand64 {x y : Nat} (hx : x < 2 ^ 64) (hy : y < 2 ^ 64) : iand .u64 (x : Int) (y : Int) = ((x &&& y : Nat) : Int) := by
  have h : x &&& y < 2 ^ 64 := Nat.and_lt_two_pow x hy
  have e1 : x % 2 ^ 64 = x := Nat.mod_eq_of_lt (by omega)
  have e2 : y % 2 ^ 64 = y := Nat.mod_eq_of_lt (by omega)
  have e : (BitVec.ofInt 64 (x : Int) &&& BitVec.ofInt 64 (y : Int)).toNat = x &&& y := by
    rw [BitVec.toNat_and, ofInt_nat, ofInt_nat, e1, e2]
  show IntKind.u64.wrap ((BitVec.ofInt 64 (x : Int) &&& BitVec.ofInt 64 (y : Int)).toNat : Int) = _
  rw [e, wu64 (by omega)]
theorem iand32 {x y : Nat} (hx : x < 2 ^ 32) (hy : y < 2 ^ 32) : iand .u32 (x : Int) (y : Int) = ((x &&& y : Nat) : Int) := by
  have h : x &&& y < 2 ^ 32 := Nat.and_lt_two_pow x hy
  have e1 : x % 2 ^ 32 = x := Nat.mod_eq_of_lt (by omega)
  have e2 : y % 2 ^ 32 = y := Nat.mod_eq_of_lt (by omega)
  have e : (BitVec.ofInt 32 (x : Int) &&& BitVec.ofInt 32 (y : Int)).toNat = x &&& y := by
    rw [BitVec.toNat_and, ofInt_nat, ofInt_nat, e1, e2]
  show IntKind.u32.wrap ((BitVec.ofInt 32 (x : Int) &&& BitVec.ofInt 32 (y : Int)).toNat : Int) = _
  rw [e, wu32 (by omega)]
theorem iand8 {x y : Nat} (hx : x < 2 ^ 8) (hy : y < 2 ^ 8) : iand .u8 (x : Int) (y : Int) = ((x &&& y : Nat) : Int) := by
  have h : x &&& y < 2 ^ 8 := Nat.and_lt_two_pow x hy
  have e1 : x % 2 ^ 8 = x := Nat.mod_eq_of_lt (by omega)
  have e2 : y % 2 ^ 8 = y := Nat.mod_eq_of_lt (by omega)
  have e : (BitVec.ofInt 8 (x : Int) &&& BitVec.ofInt 8 (y : Int)).toNat = x &&& y := by
    rw [BitVec.toNat_and, ofInt_nat, ofInt_nat, e1, e2]
  show IntKind.u8.wrap ((BitVec.ofInt 8 (x : Int) &&& BitVec.ofInt 8 (y : Int)).toNat : Int) = _
  rw [e, wu8 (by omega)]
theorem iandS {x y : Nat} (hx : x < 2 ^ 63) (hy : y < 2 ^ 63) : iand .i64 (x : Int) (y : Int) = ((x &&& y : Nat) : Int) := by
  have h : x &&& y < 2 ^ 63 := Nat.and_lt_two_pow x hy
  have e1 : x % 2 ^ 64 = x := Nat.mod_eq_of_lt (by omega)
  have e2 : y % 2 ^ 64 = y := Nat.mod_eq_of_lt (by omega)
  have e : (BitVec.ofInt 64 (x : Int) &&& BitVec.ofInt 64 (y : Int)).toNat = x &&& y := by
    rw [BitVec.toNat_and, ofInt_nat, ofInt_nat, e1, e2]
  show IntKind.i64.wrap ((BitVec.ofInt 64 (x : Int) &&& BitVec.ofInt 64 (y : Int)).toNat : Int) = _
  rw [e, wi64 (by omega)]
theorem or_add {z w m : Nat} (hz : z < 2 ^ m) : z ||| w * 2 ^ m = z + w * 2 ^ m := by
  have := Nat.two_pow_add_eq_or_of_lt hz w
  rw [Nat.or_comm, Nat.mul_comm, ← this]; omega

theorem tmod_nat (x m : Nat) : ((x : Int).tmod (m : Int)) = ((x % m : Nat) : Int) := (Int.ofNat_tmod x m).symm
theorem tdiv_nat (x m : Nat) : ((x : Int).tdiv (m : Int)) = ((x / m : Nat) : Int) := (Int.ofNat_tdiv x m).symm
theorem fdiv_nat (x m : Nat) : ((x : Int).fdiv (m : Int)) = ((x / m : Nat) : Int) := by
  rw [Int.fdiv_eq_ediv_of_nonneg _ (by omega)]; simp

/-- A byte of a string. -/
theorem bat_get {s : ByteArray} {i : Nat} (h : i < s.data.toList.length) : bat s (i : Int) = ((s.data.toList[i]).toNat : Int) := by
  simp only [bat, Int.toNat_natCast, List.getElem?_eq_getElem h, Option.getD_some]
theorem bat_rng (s : ByteArray) (i : Int) : 0 ≤ bat s i ∧ bat s i < 256 := by
  unfold bat
  have := (((s.data.toList)[i.toNat]?).getD 0).toNat_lt
  omega
theorem size_list (s : ByteArray) : s.size = s.data.toList.length := rfl

/-! ### Contracts -/

theorem PureC.intro {P : Program} {g : FuncId} {args : Array Value} {v : Value}
    (h : ∀ W R, (∀ W', Below W.heap.size W W' → R (.returned v) W') → Calls P g args W R) : PureC P g args v :=
  fun W => h W _ fun _ hb => ⟨rfl, hb⟩

theorem blkW_kept {S : List Nat} {w0 W : World} {b : Nat} {c : List Value} (h : Kept S w0 W) (hb : b ∉ S) (hc : blkW w0 b = some c) : blkW W b = some c := by
  have hlt : b < w0.heap.size := by
    rcases Nat.lt_or_ge b w0.heap.size with h | h
    · exact h
    · rw [blkW, Array.getElem?_eq_none h] at hc; cases hc
  rw [blkW, h.block b hlt hb]; exact hc

/-- A pure callee that reads a block of the world. -/
def PureG (P : Program) (g : FuncId) (args : Array Value) (b : Nat) (c : List Value) (v : Value) : Prop :=
  ∀ W, blkW W b = some c → Calls P g args W fun e W' => e = .returned v ∧ Below W.heap.size W W'
theorem CallH.pureG {P : Program} {L : SHeap} {S : List Nat} {w0 : World} {g : FuncId} {args : Array Value} {v : Value} {K : Value → SHeap → Prop} {b : Nat} {c : List Value}
    (h : PureG P g args b c v) (hb : b ∉ S) (hc : blkW w0 b = some c) (hK : K v L) : CallH P g args L S w0 K :=
  fun W hm => (h W (blkW_kept hm.kept hb hc)).mono fun _ _ hh => ⟨v, L, hh.1, hm.after hh.2, hK⟩
theorem QCall.ofG {P : Program} {L : SHeap} {S : List Nat} {w0 : World} {g : FuncId} {args : Array Value} {v : Value} {b : Nat} {c : List Value}
    (h : PureG P g args b c v) (hb : b ∉ S) (hc : blkW w0 b = some c) : QCall P g args L S w0 v :=
  fun W hm => (h W (blkW_kept hm.kept hb hc)).mono fun _ _ hh => ⟨hh.1, hm.after hh.2⟩
end Go.Eng
