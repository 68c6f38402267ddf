/- A part of the proof: the engine by which functions are walked, verification conditions that a program of the prover wrote, contracts and plain laws; no claim of its own. -/
import Derived.Test.YtfobdgoklnhebaaGreatDoorChecked
import Derived.RangeFuncNested
import Derived.RangeFuncFrom
import Derived.RangeFuncBound
import Derived.RangeFuncCalls
import Derived.RangeFuncLeaves
import Derived.Shelf.Abstract
import Derived.Shelf.RegionOpen
import Derived.WalkKit
import Derived.OwnWalkIn
import Derived.TacticsInMore
import Derived.LoopNIn
import Derived.LoopIn
import Derived.Outline
import Derived.Laws.BytesString
import Derived.Lib.Hide
import Derived.Test.YtfobdgoklnhebaaGreatDoorReoB
set_option linter.unusedVariables false
set_option linter.unusedSimpArgs false
namespace Go.Eng
open Go Go.RowKit Go.Proofs
variable {P : Program} {R : Ending → World → Prop} {S : List Nat} {w0 W : World} {lk : Lk} {tp bp ap : OA} {tc bc ac : Nat} {K K' : Value → SHeap → Prop} {args : Array Value} {g : FuncId}
noncomputable abbrev TP : Program := Tryz.prog
set_option maxRecDepth 100000
theorem String_vc (s : BA) (atv : Int) (hm : Mem [] [] w0 W)
 (H :
 CallH TP 83 ⟨[.string s, IV atv]⟩ [] [] w0 (fun v L' => ∃ r1 r21 r31, v = (.tuple #[IV r1, IV r21, IV r31]) ∧ L' = [] ∧
 Bn (r31 = 0)
 (Fin R [] [] w0 (.tuple #[.string (⟨#[]⟩), IV 0, IV r31]))
 (Br (r1 < 0)
 (Fin R [] [] w0 (.tuple #[.string (⟨#[]⟩), IV 0, IV 10]))
 (Br ((65536 : Int) < r1)
 (Fin R [] [] w0 (.tuple #[.string (⟨#[]⟩), IV 0, IV 10]))
 (Br ((IntKind.i64.wrap ((s.size : Int) - r21)) < r1)
 (Fin R [] [] w0 (.tuple #[.string (⟨#[]⟩), IV 0, IV 10]))
 ((0 ≤ r21 ∧ r21 ≤ (IntKind.i64.wrap (r21 + r1)) ∧ (IntKind.i64.wrap (r21 + r1)) ≤ s.size) ∧
 ∀ t4 : BA, t4 = (s.extract (Int.toNat r21) (Int.toNat (IntKind.i64.wrap (r21 + r1)))) →
 ∀ t5 : Int, t5 = (IntKind.i64.wrap (r21 + r1)) →
 Fin R [] [] w0 (.tuple #[.string t4, IV t5, IV 0]))))))) :
 Calls TP 122 ⟨[.string s, IV atv]⟩ W R:= by
 refine AtE.cs 43 Tryz.func122 hm (.ru 10 (.cl H ?_))
 rintro _ _ ⟨r1, r21, r31, rfl, rfl, H⟩
 refine .ru 14 (.sN 18 H (fun H => ?_) fun H => ?_)
 ·refine .ru 8 (.rt Tryz.func122 H)
 ·refine .ru 8 (.sP 22 H (fun H => ?_) fun H => ?_)
  ·refine .ru 19 (.rt Tryz.func122 H)
  ·refine .ru 4 (.sP 26 H (fun H => ?_) fun H => ?_)
   ·refine .ru 15 (.rt Tryz.func122 H)
   ·refine .ru 8 (.sP 33 H (fun H => ?_) fun H => ?_)
    ·refine .ru 7 (.rt Tryz.func122 H)
    ·refine .ru 9 (.sliceS (s := s) (lo := some (IV r21)) (hi := some (IV (IntKind.i64.wrap (r21 + r1)))) (a := r21) (b := (IntKind.i64.wrap (r21 + r1))) (by kernel_rfl) (.inl ⟨.i64, rfl⟩) (.inl ⟨.i64, rfl⟩) H.1 ?_)
     replace H := H.2
     refine .ru 4 (.letS 4 (n := (s.extract (Int.toNat r21) (Int.toNat (IntKind.i64.wrap (r21 + r1))))) (by kernel_rfl) (fun t4 ht4 => ?_))
     replace H := H t4 ht4
     refine .ru 1 (.lI 5 H fun t5 H => (.ru 2 (.rt Tryz.func122 H)))
def Int_c0 (s1 : BA) (atv1 z shift : Int) (w0 : World) (R : Ending → World → Prop) : Prop :=
 AtE TP 83 62 (KC Tryz.f83 244) [(0, .string s1), (1, IV atv1), (7, .int .u64 z), (8, IV shift)] [] [] w0 (nrm R)
theorem Int_c0_vc (s1 : BA) (atv1 z shift : Int)
 (H :
 Br (shift < 63)
 (Br (atv1 = (s1.size : Int))
 (Fin R [] [] w0 (.tuple #[IV 0, IV 0, IV 10]))
 ((0 ≤ atv1 ∧ atv1 < s1.size) ∧
 ∀ b : Int, b = (bat s1 atv1) →
 ∀ atv2 : Int, atv2 = (IntKind.i64.wrap (atv1 + (1 : Int))) →
 (0 ≤ shift) ∧
 ∀ z1 : Int, z1 = (ior .u64 z (IntKind.u64.wrap ((IntKind.u64.wrap (b.tmod (128 : Int))) * 2 ^ (min (Int.toNat shift) 64)))) →
 Br ((128 : Int) ≤ b)
 (∀ shift1 : Int, shift1 = (IntKind.i64.wrap (shift + (7 : Int))) →
 Int_c0 s1 atv2 z1 shift1 w0 R)
 (∀ n : Int, n = (IntKind.i64.wrap (IntKind.u64.wrap (z1.tdiv (2 : Int)))) →
 Br ((z1.tmod (2 : Int)) = (1 : Int))
 (∀ n1 : Int, n1 = (IntKind.i64.wrap ((IntKind.i64.wrap (0 - n)) - (1 : Int))) →
 Br (b = 0)
 (Br ((0 : Int) < shift)
 (Fin R [] [] w0 (.tuple #[IV 0, IV 0, IV 10]))
 (Br (n1 < (-4611686018427387903 : Int))
 (Fin R [] [] w0 (.tuple #[IV 0, IV 0, IV 10]))
 (Fin R [] [] w0 (.tuple #[IV n1, IV atv2, IV 0]))))
 (Br (n1 < (-4611686018427387903 : Int))
 (Fin R [] [] w0 (.tuple #[IV 0, IV 0, IV 10]))
 (Fin R [] [] w0 (.tuple #[IV n1, IV atv2, IV 0]))))
 (Br (b = 0)
 (Br ((0 : Int) < shift)
 (Fin R [] [] w0 (.tuple #[IV 0, IV 0, IV 10]))
 (Br (n < (-4611686018427387903 : Int))
 (Fin R [] [] w0 (.tuple #[IV 0, IV 0, IV 10]))
 (Fin R [] [] w0 (.tuple #[IV n, IV atv2, IV 0]))))
 (Br (n < (-4611686018427387903 : Int))
 (Fin R [] [] w0 (.tuple #[IV 0, IV 0, IV 10]))
 (Fin R [] [] w0 (.tuple #[IV n, IV atv2, IV 0])))))))
 (Fin R [] [] w0 (.tuple #[IV 0, IV 0, IV 10]))) :
 Int_c0 s1 atv1 z shift w0 R:= by
 unfold Int_c0
 refine .ru 6 (.sP 20 H (fun H => ?_) fun H => ?_)
 ·refine .ru 12 (.sP 26 H (fun H => ?_) fun H => ?_)
  ·refine .ru 7 (.rt Tryz.func83 H)
  ·refine .ru 6 (.indexS (s := s1) (kd := .i64) (i := atv1) (by kernel_rfl) H.1 ?_)
   replace H := H.2
   refine .ru 1 (.letI 9 (kd := .u8) (n := (bat s1 atv1)) (by kernel_rfl) (fun b hb => ?_))
   replace H := H b hb
   refine .ru 6 (.lI 1 H fun atv2 H => (.ru 8 (.shl (kd := .u64) (kc := .i64) (x := (IntKind.u64.wrap (b.tmod (128 : Int)))) (y := shift) (by kernel_rfl) H.1 ?_)))
   replace H := H.2
   refine .ru 2 (.letI 7 (kd := .u64) (n := (ior .u64 z (IntKind.u64.wrap ((IntKind.u64.wrap (b.tmod (128 : Int))) * 2 ^ (min (Int.toNat shift) 64))))) (by kernel_rfl) (fun z1 hz1 => ?_))
   replace H := H z1 hz1
   refine .ru 7 (.sP 40 H (fun H => ?_) fun H => ?_)
   ·refine .ru 6 (.lI 8 H fun shift1 H => (.ru 2 (.ct [] H)))
   ·refine .ru 8 (.lI 10 H fun n H => (.ru 8 (.sP 46 H (fun H => ?_) fun H => ?_)))
    ·refine .ru 6 (.lI 10 H fun n1 H => (.ru 7 (.sP 52 H (fun H => ?_) fun H => ?_)))
     ·refine .ru 4 (.sP 56 H (fun H => ?_) fun H => ?_)
      ·refine .ru 11 (.rt Tryz.func83 H)
      ·refine .ru 4 (.sP 59 H (fun H => ?_) fun H => ?_)
       ·refine .ru 7 (.rt Tryz.func83 H)
       ·refine .ru 10 (.rt Tryz.func83 H)
     ·refine .ru 8 (.sP 59 H (fun H => ?_) fun H => ?_)
      ·refine .ru 7 (.rt Tryz.func83 H)
      ·refine .ru 10 (.rt Tryz.func83 H)
    ·refine .ru 8 (.sP 52 H (fun H => ?_) fun H => ?_)
     ·refine .ru 4 (.sP 56 H (fun H => ?_) fun H => ?_)
      ·refine .ru 11 (.rt Tryz.func83 H)
      ·refine .ru 4 (.sP 59 H (fun H => ?_) fun H => ?_)
       ·refine .ru 7 (.rt Tryz.func83 H)
       ·refine .ru 10 (.rt Tryz.func83 H)
     ·refine .ru 8 (.sP 59 H (fun H => ?_) fun H => ?_)
      ·refine .ru 7 (.rt Tryz.func83 H)
      ·refine .ru 10 (.rt Tryz.func83 H)
 ·refine .ru 8 (.rt Tryz.func83 H)
theorem Int_vc (s : BA) (atv : Int) (hm : Mem [] [] w0 W)
 (H :
 Br (atv < 0)
 (Fin R [] [] w0 (.tuple #[IV 0, IV 0, IV 2]))
 (Br ((s.size : Int) < atv)
 (Fin R [] [] w0 (.tuple #[IV 0, IV 0, IV 2]))
 (Int_c0 s atv (0 : Int) (0 : Int) w0 R))) :
 Calls TP 83 ⟨[.string s, IV atv]⟩ W R:= by
 refine AtE.cs 62 Tryz.func83 hm (.ru 12 (.sP 13 H (fun H => ?_) fun H => ?_))
 ·refine .ru 13 (.rt Tryz.func83 H)
 ·refine .ru 6 (.sP 18 H (fun H => ?_) fun H => ?_)
  ·refine .ru 7 (.rt Tryz.func83 H)
  ·refine .ru 13 (.ct [] H)
theorem PutString_vc (s : BA) (hm : Mem [] [] w0 W)
 (H :
 Br ((65536 : Int) < (s.size : Int))
 (Fin R [] [] w0 (.tuple #[.string (⟨#[]⟩), IV 10]))
 (CallH TP 48 ⟨[IV (s.size : Int)]⟩ [] [] w0 (fun v L' => ∃ r1 r21, v = (.tuple #[.string r1, IV r21]) ∧ L' = [] ∧
 Bn (r21 = 0)
 (Fin R [] [] w0 (.tuple #[.string (⟨#[]⟩), IV r21]))
 ((r1.size + s.size ≤ 9223372036854775807) ∧
 ∀ t2 : BA, t2 = (r1 ++ s) →
 Fin R [] [] w0 (.tuple #[.string t2, IV 0]))))) :
 Calls TP 91 ⟨[.string s]⟩ W R:= by
 refine AtE.cs 21 Tryz.func91 hm (.ru 12 (.sP 8 H (fun H => ?_) fun H => ?_))
 ·refine .ru 6 (.rt Tryz.func91 H)
 ·refine .ru 6 (.cl H ?_)
  rintro _ _ ⟨r1, r21, rfl, rfl, H⟩
  refine .ru 12 (.sN 16 H (fun H => ?_) fun H => ?_)
  ·refine .ru 7 (.rt Tryz.func91 H)
  ·refine .ru 6 (.concat (x := r1) (y := s) (by kernel_rfl) H.1 ?_)
   replace H := H.2
   refine .ru 1 (.letS 2 (n := (r1 ++ s)) (by kernel_rfl) (fun t2 ht2 => ?_))
   replace H := H t2 ht2
   refine .ru 2 (.rt Tryz.func91 H)
abbrev PutIntA0 : Array Value := #[.int .u8 0, .int .u8 0, .int .u8 0, .int .u8 0, .int .u8 0, .int .u8 0, .int .u8 0, .int .u8 0, .int .u8 0, .int .u8 0]
theorem PutInt_vc (n : Int) (hm : Mem [] [] w0 W)
 (H :
 Br (n < (-4611686018427387903 : Int))
 (Fin R [] [] w0 (.tuple #[.string (⟨#[]⟩), IV 10]))
 (Br ((4611686018427387903 : Int) < n)
 (Fin R [] [] w0 (.tuple #[.string (⟨#[]⟩), IV 10]))
 (∀ z : Int, z = (IntKind.u64.wrap ((2 : Int) * (IntKind.u64.wrap n))) →
 Br (n < 0)
 (∀ z1 : Int, z1 = (IntKind.u64.wrap ((IntKind.u64.wrap ((2 : Int) * (IntKind.u64.wrap (IntKind.i64.wrap (0 - n))))) - (1 : Int))) →
 ∀ B B1 : Nat,
 CallH TP 87 ⟨[.int .u64 z1]⟩ [(B, .cells PutIntA0 142), (B1, .cells #[IV 0] 3)] [] w0 (fun v L' => ∃ (r1 : Value), v = (r1) ∧ L' = [(B, .cells PutIntA0 142), (B1, .cells #[IV 0] 3)] ∧
 False))
 (∀ B2 B3 : Nat,
 CallH TP 87 ⟨[.int .u64 z]⟩ [(B2, .cells PutIntA0 142), (B3, .cells #[IV 0] 3)] [] w0 (fun v L' => ∃ (r21 : Value), v = (r21) ∧ L' = [(B2, .cells PutIntA0 142), (B3, .cells #[IV 0] 3)] ∧
 False))))) :
 Calls TP 48 ⟨[IV n]⟩ W R:= by
 refine AtE.cs 35 Tryz.func48 hm (.ru 11 (.sP 10 H (fun H => ?_) fun H => ?_))
 ·refine .ru 10 (.rt Tryz.func48 H)
 ·refine .ru 4 (.sP 13 H (fun H => ?_) fun H => ?_)
  ·refine .ru 6 (.rt Tryz.func48 H)
  ·refine .ru 8 (.letI 4 (kd := .u64) (n := (IntKind.u64.wrap ((2 : Int) * (IntKind.u64.wrap n)))) (by kernel_rfl) (fun z hz => ?_))
   replace H := H z hz
   refine .ru 7 (.sP 18 H (fun H => ?_) fun H => ?_)
   ·refine .ru 8 (.letI 4 (kd := .u64) (n := (IntKind.u64.wrap ((IntKind.u64.wrap ((2 : Int) * (IntKind.u64.wrap (IntKind.i64.wrap (0 - n))))) - (1 : Int)))) (by kernel_rfl) (fun z1 hz1 => ?_))
    replace H := H z1 hz1
    refine .ru 3 (.nH (.cells PutIntA0 142) H fun B H => (.ru 3 (.nH (.cells #[IV 0] 3) H fun B1 H => (.st 1 0 (.ru 5 (.cl H ?_))))))
    rintro _ _ ⟨r1, rfl, rfl, H⟩
    exact H.elim
   ·refine .ru 4 (.nH (.cells PutIntA0 142) H fun B2 H => (.ru 3 (.nH (.cells #[IV 0] 3) H fun B3 H => (.st 1 0 (.ru 5 (.cl H ?_))))))
    rintro _ _ ⟨r21, rfl, rfl, H⟩
    exact H.elim
end Go.Eng
namespace Wire
def leb : Nat → Nat → List Nat
 | 0, z => [z % 256]
 | f + 1, z => if z < 128 then [z] else (z % 128 + 128) :: leb f (z / 128)
def lebI (f z : Nat) : List Int := (leb f z).map Int.ofNat
def zig (n : Int) : Nat := if n < 0 then (-n).toNat * 2 - 1 else n.toNat * 2
def unzig (z : Nat) : Int := if z % 2 = 1 then -((z / 2 : Nat) : Int) - 1 else ((z / 2 : Nat) : Int)
def maxInt : Int := 4611686018427387903
def okInt (n : Int) : Prop := -maxInt ≤ n ∧ n ≤ maxInt
instance (n : Int) : Decidable (okInt n) := inferInstanceAs (Decidable (_ ∧ _))
def enc (n : Int) : List UInt8 := (leb 9 (zig n)).map UInt8.ofNat
def rdGo : Nat → Nat → Nat → List UInt8 → Option (Int × Nat)
 | 0, _, _, _ => none
 | _ + 1, _, _, [] => none
 | g + 1, i, z, b :: r =>
  if 128 ≤ b.toNat then (rdGo g (i + 1) (z + b.toNat % 128 * 128 ^ i) r).map fun p => (p.1, p.2 + 1)
  else if (b.toNat = 0 ∧ 0 < i) ∨ unzig (z + b.toNat % 128 * 128 ^ i) < -maxInt then none
  else some (unzig (z + b.toNat % 128 * 128 ^ i), 1)
def rdInt (l : List UInt8) : Option (Int × Nat) := rdGo 9 0 0 l
theorem zig_lt {n : Int} (h : okInt n) : zig n < 9223372036854775807 := by
 unfold okInt maxInt at h; unfold zig; split <;> omega
theorem unzig_zig (n : Int) : unzig (zig n) = n := by
 unfold unzig zig
 split <;> split <;> omega
theorem zig_unzig (z : Nat) : zig (unzig z) = z := by
 unfold unzig
 split
 ·unfold zig; rw [if_pos (by omega)]; omega
 ·unfold zig; rw [if_neg (by omega)]; omega
theorem leb_len : ∀ (f z : Nat), (leb f z).length ≤ f + 1
 | 0, z => by simp [leb]
 | f + 1, z => by
  unfold leb; split
  ·simp
  ·have := leb_len f (z / 128); simp; omega
theorem rdGo_leb : ∀ (g i z y : Nat) (r : List UInt8), y < 128 ^ (g + 1) → (0 < i → 0 < y) → -maxInt ≤ unzig (z + y * 128 ^ i) →
  rdGo (g + 1) i z ((leb g y).map UInt8.ofNat ++ r) = some (unzig (z + y * 128 ^ i), (leb g y).length)
 | 0, i, z, y, r, hy, hi, hm => by
  have hy' : y < 128 := by simpa using hy
  have hb : (UInt8.ofNat (y % 256)).toNat = y := by simp; omega
  simp only [leb, List.map_cons, List.map_nil, List.cons_append, List.nil_append, rdGo, hb]
  rw [if_neg (by omega)]
  have hmod : y % 128 = y := Nat.mod_eq_of_lt hy'
  rw [hmod, if_neg (by intro h; rcases h with h | h; exact absurd (hi h.2) (by omega); omega)]
  rfl
 | g + 1, i, z, y, r, hy, hi, hm => by
  unfold leb
  split
  ·next h =>
   have hb : (UInt8.ofNat y).toNat = y := by simp; omega
   simp only [List.map_cons, List.map_nil, List.cons_append, List.nil_append, rdGo, hb]
   rw [if_neg (by omega)]
   have hmod : y % 128 = y := Nat.mod_eq_of_lt h
   rw [hmod, if_neg (by intro h; rcases h with h | h; exact absurd (hi h.2) (by omega); omega)]
   rfl
  ·next h =>
   have hb : (UInt8.ofNat (y % 128 + 128)).toNat = y % 128 + 128 := by simp; omega
   simp only [List.map_cons, List.cons_append]
   have hz : z + y * 128 ^ i = (z + y % 128 * 128 ^ i) + y / 128 * 128 ^ (i + 1) := by
    have h1 : y = y % 128 + y / 128 * 128 := by omega
    have h2 : y * 128 ^ i = y % 128 * 128 ^ i + y / 128 * 128 ^ (i + 1) := by
     rw [Nat.pow_succ]
     have h3 : y * 128 ^ i = (y % 128 + y / 128 * 128) * 128 ^ i := by rw [← h1]
     rw [h3, Nat.add_mul, Nat.mul_assoc, Nat.mul_comm 128 (128 ^ i)]
    omega
   have ih := rdGo_leb g (i + 1) (z + y % 128 * 128 ^ i) (y / 128) r (by rw [Nat.div_lt_iff_lt_mul (by omega)]; rw [Nat.pow_succ] at hy; exact hy) (fun _ => by omega) (by rw [← hz]; exact hm)
   conv => lhs; unfold rdGo
   simp only [hb]
   rw [if_pos (by omega)]
   have hmod : (y % 128 + 128) % 128 = y % 128 := by omega
   rw [hmod, ih, ← hz]
   simp
theorem rdInt_enc {n : Int} (h : okInt n) (r : List UInt8) : rdInt (enc n ++ r) = some (n, (enc n).length) := by
  have hz := zig_lt h

  have key : ∀ (f z : Nat), z < 128 ^ (f + 1) → leb (f + 1) z = leb f z := by
    intro f
    induction f with
    | zero => intro z hz; simp at hz; simp [leb, hz]; omega
    | succ f ih =>
      intro z hz
      have : leb (f + 1 + 1) z = if z < 128 then [z] else (z % 128 + 128) :: leb (f + 1) (z / 128) := rfl
      rw [this]
      have h2 : leb (f + 1) z = if z < 128 then [z] else (z % 128 + 128) :: leb f (z / 128) := rfl
      rw [h2]
      split
      · rfl
      · rw [ih (z / 128) (by rw [Nat.div_lt_iff_lt_mul (by omega)]; rw [Nat.pow_succ] at hz; exact hz)]
  unfold rdInt enc
  rw [key 8 (zig n) (by have : (128 : Nat) ^ (8 + 1) = 9223372036854775808 := by decide
                        omega)]
  have := rdGo_leb 8 0 0 (zig n) r (by have : (128 : Nat) ^ (8 + 1) = 9223372036854775808 := by decide
                                       omega) (by omega) (by simp [unzig_zig]; exact h.1)
  simpa [unzig_zig] using this
theorem rdGo_inv : ∀ (g i z : Nat) (l : List UInt8) (n : Int) (k : Nat), rdGo (g + 1) i z l = some (n, k) →
  ∃ y, n = unzig (z + y * 128 ^ i) ∧ y < 128 ^ (g + 1) ∧ l.take k = (leb g y).map UInt8.ofNat ∧ k = (leb g y).length ∧ k ≤ l.length ∧ (0 < i → 0 < y) ∧ -maxInt ≤ n
 | 0, i, z, [], n, k, h => by simp [rdGo] at h
 | 0, i, z, b :: r, n, k, h => by
  simp only [rdGo] at h
  split at h
  ·simp at h
  ·next hb =>
   split at h
   ·cases h
   ·next hc =>
    simp only [Option.some.injEq, Prod.mk.injEq] at h
    obtain ⟨rfl, rfl⟩ := h
    have hb' : b.toNat < 128 := by omega
    have hmod : b.toNat % 128 = b.toNat := Nat.mod_eq_of_lt hb'
    rw [hmod] at hc ⊢
    refine ⟨b.toNat, rfl, by simpa using hb', ?_, by simp [leb], by simp, fun hi => ?_, ?_⟩
    ·have : b.toNat % 256 = b.toNat := by omega
     simp [leb, this]
    ·rcases Nat.eq_zero_or_pos b.toNat with h0 | h0
     ·exact absurd (Or.inl ⟨h0, hi⟩) hc
     ·exact h0
    ·rcases Int.lt_or_le (unzig (z + b.toNat * 128 ^ i)) (-maxInt) with h0 | h0
     ·exact absurd (Or.inr h0) hc
     ·exact h0
 | g + 1, i, z, [], n, k, h => by simp [rdGo] at h
 | g + 1, i, z, b :: r, n, k, h => by
  unfold rdGo at h
  split at h
  ·next hb =>
   rw [Option.map_eq_some_iff] at h
   obtain ⟨⟨n', k'⟩, h1, h2⟩ := h
   simp only [Prod.mk.injEq] at h2
   obtain ⟨rfl, rfl⟩ := h2
   obtain ⟨y, hn, hy, ht, hk, hle, hpos, hm⟩ := rdGo_inv g (i + 1) _ r n' k' h1
   have hy0 := hpos (by omega)
   have hbl : b.toNat < 256 := b.toNat_lt
   refine ⟨b.toNat % 128 + y * 128, ?_, ?_, ?_, ?_, ?_, fun _ => by omega, hm⟩
   ·rw [hn]
    congr 1
    rw [Nat.add_mul, Nat.mul_assoc, Nat.pow_succ, Nat.mul_comm (128 ^ i) 128]
    omega
   ·rw [Nat.pow_succ]
    omega
   ·unfold leb
    rw [if_neg (by omega)]
    have h1 : (b.toNat % 128 + y * 128) % 128 = b.toNat % 128 := by omega
    have h2 : (b.toNat % 128 + y * 128) / 128 = y := by omega
    rw [h1, h2]
    have h3 : b.toNat % 128 + 128 = b.toNat := by omega
    rw [h3]
    simp [ht]
   ·unfold leb
    rw [if_neg (by omega)]
    have h2 : (b.toNat % 128 + y * 128) / 128 = y := by omega
    rw [h2]
    simp; omega
   ·simp; omega
  ·next hb =>
   split at h
   ·cases h
   ·next hc =>
    simp only [Option.some.injEq, Prod.mk.injEq] at h
    obtain ⟨rfl, rfl⟩ := h
    have hb' : b.toNat < 128 := by omega
    have hmod : b.toNat % 128 = b.toNat := Nat.mod_eq_of_lt hb'
    rw [hmod] at hc ⊢
    have hl : leb (g + 1) b.toNat = [b.toNat] := by unfold leb; rw [if_pos hb']
    refine ⟨b.toNat, rfl, ?_, ?_, by rw [hl]; rfl, by simp, fun hi => ?_, ?_⟩
    ·have : (128 : Nat) ≤ 128 ^ (g + 1 + 1) := by
      rw [Nat.pow_succ]; exact Nat.le_mul_of_pos_left 128 (Nat.pow_pos (by omega))
     omega
    ·rw [hl]; simp
    ·rcases Nat.eq_zero_or_pos b.toNat with h0 | h0
     ·exact absurd (Or.inl ⟨h0, hi⟩) hc
     ·exact h0
    ·rcases Int.lt_or_le (unzig (z + b.toNat * 128 ^ i)) (-maxInt) with h0 | h0
     ·exact absurd (Or.inr h0) hc
     ·exact h0
theorem leb_succ (f z : Nat) : z < 128 ^ (f + 1) → leb (f + 1) z = leb f z := by
 induction f generalizing z with
 | zero => intro hz; simp at hz; simp [leb, hz]; omega
 | succ f ih =>
  intro hz
  have h1 : leb (f + 1 + 1) z = if z < 128 then [z] else (z % 128 + 128) :: leb (f + 1) (z / 128) := rfl
  have h2 : leb (f + 1) z = if z < 128 then [z] else (z % 128 + 128) :: leb f (z / 128) := rfl
  rw [h1, h2]
  split
  ·rfl
  ·rw [ih (z / 128) (by rw [Nat.div_lt_iff_lt_mul (by omega)]; rw [Nat.pow_succ] at hz; exact hz)]
theorem rdInt_inv {l : List UInt8} {n : Int} {k : Nat} (h : rdInt l = some (n, k)) : okInt n ∧ k ≤ l.length ∧ l.take k = enc n ∧ k = (enc n).length := by
 obtain ⟨y, hn, hy, ht, hk, hle, _, hm⟩ := rdGo_inv 8 0 0 l n k h
 have hp : (128 : Nat) ^ (8 + 1) = 9223372036854775808 := by decide
 have hzy : zig n = y := by rw [hn]; simp [zig_unzig]
 have hl : leb 9 (zig n) = leb 8 y := by rw [hzy]; exact leb_succ 8 y hy
 refine ⟨⟨hm, ?_⟩, hle, by rw [ht, enc, hl], by rw [hk, enc, hl]; simp⟩
 have : n = unzig y := by rw [hn]; simp
 rw [this]
 unfold unzig maxInt
 split <;> omega
theorem enc_len (n : Int) : (enc n).length ≤ 10 := by unfold enc; simp; exact leb_len 9 _
theorem rdInt_split {l : List UInt8} {n : Int} {k : Nat} (h : rdInt l = some (n, k)) : l = enc n ++ l.drop k := by
 obtain ⟨_, _, ht, _⟩ := rdInt_inv h
 rw [← ht, List.take_append_drop]
def rdStr (l : List UInt8) : Option (List UInt8 × Nat) :=
 match rdInt l with
 | none => none
 | some (n, k) => if 0 ≤ n ∧ n ≤ 65536 ∧ n ≤ ((l.length - k : Nat) : Int) then some ((l.drop k).take n.toNat, k + n.toNat) else none
def encS (t : List UInt8) : List UInt8 := enc t.length ++ t
theorem okLen {n : Nat} (h : n ≤ 65536) : okInt n := by unfold okInt maxInt; omega
theorem rdStr_enc {t : List UInt8} (h : t.length ≤ 65536) (r : List UInt8) : rdStr (encS t ++ r) = some (t, (encS t).length) := by
 unfold rdStr encS
 rw [List.append_assoc, rdInt_enc (okLen h)]
 simp only
 rw [if_pos]
 ·simp
 ·simp; omega
theorem rdStr_inv {l : List UInt8} {t : List UInt8} {k : Nat} (h : rdStr l = some (t, k)) : t.length ≤ 65536 ∧ k ≤ l.length ∧ l.take k = encS t ∧ k = (encS t).length := by
 unfold rdStr at h
 split at h
 ·cases h
 ·next n j hj =>
  split at h
  ·next hc =>
   simp only [Option.some.injEq, Prod.mk.injEq] at h
   obtain ⟨rfl, rfl⟩ := h
   obtain ⟨_, hjl, ht, hje⟩ := rdInt_inv hj
   have hlen : ((l.drop j).take n.toNat).length = n.toNat := by simp; omega
   have hn : ((n.toNat : Nat) : Int) = n := Int.toNat_of_nonneg hc.1
   refine ⟨by rw [hlen]; omega, by omega, ?_, ?_⟩
   ·unfold encS
    rw [hlen, hn, ← ht, List.take_add]
   ·unfold encS
    rw [List.length_append, hlen, hn]; omega
  ·cases h
theorem rdStr_split {l : List UInt8} {t : List UInt8} {k : Nat} (h : rdStr l = some (t, k)) : l = encS t ++ l.drop k := by
 obtain ⟨_, _, ht, _⟩ := rdStr_inv h
 rw [← ht, List.take_append_drop]
end Wire
namespace Go.Eng
open Go Go.RowKit Go.Proofs Wire
abbrev bts (s : BA) : List UInt8 := s.data.toList
theorem bts_len (s : BA) : (bts s).length = s.size := rfl
def intRes : Option (Int × Nat) → Nat → Value
 | none, _ => .tuple #[.int .i64 0, .int .i64 0, .int .i64 10]
 | some (n, k), a => .tuple #[.int .i64 n, .int .i64 ((a + k : Nat) : Int), .int .i64 0]
theorem intRes_map (o : Option (Int × Nat)) (a : Nat) : intRes (o.map fun p => (p.1, p.2 + 1)) a = intRes o (a + 1) := by
 cases o with
 | none => rfl
 | some p => simp [intRes]; omega
def intAns (s : BA) (a : Int) : Value :=
 if a < 0 ∨ (s.size : Int) < a then .tuple #[.int .i64 0, .int .i64 0, .int .i64 2] else intRes (rdInt ((bts s).drop a.toNat)) a.toNat
theorem pow128 (i : Nat) : (2 : Nat) ^ (7 * i) = 128 ^ i := by rw [Nat.pow_mul]
theorem Int_loop {s : BA} (hs : s.size < 4611686018427387904) {w0 : World} {R : Ending → World → Prop} : ∀ (g i z a : Nat), g + i = 9 → a ≤ s.size → z < 128 ^ i →
  Fin R [] [] w0 (intRes (rdGo g i z ((bts s).drop a)) a) → Int_c0 s (a : Int) (z : Int) ((7 * i : Nat) : Int) w0 R
 | 0, i, z, a, hg, ha, hz, H => by
  apply Int_c0_vc
  refine ⟨fun h => absurd h (by omega), fun _ => ?_⟩
  simpa [rdGo, intRes] using H
 | g + 1, i, z, a, hg, ha, hz, H => by
  apply Int_c0_vc
  refine ⟨fun _ => ⟨fun h => ?_, fun h => ?_⟩, fun h => absurd (by omega) h⟩
  ·have h0 : (bts s).drop a = [] := List.drop_of_length_le (by rw [bts_len]; omega)
   rw [h0] at H
   simpa [rdGo, intRes] using H
  ·have hlt : a < (bts s).length := by rw [bts_len]; omega
   have hd : (bts s).drop a = (bts s)[a] :: (bts s).drop (a + 1) := List.drop_eq_getElem_cons hlt
   rw [hd] at H
   obtain ⟨B, hB⟩ : ∃ B : UInt8, B = (bts s)[a] := ⟨_, rfl⟩
   rw [← hB] at H
   have hBl := B.toNat_lt
   refine ⟨by omega, ?_⟩
   rintro b hb _ rfl
   rw [bat_get hlt, ← hB] at hb
   refine ⟨by omega, ?_⟩
   rintro z1 hz1
   have e128 : b.tmod 128 = ((B.toNat % 128 : Nat) : Int) := by rw [hb]; exact tmod_nat _ 128
   have hp : (128 : Nat) ^ i * 128 ≤ 9223372036854775808 := by
    have : (128 : Nat) ^ i ≤ 128 ^ 8 := Nat.pow_le_pow_right (by decide) (by omega)
    have h8 : (128 : Nat) ^ 8 * 128 = 9223372036854775808 := by decide
    omega
   have hm : B.toNat % 128 * 128 ^ i < 9223372036854775808 := by
    have h1 : B.toNat % 128 < 128 := Nat.mod_lt _ (by decide)
    have h2 : B.toNat % 128 * 128 ^ i < 128 * 128 ^ i := Nat.mul_lt_mul_of_pos_right h1 (Nat.pow_pos (by decide))
    omega
   have hsum : z + B.toNat % 128 * 128 ^ i < 128 ^ (i + 1) := by
    have h1 : B.toNat % 128 ≤ 127 := by omega
    have h2 : B.toNat % 128 * 128 ^ i ≤ 127 * 128 ^ i := Nat.mul_le_mul_right _ h1
    rw [Nat.pow_succ]; omega
   have hz1' : z1 = ((z + B.toNat % 128 * 128 ^ i : Nat) : Int) := by
    rw [hz1, e128, wu64 (x := ((B.toNat % 128 : Nat) : Int)) (by omega)]
    have e1 : min (Int.toNat ((7 * i : Nat) : Int)) 64 = 7 * i := by omega
    have e2 : ((B.toNat % 128 : Nat) : Int) * 2 ^ (7 * i) = ((B.toNat % 128 * 2 ^ (7 * i) : Nat) : Int) := by simp
    rw [e1, e2, pow128, wu64 (by omega), ior64 (by omega) (by omega), ← pow128, or_add (by rw [pow128]; exact hz)]
   clear hz1
   have ew : IntKind.i64.wrap ((a : Int) + 1) = ((a + 1 : Nat) : Int) := by rw [wi64 (by omega)]; simp
   have es : IntKind.i64.wrap (((7 * i : Nat) : Int) + 7) = ((7 * (i + 1) : Nat) : Int) := by rw [wi64 (by omega)]; omega
   refine ⟨fun hc => ?_, fun hc => ?_⟩
   ·rintro _ rfl
    rw [ew, es, hz1']
    refine Int_loop hs g (i + 1) _ (a + 1) (by omega) (by omega) hsum ?_
    rw [← intRes_map]
    have : 128 ≤ B.toNat := by omega
    simpa [rdGo, this] using H
   ·have hnc : ¬ 128 ≤ B.toNat := by omega
    simp only [rdGo, hnc, if_false] at H
    obtain ⟨Z, hZ⟩ : ∃ Z, Z = z + B.toNat % 128 * 128 ^ i := ⟨_, rfl⟩
    have hZl : Z < 9223372036854775808 := by
     have : (128 : Nat) ^ (i + 1) = 128 ^ i * 128 := Nat.pow_succ ..
     omega
    rw [← hZ] at H hz1'
    subst hz1'
    have et : ((Z : Int).tdiv 2) = ((Z / 2 : Nat) : Int) := tdiv_nat Z 2
    have em : ((Z : Int).tmod 2) = ((Z % 2 : Nat) : Int) := tmod_nat Z 2
    rw [ew, et, em, wu64 (by omega), wi64 (by omega)]
    have hu1 : Z % 2 = 1 → unzig Z = -((Z / 2 : Nat) : Int) - 1 := fun h => by simp [unzig, h]
    have hu0 : ¬ Z % 2 = 1 → unzig Z = ((Z / 2 : Nat) : Int) := fun h => by simp [unzig, h]
    have hi : (0 : Int) < ((7 * i : Nat) : Int) ↔ 0 < i := by omega
    have hb0 : b = 0 ↔ B.toNat = 0 := by omega
    rintro n rfl
    rw [hi, hb0]
    have main : ∀ m : Int, unzig Z = m → (B.toNat = 0 → (0 < i → Fin R [] [] w0 (.tuple #[.int .i64 0, .int .i64 0, .int .i64 10])) ∧ (¬ 0 < i → (m < -4611686018427387903 → Fin R [] [] w0 (.tuple #[.int .i64 0, .int .i64 0, .int .i64 10])) ∧ (¬ m < -4611686018427387903 → Fin R [] [] w0 (.tuple #[.int .i64 m, .int .i64 ((a + 1 : Nat) : Int), .int .i64 0])))) ∧
      (¬ B.toNat = 0 → (m < -4611686018427387903 → Fin R [] [] w0 (.tuple #[.int .i64 0, .int .i64 0, .int .i64 10])) ∧ (¬ m < -4611686018427387903 → Fin R [] [] w0 (.tuple #[.int .i64 m, .int .i64 ((a + 1 : Nat) : Int), .int .i64 0]))) := by
     intro m hm
     rw [hm] at H
     unfold maxInt at H
     refine ⟨fun h1 => ⟨fun h2 => ?_, fun h2 => ⟨fun h3 => ?_, fun h3 => ?_⟩⟩, fun h1 => ⟨fun h3 => ?_, fun h3 => ?_⟩⟩
     ·rw [if_pos (.inl ⟨h1, h2⟩)] at H; exact H
     ·rw [if_pos (.inr h3)] at H; exact H
     ·rw [if_neg (by omega)] at H; exact H
     ·rw [if_pos (.inr h3)] at H; exact H
     ·rw [if_neg (by omega)] at H; exact H
    refine ⟨fun h => ?_, fun h => ?_⟩
    ·rintro n1 rfl
     have e1 : IntKind.i64.wrap (IntKind.i64.wrap (0 - ((Z / 2 : Nat) : Int)) - 1) = -((Z / 2 : Nat) : Int) - 1 := by
      rw [wi64 (x := 0 - ((Z / 2 : Nat) : Int)) (by omega), wi64 (by omega)]; omega
     rw [e1]
     exact main _ (hu1 (by omega))
    ·exact main _ (hu0 (by omega))
theorem Int_c (s : BA) (a : Int) (hs : s.size < 4611686018427387904) : PureC TP 83 ⟨[.string s, .int .i64 a]⟩ (intAns s a) := by
 refine fun W => Int_vc s a (Mem.start [] W) ?_
 have hF : ∀ v, v = intAns s a → Fin (fun e W' => e = .returned (intAns s a) ∧ Below W.heap.size W W') [] [] W v := fun v hv W' hm => ⟨by rw [hv], hm.kept.below⟩
 refine ⟨fun h => hF _ ?_, fun h => ⟨fun h2 => hF _ ?_, fun h2 => ?_⟩⟩
 ·simp [intAns, h]
 ·simp [intAns, h2]
 ·obtain ⟨n, rfl⟩ : ∃ n : Nat, a = n := ⟨a.toNat, by omega⟩
  refine Int_loop hs 9 0 0 n rfl (by omega) (by simp) (hF _ ?_)
  rw [intAns, if_neg (by omega)]; rfl
variable {P : Program} {R : Ending → World → Prop} {S : List Nat} {w0 W : World} {lk : Lk} {tp bp ap : OA} {tc bc ac : Nat} {K K' : Value → SHeap → Prop} {args : Array Value} {g : FuncId}
set_option maxRecDepth 100000
def Sum_c0 (s1 : BA) (register i : Int) (w0 : World) (R : Ending → World → Prop) : Prop :=
 AtE TP 86 34 (KC Tryz.f86 116) [(0, .string s1), (3, .int .u32 register), (4, IV i)] [] [] w0 (nrm R)
theorem Sum_c0_vc (s1 : BA) (register i : Int)
 (H :
 Br (i < (s1.size : Int))
 ((0 ≤ i ∧ i < s1.size) ∧
 ∀ register1 : Int, register1 = (ixor .u32 register (IntKind.u32.wrap (bat s1 i))) →
 (0 ≤ (register1.tmod (16 : Int)) ∧ (register1.tmod (16 : Int)) < 16) ∧
 ∃ (cw : List Value) (m1 : Int), blkW w0 0 = some cw ∧ cw[(Int.toNat (register1.tmod (16 : Int)))]? = some (.int .u32 m1) ∧
 ∀ register2 : Int, register2 = (ixor .u32 (register1.fdiv (2 ^ 4)) m1) →
 (0 ≤ (register2.tmod (16 : Int)) ∧ (register2.tmod (16 : Int)) < 16) ∧
 ∃ (cw1 : List Value) (m21 : Int), blkW w0 0 = some cw1 ∧ cw1[(Int.toNat (register2.tmod (16 : Int)))]? = some (.int .u32 m21) ∧
 ∀ register3 : Int, register3 = (ixor .u32 (register2.fdiv (2 ^ 4)) m21) →
 ∀ i1 : Int, i1 = (IntKind.i64.wrap (i + (1 : Int))) →
 Sum_c0 s1 register3 i1 w0 R)
 (∀ t2 : Int, t2 = (IntKind.i64.wrap (inot .u32 register)) →
 Fin R [] [] w0 (IV t2))) :
 Sum_c0 s1 register i w0 R:= by
 unfold Sum_c0
 refine .ru 8 (.sP 8 H (fun H => ?_) fun H => ?_)
 ·refine .ru 9 (.indexS (s := s1) (kd := .i64) (i := i) (by kernel_rfl) H.1 ?_)
  replace H := H.2
  refine .ru 3 (.letI 3 (kd := .u32) (n := (ixor .u32 register (IntKind.u32.wrap (bat s1 i)))) (by kernel_rfl) (fun register1 hregister1 => ?_))
  replace H := H register1 hregister1
  refine .ru 7 (.indexAddrA (E := 184) (n := 16) (b := 0) (o := 0) (sz := 1) (o' := (Int.toNat (register1.tmod (16 : Int)))) (kd := .u32) (i := (register1.tmod (16 : Int))) (by kernel_rfl) H.1 (by omega) ?_)
  replace H := H.2
  obtain ⟨cw, m1, hw, hx, H⟩ := H
  refine .loadW (b := 0) (off := (Int.toNat (register1.tmod (16 : Int)))) (T := 184) (v := .int .u32 m1) (by kernel_rfl) List.not_mem_nil hw (valAt_one hx (by kernel_rfl)) (.ru 2 (.letI 3 (kd := .u32) (n := (ixor .u32 (register1.fdiv (2 ^ 4)) m1)) (by kernel_rfl) (fun register2 hregister2 => ?_)))
  replace H := H register2 hregister2
  refine .ru 6 (.indexAddrA (E := 184) (n := 16) (b := 0) (o := 0) (sz := 1) (o' := (Int.toNat (register2.tmod (16 : Int)))) (kd := .u32) (i := (register2.tmod (16 : Int))) (by kernel_rfl) H.1 (by omega) ?_)
  replace H := H.2
  obtain ⟨cw1, m21, hw, hx, H⟩ := H
  refine .loadW (b := 0) (off := (Int.toNat (register2.tmod (16 : Int)))) (T := 184) (v := .int .u32 m21) (by kernel_rfl) List.not_mem_nil hw (valAt_one hx (by kernel_rfl)) (.ru 2 (.letI 3 (kd := .u32) (n := (ixor .u32 (register2.fdiv (2 ^ 4)) m21)) (by kernel_rfl) (fun register3 hregister3 => ?_)))
  replace H := H register3 hregister3
  refine .ru 6 (.lI 4 H fun i1 H => (.ru 2 (.ct [] H)))
 ·refine .ru 8 (.lI 2 H fun t2 H => (.ru 1 (.rt Tryz.func86 H)))
theorem Sum_vc (s : BA) (hm : Mem [] [] w0 W)
 (H :
 Sum_c0 s (4294967295 : Int) (0 : Int) w0 R) :
 Calls TP 86 ⟨[.string s]⟩ W R:= by
 refine AtE.cs 34 Tryz.func86 hm (.ru 15 (.ct [] H))
end Go.Eng
namespace Go.Proofs
section
open Go.RowKit Go.Shelf
attribute [local go_sem] Oper.semAt_some
open _root_.Wire
set_option maxRecDepth 100000 in
set_option maxHeartbeats 2000000 in
theorem Tryz.groups_in (F : Fence) (n : Nat) (h25 : F.fn 124) (hro : F.round = none) (hn : 1 ≤ n) (l Bz n₀ : Nat) (z : Nat) (hz : z < 9223372036854775808) (J Jx : List Int → World → Prop)
  (hY : ∀ pre x W, J pre W → pre.length < (lebI 9 z).length → YieldAt F (n - 1) Tryz.prog l #[.int .u8 x] W fun e W' =>
   (e = .returned (.bool true) ∧ J (pre ++ [x]) W' ∧ Below n₀ W W') ∨ (e = .returned (.bool false) ∧ Jx (pre ++ [x]) W'))
  (W : World) (hBz : W.cell? ⟨Bz, 0, none⟩ = some (.int .u64 z)) (h0 : J [] W) :
  CallsIn F n Tryz.prog 124 #[.func (.yield l) #[] #[], .pointer (some ⟨Bz, 0, none⟩)] W fun e W' => (∃ v, e = .returned v) ∧
   ((∃ ys, ys = lebI 9 z ∧ J ys W') ∨ (∃ pre, pre <+: lebI 9 z ∧ Jx pre W')) := by
 refine callsIn_of_wp Tryz.func124 rfl h25 ?_ hro
 simp only [Tryz.ntmps124, List.size_toArray, List.length_cons, List.length_nil, Nat.reduceAdd, Nat.reduceSub, Array.replicate_succ, Array.replicate_zero, List.push_toArray, List.append_toArray, List.nil_append, List.cons_append]
 gi_wp2
 gi_loopw [3] (fun p wr => ∃ (pre : List Int) (f r : Nat), p = .int .u64 r ∧ lebI 9 z = pre ++ lebI f r ∧ r < 128 ^ (f + 1) ∧ r < 9223372036854775808 ∧ J pre wr)
  (fun p wr => (intOf p).toNat)
 case atStart =>
  exact ⟨[], 9, z, rfl, rfl, by omega, hz, h0⟩
 case round =>
  obtain ⟨pre, f, r, rfl, hx, hr, hr2, hJs⟩ := hrel
  by_cases h : r < 128
  ·have hl : lebI f r = [(r : Int)] := by cases f <;> simp [lebI, leb, h]; omega
   have hlen : pre.length < (lebI 9 z).length := by rw [hx, hl]; simp
   obtain ⟨fn, tmps, assign, body, hy, hR⟩ := hY pre r wr hJs hlen
   have HX : Hid (lebI 9 z = pre ++ lebI f r) := hx
   have HL : Hid (lebI f r = [(r : Int)]) := hl
   clear hx hl hr hlen hY
   gi_wp2
   refine hR.mono ?_
   rintro e W3 (⟨rfl, hJ3, _⟩ | ⟨rfl, hJx3⟩)
   ·gi_wp2
    go_end0
    exact ⟨⟨_, rfl⟩, .inl ⟨_, rfl, by rw [HX.out, HL.out]; exact hJ3⟩⟩
   ·gi_wp2
    go_end0
    exact ⟨⟨_, rfl⟩, .inr ⟨_, by rw [HX.out, HL.out]; exact List.prefix_rfl, hJx3⟩⟩
  ·obtain ⟨f, rfl⟩ : ∃ g, f = g + 1 := by
    cases f with
    | zero => simp at hr; omega
    | succ g => exact ⟨g, rfl⟩
   have hl : lebI (f + 1) r = ((r : Int) % 128 + 128) :: lebI f (r / 128) := by simp [lebI, leb, h]
   have hlen : pre.length < (lebI 9 z).length := by rw [hx, hl]; simp
   obtain ⟨fn, tmps, assign, body, hy, hR⟩ := hY pre ((r : Int) % 128 + 128) wr hJs hlen
   have HX : Hid (lebI 9 z = (pre ++ [((r : Int) % 128 + 128)]) ++ lebI f (r / 128)) := by show _ = _; rw [hx, hl]; simp
   have HR : Hid (r / 128 < 128 ^ (f + 1)) := by show _ < _; rw [Nat.div_lt_iff_lt_mul (by omega)]; rw [Nat.pow_succ] at hr; exact hr
   clear hx hl hr hlen hY
   gi_wp2
   ·refine hR.mono ?_
    rintro e W3 (⟨rfl, hJ3, _⟩ | ⟨rfl, hJx3⟩)
    ·gi_wp2
     go_roundw
     case rel => exact ⟨_, f, r / 128, by go_num, HX.out, HR.out, by omega, hJ3⟩
     case measure => simp [intOf]; omega
    ·gi_wp2
     refine bodyPost_ret (results_none rfl _ _ _) rfl ?_
     exact ⟨⟨_, rfl⟩, .inr ⟨_, by rw [HX.out]; exact List.prefix_append _ _, hJx3⟩⟩
end
section
open Go.RowKit Go.Shelf
attribute [local go_sem] Oper.semAt_some
open _root_.Wire
theorem Tryz.groups_stops (F : Fence) (n : Nat) (h25 : F.fn 124) (hro : F.round = none) (hn : 1 ≤ n) (Bz n₀ z : Nat) (hz : z < 9223372036854775808) (w : World) (hBz : Bz < w.heap.size)
  (hc : w.cell? ⟨Bz, 0, none⟩ = some (.int .u64 z)) :
  SeqStopsK F n Tryz.prog 124 #[.pointer (some ⟨Bz, 0, none⟩)] (fun x : Int => #[Value.int .u8 x]) (Below n₀) (fun ys => ys = lebI 9 z) (fun pre => pre <+: lebI 9 z) (lebI 9 z).length w := fun l J Jx W hW _ _ hY h0 =>
 Tryz.groups_in F n h25 hro hn l Bz n₀ z hz J Jx hY W ((hW.cell (p := ⟨Bz, 0, none⟩) hBz).trans hc) h0
theorem Tryz.groupsf_in (F : Fence) (n : Nat) (h23 : F.fn 87) (hro : F.round = none) (z : Int) (w : World) :
  CallsIn F n Tryz.prog 87 #[.int .u64 z] w fun e w' => e = .returned (.func (.func 124) #[] #[.pointer (some ⟨w.heap.size, 0, none⟩)]) ∧ w' = w.alloc (.cells #[.int .u64 z] 141) := by
 refine callsIn_of_wp Tryz.func87 rfl h23 ?_ hro
 simp only [Tryz.ntmps87, List.size_toArray, List.length_cons, List.length_nil, Nat.reduceAdd, Nat.reduceSub, Array.replicate_succ, Array.replicate_zero, List.push_toArray, List.append_toArray, List.nil_append, List.cons_append]
 gi_wp2
 go_ret
 exact ⟨rfl, rfl⟩
def padTo (xs : List Int) : Array Value := ⟨(xs.map (Value.int .u8)) ++ List.replicate (10 - xs.length) (.int .u8 0)⟩
theorem heap_kept {A B : World} {k : Nat} {c : Array Value} {t : TypeId} {fz : Nat × Nat} {row : Option Nat} (h : A.heap[k]? = some (.cells c t fz)) (hg : A.grownBy B row) (hr : ∀ r, row = some r → ∃ o : Obj, A.heap[r]? = some o ∧ o.isCells = false) : B.heap[k]? = some (.cells c t fz) := by
 have hlt : k < A.heap.size := (Array.getElem?_eq_some_iff.1 h).1
 rw [hg.block k hlt (fun e => by
  obtain ⟨o, ho, hc⟩ := hr k e.symm
  rw [h] at ho; cases ho; cases hc)]
 exact h
theorem lebI_len (z : Nat) : (lebI 9 z).length ≤ 10 := by have := leb_len 9 z; simpa [lebI] using this
theorem cells_at {W : World} {b : Nat} {pre : List Int} (hA : W.heap[b]? = some (.cells (padTo pre) 142)) (hC : W.heap[b + 1]? = some (.cells #[.int .i64 pre.length] 3)) (hlt : pre.length < 10) :
  W.cell? ⟨b, pre.length, none⟩ = some (.int .u8 0) ∧ W.frozen? ⟨b, pre.length, none⟩ = false ∧ W.cell? ⟨b + 1, 0, none⟩ = some (.int .i64 pre.length) ∧ W.frozen? ⟨b + 1, 0, none⟩ = false := by
 refine ⟨?_, ?_, ?_, ?_⟩
 ·simp only [World.cell?, hA, padTo]
  simp
  rw [List.getElem?_append_right (by simp)]
  simp [List.getElem?_replicate]; omega
 ·simp [World.frozen?, hA]
 ·simp [World.cell?, hC]
 ·simp [World.frozen?, hC]
theorem put_pad {W : World} {b : Nat} {pre : List Int} {y v : Int} (hA : W.heap[b]? = some (.cells (padTo pre) 142)) (hlt : pre.length < 10) :
  ((W.setCell ⟨b, pre.length, none⟩ (.int .u8 y)).setCell ⟨b + 1, 0, none⟩ (.int .i64 v)).heap[b]? = some (.cells (padTo (pre ++ [y])) 142) := by
 rw [Below.heap_setCell _ _ _ _ (by simp)]
 simp only [World.setCell, Array.getElem?_modify, if_pos, hA, Option.map_some]
 congr 2
 apply Array.toList_inj.1
 simp only [padTo, Option.isSome_none, Bool.false_eq_true, if_false, Array.toList_setIfInBounds]
 have h10 : 10 - pre.length = (10 - (pre ++ [y]).length) + 1 := by simp; omega
 rw [h10, List.replicate_succ]
 rw [List.set_append_right _ _ (by simp)]
 simp
theorem put_cnt {W : World} {b : Nat} {o : Nat} {y : Int} {pre : List Int} (hC : W.heap[b + 1]? = some (.cells #[.int .i64 pre.length] 3)) :
  ((W.setCell ⟨b, o, none⟩ (.int .u8 y)).setCell ⟨b + 1, 0, none⟩ (.int .i64 ((pre.length : Int) + 1))).heap[b + 1]? = some (.cells #[.int .i64 (pre ++ [y]).length] 3) := by
 have : (W.setCell ⟨b, o, none⟩ (.int .u8 y)).heap[b + 1]? = some (.cells #[.int .i64 pre.length] 3) := by rw [Below.heap_setCell _ _ _ _ (by simp)]; exact hC
 simp only [World.setCell, Array.getElem?_modify, if_pos] at this ⊢
 rw [this]
 simp
theorem load_pad {P : Program} {W : World} {b : Nat} {xs : List Int} (hA : W.heap[b]? = some (.cells (padTo xs) 142)) (_ : xs.length ≤ 10) :
  (loadCells ⟨b, 0, none⟩ xs.length).run P W = .ok (xs.map (Value.int .u8)).toArray W := by
 have := run_loadCells_list (P := P) (w := W) ⟨b, 0, none⟩ (xs.map (Value.int .u8)) (fun j v hj => by
  have hadd : (⟨b, 0, none⟩ : Addr).add j = ⟨b, j, none⟩ := by unfold Addr.add; split <;> simp_all
  rw [hadd]
  simp only [World.cell?, hA, padTo]
  have hlt : j < (xs.map (Value.int .u8)).length := (List.getElem?_eq_some_iff.1 hj).1
  simp only [Option.isSome_none, Bool.false_eq_true, if_false]
  rw [show (⟨xs.map (Value.int .u8) ++ List.replicate (10 - xs.length) (.int .u8 0)⟩ : Array Value)[j]? = (xs.map (Value.int .u8) ++ List.replicate (10 - xs.length) (.int .u8 0))[j]? by simp]
  rw [List.getElem?_append_left hlt]; exact hj)
 simpa using this
theorem foldl_leb (f z : Nat) : (lebI f z).foldl (fun r n => r.push (UInt8.ofNat n.toNat)) ByteArray.empty = ⟨((leb f z).map UInt8.ofNat).toArray⟩ := by
 have key : ∀ (l : List Nat) (r : ByteArray), (l.map Int.ofNat).foldl (fun r n => r.push (UInt8.ofNat n.toNat)) r = ⟨(r.data.toList ++ l.map UInt8.ofNat).toArray⟩ := by
  intro l
  induction l with
  | nil => intro r; simp
  | cons b l ih =>
   intro r
   simp only [List.map_cons, List.foldl_cons]
   rw [ih]
   congr 1
   simp
 unfold lebI
 rw [key]; rfl
theorem slice10 (W : World) (b m : Nat) (h : m ≤ 10) : (Instr.sliceAt 142 (.pointer (some ⟨b, 0, none⟩)) none (some (.int .i64 (m : Int))) none).run Tryz.prog W = .ok (.slice (some ⟨b, 0, none⟩) m 10) W := by
 have hb : (Instr.sliceBound (.int .i64 (m : Int)) 10 .sliceAlen).run Tryz.prog W = .ok m W := by
  have := run_sliceBound (P := Tryz.prog) W .i64 (m : Int) 10 .sliceAlen (by omega) (by omega)
  simpa using this
 simp only [Instr.sliceAt, Sem.run_bind, run_underlying (P := Tryz.prog) (t := 142) (d := .array 10 5) (by kernel_rfl), Result.andThen_ok, Instr.sureAddr, Instr.sliceBounds, Sem.run_pure]
 have hsz : (sizeOf 5).run Tryz.prog W = .ok 1 W := by kernel_rfl
 simp only [Bool.false_eq_true, if_false, hb, Result.andThen_ok, hsz]
 rfl
theorem conv10 (W : World) (b m : Nat) (s : ByteArray) (h : (Conv.bytesToString (.slice (some ⟨b, 0, none⟩) m 10)).run Tryz.prog W = .ok (.string s) W) : (convert 47 9 (.slice (some ⟨b, 0, none⟩) m 10)).run Tryz.prog W = .ok (.string s) W := by
 simp only [convert, Sem.run_bind, run_underlying (P := Tryz.prog) (t := 47) (d := .slice 5) (by kernel_rfl), run_underlying (P := Tryz.prog) (t := 9) (d := .string) (by kernel_rfl), run_underlying (P := Tryz.prog) (t := 5) (d := .int .u8) (by kernel_rfl), Result.andThen_ok, h]
set_option maxRecDepth 100000 in
set_option maxHeartbeats 2000000 in
theorem Tryz.PutInt_in (F : Fence) (n : Nat) (h12 : F.fn 48) (h23 : F.fn 87) (h25 : F.fn 124) (hro : F.round = none) (hn : 3 ≤ n) (x : Int) (hx0 : -4611686018427387903 ≤ x) (hx1 : x ≤ 4611686018427387903) (w : World) :
  CallsIn F n Tryz.prog 48 #[.int .i64 x] w fun e W' => e = .returned (.tuple #[.string (⟨((leb 9 (zig x)).map UInt8.ofNat).toArray⟩), .int .i64 0]) ∧ Below w.heap.size w W' := by
 have h1 : 1 ≤ n := by omega
 obtain ⟨z, hzd⟩ : ∃ z : Nat, z = zig x := ⟨_, rfl⟩
 have hz : z < 9223372036854775808 := by rw [hzd]; unfold zig; split <;> omega
 rw [← hzd]
 refine callsIn_of_wp_marks Tryz.func48 rfl h12 ?_ hro
 simp only [Tryz.ntmps48, List.size_toArray, List.length_cons, List.length_nil, Nat.reduceAdd, Nat.reduceSub, Array.replicate_succ, Array.replicate_zero, List.push_toArray, List.append_toArray, List.nil_append, List.cons_append]
 by_cases hneg : x < 0
 ·gi_wp2_with (gi_at_call 87; refine (Tryz.groupsf_in F (n - 1) h23 hro _ _).mono ?_; rintro e w' ⟨rfl, rfl⟩)

  have hzi : 2 * -x - 1 = (z : Int) := by rw [hzd]; unfold zig; rw [if_pos hneg]; omega
  have hlen : (lebI 9 z).length ≤ 10 := lebI_len z
  obtain ⟨w1, hw1⟩ : ∃ w1, (((w.alloc (.cells #[.int .u8 0, .int .u8 0, .int .u8 0, .int .u8 0, .int .u8 0, .int .u8 0, .int .u8 0, .int .u8 0, .int .u8 0, .int .u8 0] 142)).alloc (.cells #[.int .i64 0] 3)).alloc (.cells #[.int .u64 (2 * -x - 1)] 141)) = w1 := ⟨_, rfl⟩
  have hB0 : Below w.heap.size w w1 := by rw [← hw1]; exact (((Below.refl _ w).alloc (Nat.le_refl _) _).alloc (by simp) _).alloc (by simp; omega) _
  have hs1 : w1.heap.size = w.heap.size + 3 := by rw [← hw1]; simp
  have ha : w1.heap[w.heap.size]? = some (.cells (padTo []) 142) := by rw [← hw1]; exact (Below.heap_alloc _ _ _ (by simp; omega)).trans ((Below.heap_alloc _ _ _ (by simp)).trans (World.alloc_heap_new w _))
  have hb : w1.heap[w.heap.size + 1]? = some (.cells #[.int .i64 0] 3) := by rw [← hw1]; exact (Below.heap_alloc _ _ _ (by simp)).trans (by have := World.alloc_heap_new (w.alloc (.cells #[.int .u8 0, .int .u8 0, .int .u8 0, .int .u8 0, .int .u8 0, .int .u8 0, .int .u8 0, .int .u8 0, .int .u8 0, .int .u8 0] 142)) (.cells #[.int .i64 0] 3); simpa using this)
  have hc : w1.cell? ⟨w.heap.size + 1 + 1, 0, none⟩ = some (.int .u64 z) := by
   have := World.alloc_heap_new ((w.alloc (.cells #[.int .u8 0, .int .u8 0, .int .u8 0, .int .u8 0, .int .u8 0, .int .u8 0, .int .u8 0, .int .u8 0, .int .u8 0, .int .u8 0] 142)).alloc (.cells #[.int .i64 0] 3)) (.cells #[.int .u64 (2 * -x - 1)] 141)
   simp only [World.size_alloc] at this
   rw [hw1] at this
   simp [World.cell?, this, hzi]
  rw [hw1]
  clear hw1 hzi hzd
  refine wpIn_rangeFunc_ownF hro h1 (gf := 124) (lb := #[.pointer (some ⟨w.heap.size + 1 + 1, 0, none⟩)]) rfl h25 (enters_of Tryz.func124 (by kernel_rfl) rfl)
   (Tryz.groups_stops F (n - 1) h25 hro (by omega) (w.heap.size + 1 + 1) w.heap.size z hz w1 (by omega) hc) belowK_t (belowK_b (by omega)) (Below.refl _ _) (fun _ => rfl)
   (fun pre W => (pre.length ≤ 10 ∧ W.heap[w.heap.size]? = some (.cells (padTo pre) 142) ∧ W.heap[w.heap.size + 1]? = some (.cells #[.int .i64 pre.length] 3)) ∧ Below w.heap.size w W)
   (fun _ _ _ => False)
   (OwnFrom.and (Own.from (fun s A B row hs hg hr => ⟨hs.1, heap_kept hs.2.1 hg hr, heap_kept hs.2.2 hg hr⟩) _) (ownFrom_below (Nat.le_refl _) (by omega)))
   (fun _ _ _ _ _ hs _ _ => hs)
   ⟨⟨by simp, ha, hb⟩, hB0⟩
   (fun y => { tmps := #[.int .i64 x, undef, .string ⟨#[]⟩, .int .i64 0, .int .u64 (2 * -x - 1), .pointer (some ⟨w.heap.size, 0, none⟩), .pointer (some ⟨w.heap.size + 1, 0, none⟩), .int .u8 y, .int .i64 x, .bool (decide (x < -4611686018427387903)), .bool (decide (x < -4611686018427387903)), .int .i64 x, .bool (decide (4611686018427387903 < x)), .bool (decide (x < -4611686018427387903) || decide (4611686018427387903 < x)), .int .i64 x, .int .u64 (IntKind.u64.wrap x), .int .u64 (IntKind.u64.wrap (2 * IntKind.u64.wrap x)), .int .i64 x, .bool true, .int .i64 x, .int .i64 (-x), .int .u64 (-x), .int .u64 (2 * -x), .int .u64 (2 * -x - 1), .int .u64 (2 * -x - 1), .func (.func 124) #[] #[.pointer (some ⟨w.heap.size + 1 + 1, 0, none⟩)], .int .u8 y, undef, undef, undef, undef, undef, undef, undef, undef], defers := [] }) ?assign ?body ?done ?stop
  case assign =>
   intro l y W K hK
   gi_wp2
   exact hK
  case body =>
   rintro l pre y W ⟨⟨hp, hA, hC⟩, hB⟩ hlt
   have hlt' : pre.length < 10 := by omega
   obtain ⟨hcA, hfA, hcC, hfC⟩ := cells_at hA hC hlt'
   have hi : ((pre.length : Int)).toNat = pre.length := rfl
   have HA := Lib.hid hA
   have HC := Lib.hid hC
   clear hA hC
   gi_wp2
   exact ⟨(KeepsOthers.setCell _ _ _).trans (KeepsOthers.setCell _ _ _), ((Below.refl w.heap.size W).setCell (p := ⟨w.heap.size, pre.length, none⟩) (Nat.le_refl _) _).setCell (p := ⟨w.heap.size + 1, 0, none⟩) (by simp) _,
    ⟨by simp; omega, put_pad HA.out hlt', put_cnt HC.out⟩, (hB.setCell (p := ⟨w.heap.size, pre.length, none⟩) (Nat.le_refl _) _).setCell (p := ⟨w.heap.size + 1, 0, none⟩) (by simp) _⟩
  case done =>
   rintro D ys W hD rfl ⟨⟨hp, hA, hC⟩, hB⟩ hK
   have hcC : W.cell? ⟨w.heap.size + 1, 0, none⟩ = some (.int .i64 (lebI 9 z).length) := by simp [World.cell?, hC]
   have hld := load_pad (P := Tryz.prog) hA hp
   have hst := run_bytesToString (P := Tryz.prog) W ⟨w.heap.size, 0, none⟩ (lebI 9 z).length 10 (lebI 9 z) hld
   rw [foldl_leb] at hst
   have hsl := slice10 W w.heap.size (lebI 9 z).length hp
   have hcv := conv10 W w.heap.size (lebI 9 z).length _ hst
   clear hld hst hA hC hp hlen
   gi_wp2
   refine ⟨by simp, .inl ⟨_, _, rfl, run_takeDeferred hK, ?_⟩⟩
   exact ⟨_, results_tmp2 rfl _ _ _, rfl, hB.trans (belowK_b (w := w) (Nat.le_refl _) W D _ _ (by omega) hK rfl rfl)⟩
  case stop =>
   rintro D c pre W _ _ h _
   exact h.elim
 ·gi_wp2_with (gi_at_call 87; refine (Tryz.groupsf_in F (n - 1) h23 hro _ _).mono ?_; rintro e w' ⟨rfl, rfl⟩)

  have hzi : 2 * x = (z : Int) := by rw [hzd]; unfold zig; rw [if_neg (by omega)]; omega
  have hlen : (lebI 9 z).length ≤ 10 := lebI_len z
  obtain ⟨w1, hw1⟩ : ∃ w1, (((w.alloc (.cells #[.int .u8 0, .int .u8 0, .int .u8 0, .int .u8 0, .int .u8 0, .int .u8 0, .int .u8 0, .int .u8 0, .int .u8 0, .int .u8 0] 142)).alloc (.cells #[.int .i64 0] 3)).alloc (.cells #[.int .u64 (2 * x)] 141)) = w1 := ⟨_, rfl⟩
  have hB0 : Below w.heap.size w w1 := by rw [← hw1]; exact (((Below.refl _ w).alloc (Nat.le_refl _) _).alloc (by simp) _).alloc (by simp; omega) _
  have hs1 : w1.heap.size = w.heap.size + 3 := by rw [← hw1]; simp
  have ha : w1.heap[w.heap.size]? = some (.cells (padTo []) 142) := by rw [← hw1]; exact (Below.heap_alloc _ _ _ (by simp; omega)).trans ((Below.heap_alloc _ _ _ (by simp)).trans (World.alloc_heap_new w _))
  have hb : w1.heap[w.heap.size + 1]? = some (.cells #[.int .i64 0] 3) := by rw [← hw1]; exact (Below.heap_alloc _ _ _ (by simp)).trans (by have := World.alloc_heap_new (w.alloc (.cells #[.int .u8 0, .int .u8 0, .int .u8 0, .int .u8 0, .int .u8 0, .int .u8 0, .int .u8 0, .int .u8 0, .int .u8 0, .int .u8 0] 142)) (.cells #[.int .i64 0] 3); simpa using this)
  have hc : w1.cell? ⟨w.heap.size + 1 + 1, 0, none⟩ = some (.int .u64 z) := by
   have := World.alloc_heap_new ((w.alloc (.cells #[.int .u8 0, .int .u8 0, .int .u8 0, .int .u8 0, .int .u8 0, .int .u8 0, .int .u8 0, .int .u8 0, .int .u8 0, .int .u8 0] 142)).alloc (.cells #[.int .i64 0] 3)) (.cells #[.int .u64 (2 * x)] 141)
   simp only [World.size_alloc] at this
   rw [hw1] at this
   simp [World.cell?, this, hzi]
  rw [hw1]
  clear hw1 hzi hzd
  refine wpIn_rangeFunc_ownF hro h1 (gf := 124) (lb := #[.pointer (some ⟨w.heap.size + 1 + 1, 0, none⟩)]) rfl h25 (enters_of Tryz.func124 (by kernel_rfl) rfl)
   (Tryz.groups_stops F (n - 1) h25 hro (by omega) (w.heap.size + 1 + 1) w.heap.size z hz w1 (by omega) hc) belowK_t (belowK_b (by omega)) (Below.refl _ _) (fun _ => rfl)
   (fun pre W => (pre.length ≤ 10 ∧ W.heap[w.heap.size]? = some (.cells (padTo pre) 142) ∧ W.heap[w.heap.size + 1]? = some (.cells #[.int .i64 pre.length] 3)) ∧ Below w.heap.size w W)
   (fun _ _ _ => False)
   (OwnFrom.and (Own.from (fun s A B row hs hg hr => ⟨hs.1, heap_kept hs.2.1 hg hr, heap_kept hs.2.2 hg hr⟩) _) (ownFrom_below (Nat.le_refl _) (by omega)))
   (fun _ _ _ _ _ hs _ _ => hs)
   ⟨⟨by simp, ha, hb⟩, hB0⟩
   (fun y => { tmps := #[.int .i64 x, undef, .string ⟨#[]⟩, .int .i64 0, .int .u64 (2 * x), .pointer (some ⟨w.heap.size, 0, none⟩), .pointer (some ⟨w.heap.size + 1, 0, none⟩), .int .u8 y, .int .i64 x, .bool (decide (x < -4611686018427387903)), .bool (decide (x < -4611686018427387903)), .int .i64 x, .bool (decide (4611686018427387903 < x)), .bool (decide (x < -4611686018427387903) || decide (4611686018427387903 < x)), .int .i64 x, .int .u64 x, .int .u64 (2 * x), .int .i64 x, .bool false, undef, undef, undef, undef, undef, .int .u64 (2 * x), .func (.func 124) #[] #[.pointer (some ⟨w.heap.size + 1 + 1, 0, none⟩)], .int .u8 y, undef, undef, undef, undef, undef, undef, undef, undef], defers := [] }) ?assign ?body ?done ?stop
  case assign =>
   intro l y W K hK
   gi_wp2
   exact hK
  case body =>
   rintro l pre y W ⟨⟨hp, hA, hC⟩, hB⟩ hlt
   have hlt' : pre.length < 10 := by omega
   obtain ⟨hcA, hfA, hcC, hfC⟩ := cells_at hA hC hlt'
   have hi : ((pre.length : Int)).toNat = pre.length := rfl
   have HA := Lib.hid hA
   have HC := Lib.hid hC
   clear hA hC
   gi_wp2
   exact ⟨(KeepsOthers.setCell _ _ _).trans (KeepsOthers.setCell _ _ _), ((Below.refl w.heap.size W).setCell (p := ⟨w.heap.size, pre.length, none⟩) (Nat.le_refl _) _).setCell (p := ⟨w.heap.size + 1, 0, none⟩) (by simp) _,
    ⟨by simp; omega, put_pad HA.out hlt', put_cnt HC.out⟩, (hB.setCell (p := ⟨w.heap.size, pre.length, none⟩) (Nat.le_refl _) _).setCell (p := ⟨w.heap.size + 1, 0, none⟩) (by simp) _⟩
  case done =>
   rintro D ys W hD rfl ⟨⟨hp, hA, hC⟩, hB⟩ hK
   have hcC : W.cell? ⟨w.heap.size + 1, 0, none⟩ = some (.int .i64 (lebI 9 z).length) := by simp [World.cell?, hC]
   have hld := load_pad (P := Tryz.prog) hA hp
   have hst := run_bytesToString (P := Tryz.prog) W ⟨w.heap.size, 0, none⟩ (lebI 9 z).length 10 (lebI 9 z) hld
   rw [foldl_leb] at hst
   have hsl := slice10 W w.heap.size (lebI 9 z).length hp
   have hcv := conv10 W w.heap.size (lebI 9 z).length _ hst
   clear hld hst hA hC hp hlen
   gi_wp2
   refine ⟨by simp, .inl ⟨_, _, rfl, run_takeDeferred hK, ?_⟩⟩
   exact ⟨_, results_tmp2 rfl _ _ _, rfl, hB.trans (belowK_b (w := w) (Nat.le_refl _) W D _ _ (by omega) hK rfl rfl)⟩
  case stop =>
   rintro D c pre W _ _ h _
   exact h.elim
end
end Go.Proofs
namespace Go.Eng
open Go Go.RowKit Go.Proofs Wire
theorem finPure {v u : Value} {W : World} {L : SHeap} (h : v = u) : Fin (fun e W' => e = .returned u ∧ Below W.heap.size W W') L [] W v := fun _ hm => ⟨by rw [h], hm.kept.below⟩
def pickN (c : Int) : Nat := if c < 0 then (-(c + 1)).toNat else c.toNat
def i64 (c : Int) : Prop := -9223372036854775808 ≤ c ∧ c ≤ 9223372036854775807
def encB (n : Int) : BA := ⟨(enc n).toArray⟩
theorem encB_bts (n : Int) : bts (encB n) = enc n := by simp [bts, encB]
theorem encB_size (n : Int) : (encB n).size = (enc n).length := by rw [← bts_len, encB_bts]
def putAns (n : Int) : Value := if okInt n then .tuple #[.string (encB n), .int .i64 0] else .tuple #[.string ⟨#[]⟩, .int .i64 10]
theorem bytesL_app (a b : List UInt8) : bytesL (a ++ b) = bytesL a ++ bytesL b := by simp [bytesL]
theorem bytesL_len (a : List UInt8) : (bytesL a).length = a.length := by simp [bytesL]
theorem bts_inj {a b : BA} (h : bts a = bts b) : a = b := by
 apply ByteArray.ext
 exact Array.toList_inj.1 h
theorem bts_append (a b : BA) : bts (a ++ b) = bts a ++ bts b := by simp [bts]
theorem bts_extract (s : BA) (a b : Nat) : bts (s.extract a b) = ((bts s).drop a).take (b - a) := by
 simp [bts, List.extract_eq_take_drop]
theorem bts_mk (l : List UInt8) : bts ⟨l.toArray⟩ = l := by simp [bts]
theorem bts_nil : bts ⟨#[]⟩ = [] := rfl
theorem PutInt_c (n : Int) : PureC TP 48 ⟨[.int .i64 n]⟩ (putAns n) := by
 by_cases h : okInt n
 ·have h' := h
  unfold okInt maxInt at h'
  intro W
  refine ((callsIn_wide.1 (Tryz.PutInt_in Fence.wide 3 trivial trivial trivial rfl (Nat.le_refl _) n h'.1 h'.2 W))).mono fun e W' hh => ⟨?_, hh.2⟩
  rw [putAns, if_pos h, hh.1]; rfl
 ·have h' := h
  unfold okInt maxInt at h'
  rw [putAns, if_neg h]
  exact fun W => PutInt_vc n (Mem.start [] W) ⟨fun hn => finPure rfl, fun hn => ⟨fun hm => finPure rfl, fun hm => by omega⟩⟩
theorem putAns_ok {n : Int} (h : okInt n) : putAns n = .tuple #[.string (encB n), .int .i64 0] := if_pos h
def encSB (s : BA) : BA := encB s.size ++ s
theorem encSB_bts (s : BA) : bts (encSB s) = encS (bts s) := by rw [encSB, bts_append, encB_bts, encS, bts_len]
def putSAns (s : BA) : Value := if s.size ≤ 65536 then .tuple #[.string (encSB s), .int .i64 0] else .tuple #[.string ⟨#[]⟩, .int .i64 10]
theorem PutString_c (s : BA) : PureC TP 91 ⟨[.string s]⟩ (putSAns s) := by
 refine fun W => PutString_vc s (Mem.start [] W) ⟨fun h => ?_, fun h => ?_⟩
 ·rw [putSAns, if_neg (by omega)]; exact finPure rfl
 ·have h1 : s.size ≤ 65536 := by omega
  rw [putSAns, if_pos h1]
  refine CallH.pure (PutInt_c s.size) ?_
  rw [putAns_ok (okLen h1)]
  refine ⟨_, _, rfl, rfl, fun h => absurd rfl h, fun _ => ⟨?_, ?_⟩⟩
  ·have := enc_len s.size; rw [← encB_size] at this; omega
  ·rintro t rfl; exact finPure rfl
def strRes : Option (List UInt8 × Nat) → Nat → Value
 | none, _ => .tuple #[.string ⟨#[]⟩, .int .i64 0, .int .i64 10]
 | some (t, k), a => .tuple #[.string ⟨t.toArray⟩, .int .i64 ((a + k : Nat) : Int), .int .i64 0]
def strAns (s : BA) (a : Int) : Value :=
 if a < 0 ∨ (s.size : Int) < a then .tuple #[.string ⟨#[]⟩, .int .i64 0, .int .i64 2] else strRes (rdStr ((bts s).drop a.toNat)) a.toNat
theorem str_law {P : Program} {g : FuncId} {s : BA} {a : Int} (hs : s.size < 4611686018427387904) {w0 : World} (hI : PureC P g ⟨[.string s, .int .i64 a]⟩ (intAns s a)) :
      CallH P g ⟨[.string s, .int .i64 a]⟩ [] [] w0 (fun v L' => ∃ (r1 : Int) (r21 : Int) (r31 : Int), v = (.tuple #[.int .i64 r1, .int .i64 r21, .int .i64 r31]) ∧ L' = [] ∧
        ((¬ (r31 = (0 : Int))) →
          Fin (fun e W' => e = .returned (strAns s a) ∧ Below w0.heap.size w0 W') [] [] w0 (.tuple #[.string (⟨#[]⟩), .int .i64 (0 : Int), .int .i64 r31])) ∧
         ((r31 = (0 : Int)) →
          ((r1 < (0 : Int)) →
            Fin (fun e W' => e = .returned (strAns s a) ∧ Below w0.heap.size w0 W') [] [] w0 (.tuple #[.string (⟨#[]⟩), .int .i64 (0 : Int), .int .i64 (10 : Int)])) ∧
           ((¬ (r1 < (0 : Int))) →
            (((65536 : Int) < r1) →
              Fin (fun e W' => e = .returned (strAns s a) ∧ Below w0.heap.size w0 W') [] [] w0 (.tuple #[.string (⟨#[]⟩), .int .i64 (0 : Int), .int .i64 (10 : Int)])) ∧
             ((¬ ((65536 : Int) < r1)) →
              (((IntKind.i64.wrap ((s.size : Int) - r21)) < r1) →
                Fin (fun e W' => e = .returned (strAns s a) ∧ Below w0.heap.size w0 W') [] [] w0 (.tuple #[.string (⟨#[]⟩), .int .i64 (0 : Int), .int .i64 (10 : Int)])) ∧
               ((¬ ((IntKind.i64.wrap ((s.size : Int) - r21)) < r1)) →
                (0 ≤ r21 ∧ r21 ≤ (IntKind.i64.wrap (r21 + r1)) ∧ (IntKind.i64.wrap (r21 + r1)) ≤ s.size) ∧
                ∀ t4 : BA, t4 = (s.extract (Int.toNat r21) (Int.toNat (IntKind.i64.wrap (r21 + r1)))) →
                ∀ t5 : Int, t5 = (IntKind.i64.wrap (r21 + r1)) →
                Fin (fun e W' => e = .returned (strAns s a) ∧ Below w0.heap.size w0 W') [] [] w0 (.tuple #[.string t4, .int .i64 t5, .int .i64 (0 : Int)])))))) := by
  refine CallH.pure hI ?_
  unfold intAns strAns
  by_cases h : a < 0 ∨ (s.size : Int) < a
  · rw [if_pos h, if_pos h]
    exact ⟨_, _, _, rfl, rfl, fun _ => finPure rfl, fun h => absurd h (by decide)⟩
  rw [if_neg h, if_neg h]
  obtain ⟨n, rfl⟩ : ∃ n : Nat, a = n := ⟨a.toNat, by omega⟩
  rw [Int.toNat_natCast]
  unfold rdStr
  cases hr : rdInt ((bts s).drop n) with
  | none => exact ⟨_, _, _, rfl, rfl, fun _ => finPure rfl, fun h => absurd h (by decide)⟩
  | some p =>
    obtain ⟨m, k⟩ := p
    obtain ⟨hm, hk, -, -⟩ := rdInt_inv hr
    have hk2 := hk
    rw [List.length_drop, bts_len] at hk
    have hm' := hm
    unfold okInt maxInt at hm'
    refine ⟨_, _, _, rfl, rfl, fun h => absurd rfl h, fun _ => ?_⟩
    have e1 : IntKind.i64.wrap ((s.size : Int) - ((n + k : Nat) : Int)) = ((s.size - (n + k) : Nat) : Int) := by rw [wi64 (by omega)]; omega
    rw [e1]
    have hl : ((((bts s).drop n).length - k : Nat) : Int) = ((s.size - (n + k) : Nat) : Int) := by rw [List.length_drop, bts_len]; omega
    simp only [hl]
    refine ⟨fun h1 => ?_, fun h1 => ⟨fun h2 => ?_, fun h2 => ⟨fun h3 => ?_, fun h3 => ?_⟩⟩⟩
    · rw [if_neg (by omega)]; exact finPure rfl
    · rw [if_neg (by omega)]; exact finPure rfl
    · rw [if_neg (by omega)]; exact finPure rfl
    · obtain ⟨q, rfl⟩ : ∃ q : Nat, m = q := ⟨m.toNat, by omega⟩
      have e2 : IntKind.i64.wrap (((n + k : Nat) : Int) + (q : Int)) = ((n + k + q : Nat) : Int) := by rw [wi64 (by omega)]; omega
      rw [e2]
      refine ⟨by omega, ?_⟩
      rintro t rfl t5 rfl
      rw [if_pos (by omega)]
      refine finPure ?_
      simp only [strRes, Int.toNat_natCast]
      have e3 : s.extract (n + k) (n + k + q) = ⟨(List.take q (List.drop k (List.drop n (bts s)))).toArray⟩ := by
        apply bts_inj
        rw [bts_extract, bts_mk, List.drop_drop]
        congr 1; omega
      rw [e3, Nat.add_assoc]
theorem String_c (s : BA) (a : Int) (hs : s.size < 4611686018427387904) : PureC TP 122 ⟨[.string s, .int .i64 a]⟩ (strAns s a) :=
 fun W => String_vc s a (Mem.start [] W) (str_law hs (Int_c s a hs))
def scan (s : BA) (p : Int → Bool) (i : Nat) : Bool := ((bts s).drop i).all fun c => p (c.toNat : Int)
def txtB (b : Int) : Bool := decide (32 ≤ b ∧ b ≤ 126)
def nameB (b : Int) : Bool := decide ((97 ≤ b ∧ b ≤ 122) ∨ (48 ≤ b ∧ b ≤ 57) ∨ b = 45)
def txtOk (s : BA) : Bool := decide (s.size ≤ 300) && scan s txtB 0
def nameOk (s : BA) : Bool := decide (1 ≤ s.size ∧ s.size ≤ 20) && scan s nameB 0
def fillOk (s : BA) : Bool := decide (s.size ≠ 0) && txtOk s
def ascOk : Int → List Int → Bool
 | _, [] => true
 | last, x :: r => decide (last < x ∧ x ≤ 64) && ascOk x r
def Lab.ok (l : Lab) : Bool := decide (0 ≤ l.unt ∧ l.unt ≤ 1000000000 ∧ 0 ≤ l.appr ∧ l.appr ≤ 5 ∧ 0 ≤ l.den ∧ l.den ≤ 15) && ascOk 0 l.after
def Blk.noRef (b : Blk) : Bool := decide (b.story = 0 ∧ b.ref = 0)
def Blk.kindOk (b : Blk) : Bool :=
 if b.kind = 1 then fillOk b.text && b.noRef
 else if b.kind = 2 then fillOk b.text && b.noRef
 else if b.kind = 3 then txtOk b.text && decide (1 ≤ b.story ∧ b.story ≤ 64 ∧ 1 ≤ b.ref ∧ b.ref ≤ 1000)
 else if b.kind = 4 then fillOk b.text && b.noRef
 else if b.kind = 5 then nameOk b.text && b.noRef
 else false
def Blk.ok (b : Blk) : Bool := decide (1 ≤ b.id ∧ b.id ≤ 1000) && (b.lab.ok && b.kindOk)
def listGo : List Blk → List Blk → Bool
 | _, [] => true
 | seen, b :: r => b.ok && (seen.all (fun e => decide (e.id ≠ b.id)) && listGo (seen ++ [b]) r)
def listOk (l : List Blk) : Bool := decide (l.length ≤ 24) && listGo [] l
theorem scan_cons {s : BA} {p : Int → Bool} {i : Nat} (h : i < s.size) : scan s p i = (p (bat s i) && scan s p (i + 1)) := by
 have hl : i < (bts s).length := h
 unfold scan
 rw [List.drop_eq_getElem_cons hl, List.all_cons, bat_get hl]
theorem scan_end {s : BA} {p : Int → Bool} {i : Nat} (h : s.size ≤ i) : scan s p i = true := by
 unfold scan
 rw [List.drop_of_length_le (by rw [bts_len]; exact h)]; rfl
theorem scan_yes {s : BA} {p : Int → Bool} {i : Nat} (h : i < s.size) (hp : p (bat s i) = true) : scan s p i = scan s p (i + 1) := by rw [scan_cons h, hp, Bool.true_and]
theorem scan_no {s : BA} {p : Int → Bool} {i : Nat} (h : i < s.size) (hp : p (bat s i) = false) : scan s p i = false := by rw [scan_cons h, hp, Bool.false_and]
def IntsL (lk : Lk) (p : OA) (l : List Int) : Prop :=
 0 < l.length → ∃ (b o : Nat) (c : List Value), p = some ⟨b, o, none⟩ ∧ lk b c ∧ ∀ i (h : i < l.length), c[o + i]? = some (.int .i64 l[i])
abbrev Lab.cells (l : Lab) (p : OA) (c : Nat) : List Value := [.int .i64 l.unt, .slice p l.after.length c, .int .i64 l.appr, .int .i64 l.den]
abbrev Blk.cells (b : Blk) (p : OA) (c : Nat) : List Value := [.int .i64 b.id, .int .i64 b.kind, .string b.text, .int .i64 b.story, .int .i64 b.ref, .int .i64 b.lab.unt, .slice p b.lab.after.length c, .int .i64 b.lab.appr, .int .i64 b.lab.den]
def Blk.Fits (b : Blk) : Prop := b.text.size ≤ 9223372036854775807 ∧ b.lab.after.length ≤ 9223372036854775807
def BlkL (lk : Lk) (cs : List Value) (b : Blk) : Prop := ∃ p c, cs = b.cells p c ∧ IntsL lk p b.lab.after ∧ b.Fits
def BlksL (lk : Lk) (p : OA) (l : List Blk) : Prop :=
 0 < l.length → ∃ (b o : Nat) (c : List Value), p = some ⟨b, o, none⟩ ∧ lk b c ∧ ∀ i (h : i < l.length), o + i * 9 + 9 ≤ c.length ∧ BlkL lk ((c.drop (o + i * 9)).take 9) l[i]
def StrsL (lk : Lk) (p : OA) (l : List BA) : Prop :=
 0 < l.length → ∃ (b o : Nat) (c : List Value), p = some ⟨b, o, none⟩ ∧ lk b c ∧ ∀ i (h : i < l.length), c[o + i]? = some (.string l[i])
theorem IntsL.mono {lk lk' : Lk} {p : OA} {l : List Int} (h : IntsL lk p l) (hl : ∀ b c, lk b c → lk' b c) : IntsL lk' p l := by
 intro hp
 obtain ⟨b, o, c, h1, h2, h3⟩ := h hp
 exact ⟨b, o, c, h1, hl b c h2, h3⟩
theorem BlkL.mono {lk lk' : Lk} {cs : List Value} {b : Blk} (h : BlkL lk cs b) (hl : ∀ b c, lk b c → lk' b c) : BlkL lk' cs b := by
 obtain ⟨p, c, h1, h2, h3⟩ := h
 exact ⟨p, c, h1, h2.mono hl, h3⟩
theorem BlksL.mono {lk lk' : Lk} {p : OA} {l : List Blk} (h : BlksL lk p l) (hl : ∀ b c, lk b c → lk' b c) : BlksL lk' p l := by
 intro hp
 obtain ⟨b, o, c, h1, h2, h3⟩ := h hp
 exact ⟨b, o, c, h1, hl b c h2, fun i hi => ⟨(h3 i hi).1, (h3 i hi).2.mono hl⟩⟩
theorem StrsL.mono {lk lk' : Lk} {p : OA} {l : List BA} (h : StrsL lk p l) (hl : ∀ b c, lk b c → lk' b c) : StrsL lk' p l := by
 intro hp
 obtain ⟨b, o, c, h1, h2, h3⟩ := h hp
 exact ⟨b, o, c, h1, hl b c h2, h3⟩
theorem IntsL.get {lk : Lk} {p : OA} {l : List Int} (h : IntsL lk p l) {i : Nat} (hi : i < l.length) : ∃ (b o : Nat) (c : List Value), p = some ⟨b, o, none⟩ ∧ lk b c ∧ c[o + i]? = some (.int .i64 l[i]) := by
 obtain ⟨b, o, c, h1, h2, h3⟩ := h (by omega)
 exact ⟨b, o, c, h1, h2, h3 i hi⟩
theorem BlksL.get {lk : Lk} {p : OA} {l : List Blk} (h : BlksL lk p l) {i : Nat} (hi : i < l.length) :
  ∃ (b o : Nat) (c : List Value), p = some ⟨b, o, none⟩ ∧ lk b c ∧ o + i * 9 + 9 ≤ c.length ∧ BlkL lk ((c.drop (o + i * 9)).take 9) l[i] := by
 obtain ⟨b, o, c, h1, h2, h3⟩ := h (by omega)
 exact ⟨b, o, c, h1, h2, (h3 i hi).1, (h3 i hi).2⟩
theorem StrsL.get {lk : Lk} {p : OA} {l : List BA} (h : StrsL lk p l) {i : Nat} (hi : i < l.length) : ∃ (b o : Nat) (c : List Value), p = some ⟨b, o, none⟩ ∧ lk b c ∧ c[o + i]? = some (.string l[i]) := by
 obtain ⟨b, o, c, h1, h2, h3⟩ := h (by omega)
 exact ⟨b, o, c, h1, h2, h3 i hi⟩
abbrev PW (P : Program) (g : FuncId) (args : Array Value) (W : World) (v : Value) : Prop := Calls P g args W fun e W' => e = .returned v ∧ Below W.heap.size W W'
theorem CallH.pw {P : Program} {L : SHeap} {S : List Nat} {w0 : World} {g : FuncId} {args : Array Value} {v : Value} {K : Value → SHeap → Prop} (h : ∀ W, Mem L S w0 W → PW P g args W v) (hK : K v L) : CallH P g args L S w0 K :=
 fun W hm => (h W hm).mono fun e W' ⟨he, hb⟩ => ⟨v, L, he, hm.after hb, hK⟩
theorem finPW {v u : Value} {W : World} {L : SHeap} (h : v = u) : Fin (fun e W' => e = .returned u ∧ Below W.heap.size W W') L [] W v := fun _ hm => ⟨by rw [h], hm.kept.below⟩
theorem lkW_kept {w0 W : World} {L : SHeap} (hm : Mem L [] w0 W) : ∀ b c, lkW w0 b c → lkW W b c := fun b c h => blkW_kept hm.kept (by simp) h
def lkM (L : SHeap) (w0 : World) : Lk := fun b c => (∃ t fz, (b, Obj.cells ⟨c⟩ t fz) ∈ L) ∨ lkW w0 b c
theorem lkM_old {w0 : World} {L : SHeap} : ∀ b c, lkW w0 b c → lkM L w0 b c := fun _ _ h => .inr h
variable {P : Program} {R : Ending → World → Prop} {S : List Nat} {w0 W : World} {lk : Lk} {tp bp ap : OA} {tc bc ac : Nat} {K K' : Value → SHeap → Prop} {args : Array Value} {g : FuncId}
set_option maxRecDepth 100000
def isText_c0 (s1 : BA) (i : Int) (w0 : World) (R : Ending → World → Prop) : Prop :=
 AtE TP 186 23 (KC Tryz.f186 116) [(0, .string s1), (3, IV i)] [] [] w0 (nrm R)
theorem isText_c0_vc (s1 : BA) (i : Int)
 (H :
 Br (i < (s1.size : Int))
 ((0 ≤ i ∧ i < s1.size) ∧
 Br ((bat s1 i) < (32 : Int))
 (Fin R [] [] w0 (.bool false))
 ((0 ≤ i ∧ i < s1.size) ∧
 Br ((126 : Int) < (bat s1 i))
 (Fin R [] [] w0 (.bool false))
 (∀ i1 : Int, i1 = (IntKind.i64.wrap (i + (1 : Int))) →
 isText_c0 s1 i1 w0 R)))
 (Fin R [] [] w0 (.bool true))) :
 isText_c0 s1 i w0 R:= by
 unfold isText_c0
 refine .ru 8 (.sP 10 H (fun H => ?_) fun H => ?_)
 ·refine .ru 8 (.indexS (s := s1) (kd := .i64) (i := i) (by kernel_rfl) H.1 ?_)
  replace H := H.2
  refine .ru 2 (.sP 17 H (fun H => ?_) fun H => ?_)
  ·refine .ru 11 (.rt Tryz.func186 H)
  ·refine .ru 2 (.indexS (s := s1) (kd := .i64) (i := i) (by kernel_rfl) H.1 ?_)
   replace H := H.2
   refine .ru 3 (.sP 22 H (fun H => ?_) fun H => ?_)
   ·refine .ru 5 (.rt Tryz.func186 H)
   ·refine .ru 7 (.lI 3 H fun i1 H => (.ru 2 (.ct [] H)))
 ·refine .ru 6 (.rt Tryz.func186 H)
theorem isText_vc (s : BA) (hm : Mem [] [] w0 W)
 (H :
 Br ((300 : Int) < (s.size : Int))
 (Fin R [] [] w0 (.bool false))
 (isText_c0 s (0 : Int) w0 R)) :
 Calls TP 186 ⟨[.string s]⟩ W R:= by
 refine AtE.cs 23 Tryz.func186 hm (.ru 11 (.sP 6 H (fun H => ?_) fun H => ?_))
 ·refine .ru 5 (.rt Tryz.func186 H)
 ·refine .ru 9 (.ct [] H)
def isName_c0 (s1 : BA) (i : Int) (w0 : World) (R : Ending → World → Prop) : Prop :=
 AtE TP 193 52 (KC Tryz.f193 116) [(0, .string s1), (3, IV i)] [] [] w0 (nrm R)
theorem isName_c0_vc (s1 : BA) (i : Int)
 (H :
 Br (i < (s1.size : Int))
 ((0 ≤ i ∧ i < s1.size) ∧
 Br ((97 : Int) ≤ (bat s1 i))
 ((0 ≤ i ∧ i < s1.size) ∧
 (0 ≤ i ∧ i < s1.size) ∧
 Br ((48 : Int) ≤ (bat s1 i))
 ((0 ≤ i ∧ i < s1.size) ∧
 Bn ((bat s1 i) ≤ (122 : Int))
 (Bn ((bat s1 i) ≤ (57 : Int))
 ((0 ≤ i ∧ i < s1.size) ∧
 Bn ((bat s1 i) = (45 : Int))
 (Fin R [] [] w0 (.bool false))
 (∀ i1 : Int, i1 = (IntKind.i64.wrap (i + (1 : Int))) →
 isName_c0 s1 i1 w0 R))
 (∀ i2 : Int, i2 = (IntKind.i64.wrap (i + (1 : Int))) →
 isName_c0 s1 i2 w0 R))
 (∀ i3 : Int, i3 = (IntKind.i64.wrap (i + (1 : Int))) →
 isName_c0 s1 i3 w0 R))
 (Bn ((bat s1 i) ≤ (122 : Int))
 ((0 ≤ i ∧ i < s1.size) ∧
 Bn ((bat s1 i) = (45 : Int))
 (Fin R [] [] w0 (.bool false))
 (∀ i4 : Int, i4 = (IntKind.i64.wrap (i + (1 : Int))) →
 isName_c0 s1 i4 w0 R))
 (∀ i5 : Int, i5 = (IntKind.i64.wrap (i + (1 : Int))) →
 isName_c0 s1 i5 w0 R)))
 ((0 ≤ i ∧ i < s1.size) ∧
 Br ((48 : Int) ≤ (bat s1 i))
 ((0 ≤ i ∧ i < s1.size) ∧
 Bn ((bat s1 i) ≤ (57 : Int))
 ((0 ≤ i ∧ i < s1.size) ∧
 Bn ((bat s1 i) = (45 : Int))
 (Fin R [] [] w0 (.bool false))
 (∀ i6 : Int, i6 = (IntKind.i64.wrap (i + (1 : Int))) →
 isName_c0 s1 i6 w0 R))
 (∀ i7 : Int, i7 = (IntKind.i64.wrap (i + (1 : Int))) →
 isName_c0 s1 i7 w0 R))
 ((0 ≤ i ∧ i < s1.size) ∧
 Bn ((bat s1 i) = (45 : Int))
 (Fin R [] [] w0 (.bool false))
 (∀ i8 : Int, i8 = (IntKind.i64.wrap (i + (1 : Int))) →
 isName_c0 s1 i8 w0 R))))
 (Fin R [] [] w0 (.bool true))) :
 isName_c0 s1 i w0 R:= by
 unfold isName_c0
 refine .ru 8 (.sP 17 H (fun H => ?_) fun H => ?_)
 ·refine .ru 8 (.indexS (s := s1) (kd := .i64) (i := i) (by kernel_rfl) H.1 ?_)
  replace H := H.2
  refine .ru 2 (.sP 24 H (fun H => ?_) fun H => ?_)
  ·refine .ru 2 (.indexS (s := s1) (kd := .i64) (i := i) (by kernel_rfl) H.1 ?_)
   replace H := H.2
   refine .ru 8 (.indexS (s := s1) (kd := .i64) (i := i) (by kernel_rfl) H.1 ?_)
   replace H := H.2
   refine .ru 2 (.sP 34 H (fun H => ?_) fun H => ?_)
   ·refine .ru 2 (.indexS (s := s1) (kd := .i64) (i := i) (by kernel_rfl) H.1 ?_)
    replace H := H.2
    refine .ru 9 (.sN 42 H (fun H => ?_) fun H => ?_)
    ·refine .ru 4 (.sN 46 H (fun H => ?_) fun H => ?_)
     ·refine .ru 2 (.indexS (s := s1) (kd := .i64) (i := i) (by kernel_rfl) H.1 ?_)
      replace H := H.2
      refine .ru 3 (.sN 51 H (fun H => ?_) fun H => ?_)
      ·refine .ru 5 (.rt Tryz.func193 H)
      ·refine .ru 7 (.lI 3 H fun i1 H => (.ru 2 (.ct [] H)))
     ·refine .ru 13 (.lI 3 H fun i2 H => (.ru 2 (.ct [] H)))
    ·refine .ru 17 (.lI 3 H fun i3 H => (.ru 2 (.ct [] H)))
   ·refine .ru 12 (.sN 42 H (fun H => ?_) fun H => ?_)
    ·refine .ru 6 (.indexS (s := s1) (kd := .i64) (i := i) (by kernel_rfl) H.1 ?_)
     replace H := H.2
     refine .ru 3 (.sN 51 H (fun H => ?_) fun H => ?_)
     ·refine .ru 5 (.rt Tryz.func193 H)
     ·refine .ru 7 (.lI 3 H fun i4 H => (.ru 2 (.ct [] H)))
    ·refine .ru 17 (.lI 3 H fun i5 H => (.ru 2 (.ct [] H)))
  ·refine .ru 11 (.indexS (s := s1) (kd := .i64) (i := i) (by kernel_rfl) H.1 ?_)
   replace H := H.2
   refine .ru 2 (.sP 34 H (fun H => ?_) fun H => ?_)
   ·refine .ru 2 (.indexS (s := s1) (kd := .i64) (i := i) (by kernel_rfl) H.1 ?_)
    replace H := H.2
    refine .ru 13 (.sN 46 H (fun H => ?_) fun H => ?_)
    ·refine .ru 2 (.indexS (s := s1) (kd := .i64) (i := i) (by kernel_rfl) H.1 ?_)
     replace H := H.2
     refine .ru 3 (.sN 51 H (fun H => ?_) fun H => ?_)
     ·refine .ru 5 (.rt Tryz.func193 H)
     ·refine .ru 7 (.lI 3 H fun i6 H => (.ru 2 (.ct [] H)))
    ·refine .ru 13 (.lI 3 H fun i7 H => (.ru 2 (.ct [] H)))
   ·refine .ru 18 (.indexS (s := s1) (kd := .i64) (i := i) (by kernel_rfl) H.1 ?_)
    replace H := H.2
    refine .ru 3 (.sN 51 H (fun H => ?_) fun H => ?_)
    ·refine .ru 5 (.rt Tryz.func193 H)
    ·refine .ru 7 (.lI 3 H fun i8 H => (.ru 2 (.ct [] H)))
 ·refine .ru 6 (.rt Tryz.func193 H)
theorem isName_vc (s : BA) (hm : Mem [] [] w0 W)
 (H :
 Br ((s.size : Int) < (1 : Int))
 (Fin R [] [] w0 (.bool false))
 (Br ((20 : Int) < (s.size : Int))
 (Fin R [] [] w0 (.bool false))
 (isName_c0 s (0 : Int) w0 R))) :
 Calls TP 193 ⟨[.string s]⟩ W R:= by
 refine AtE.cs 52 Tryz.func193 hm (.ru 11 (.sP 9 H (fun H => ?_) fun H => ?_))
 ·refine .ru 10 (.rt Tryz.func193 H)
 ·refine .ru 5 (.sP 13 H (fun H => ?_) fun H => ?_)
  ·refine .ru 5 (.rt Tryz.func193 H)
  ·refine .ru 9 (.ct [] H)
theorem rul1_vc (s : BA) (hm : Mem [] [] w0 W)
 (H :
 ((¬ s = (⟨#[]⟩ : BA)) →
 CallH TP 186 ⟨[.string s]⟩ [] [] w0 (fun v L' => ∃ r1, v = .bool r1 ∧ L' = [] ∧
 Fin R [] [] w0 (.bool r1))) ∧
 ((s = (⟨#[]⟩ : BA)) →
 Fin R [] [] w0 (.bool false))) :
 Calls TP 185 ⟨[.string s]⟩ W R:= by
 refine AtE.cs 9 Tryz.func185 hm (.ru 9 (.splitT 5 (x := s) (y := (⟨#[]⟩ : BA)) (by kernel_rfl) (fun h1' => ?_) (fun h1' => ?_)))
 ·replace H := H.1 h1'
  refine .ru 1 (.cl H ?_)
  rintro _ _ ⟨r1, rfl, rfl, H⟩
  refine .ru 3 (.rt Tryz.func185 H)
 ·replace H := H.2 h1'
  refine .ru 5 (.rt Tryz.func185 H)
def eqInts_c0 (s11_p : OA) (s11_l s11_c : Nat) (s21_p : OA) (s21_l s21_c : Nat) (t12 t13 : Int) (w0 : World) (R : Ending → World → Prop) : Prop :=
 AtE TP 149 26 (KC Tryz.f149 116) [(0, .slice s11_p s11_l s11_c), (1, .slice s21_p s21_l s21_c), (12, IV t12), (13, IV t13)] [] [] w0 (nrm R)
theorem eqInts_c0_vc (s11_p : OA) (s11_l s11_c : Nat) (s21_p : OA) (s21_l s21_c : Nat) (t12 t13 : Int)
 (H :
 Br (t13 < t12)
 (∃ s11_pb s11_po : Nat, s11_p = some ⟨s11_pb, s11_po, none⟩ ∧
 (0 ≤ t13 ∧ t13 < s11_l) ∧
 ∃ (cw : List Value) (m1 : Int), blkW w0 s11_pb = some cw ∧ cw[(s11_po + (Int.toNat t13))]? = some (IV m1) ∧
 ∃ s21_pb s21_po : Nat, s21_p = some ⟨s21_pb, s21_po, none⟩ ∧
 (0 ≤ t13 ∧ t13 < s21_l) ∧
 ∃ (cw1 : List Value) (m21 : Int), blkW w0 s21_pb = some cw1 ∧ cw1[(s21_po + (Int.toNat t13))]? = some (IV m21) ∧
 Bn (m1 = m21)
 (Fin R [] [] w0 (.bool false))
 (eqInts_c0 (some ⟨s11_pb, s11_po, none⟩) s11_l s11_c (some ⟨s21_pb, s21_po, none⟩) s21_l s21_c t12 (IntKind.i64.wrap (t13 + (1 : Int))) w0 R))
 (Fin R [] [] w0 (.bool true))) :
 eqInts_c0 s11_p s11_l s11_c s21_p s21_l s21_c t12 t13 w0 R:= by
 unfold eqInts_c0
 refine .ru 5 (.sP 14 H ?_ ?_) <;> clear H <;> intro H
 ·refine .ru 10 (.nm (KC Tryz.f149 7474) [(0, .slice s11_p s11_l s11_c), (1, .slice s21_p s21_l s21_c), (5, IV t13), (12, IV t12), (13, IV t13)] [] (.dr 9 (.pu (.pu ?_))))
  obtain ⟨s11_pb, s11_po, rfl, H⟩ := H
  refine .indexAddrL (E := 3) (b := s11_pb) (o := s11_po) (len := s11_l) (cap := s11_c) (sz := 1) (o' := (s11_po + (Int.toNat t13))) (kd := .i64) (i := t13) (by kernel_rfl) H.1 (by omega) ?_
  replace H := H.2
  obtain ⟨cw, m1, hw, hx, H⟩ := H
  refine .loadW (b := s11_pb) (off := (s11_po + (Int.toNat t13))) (T := 3) (v := IV m1) (by kernel_rfl) List.not_mem_nil hw (valAt_one hx (by kernel_rfl)) (.pu (.pu ?_))
  obtain ⟨s21_pb, s21_po, rfl, H⟩ := H
  refine .indexAddrL (E := 3) (b := s21_pb) (o := s21_po) (len := s21_l) (cap := s21_c) (sz := 1) (o' := (s21_po + (Int.toNat t13))) (kd := .i64) (i := t13) (by kernel_rfl) H.1 (by omega) ?_
  replace H := H.2
  obtain ⟨cw1, m21, hw, hx, H⟩ := H
  refine .loadW (b := s21_pb) (off := (s21_po + (Int.toNat t13))) (T := 3) (v := IV m21) (by kernel_rfl) List.not_mem_nil hw (valAt_one hx (by kernel_rfl)) (.pu (.dn (.ru 1 (.sN 24 H ?_ ?_)))) <;> clear H <;> intro H
  ·refine .ru 5 (.rt Tryz.func149 H)
  ·refine .ru 8 (.ct [] H)
 ·refine .ru 6 (.rt Tryz.func149 H)
theorem eqInts_vc (s1_p : OA) (s1_l s1_c : Nat) (s2_p : OA) (s2_l s2_c : Nat) (hm : Mem [] [] w0 W)
 (H :
 Bn ((s1_l : Int) = (s2_l : Int))
 (Fin R [] [] w0 (.bool false))
 (eqInts_c0 s1_p s1_l s1_c s2_p s2_l s2_c (s1_l : Int) (0 : Int) w0 R)) :
 Calls TP 149 ⟨[.slice s1_p s1_l s1_c, .slice s2_p s2_l s2_c]⟩ W R:= by
 refine AtE.cs 26 Tryz.func149 hm (.ru 13 (.sN 10 H (fun H => ?_) fun H => ?_))
 ·refine .ru 5 (.rt Tryz.func149 H)
 ·refine .ru 11 (.ct [] H)
set_option maxRecDepth 100000
abbrev zB2aa (x0 x1 x2 : Int) : Array Value := #[IV x0, IV 0, IV 1000000000, IV x1, IV 0, IV 5, IV x2, IV 0, IV 15]
abbrev labValidH0 (B : Nat) (bu : Int) (bp : OA) (bl bc : Nat) (ba bd : Int) (B1 B2 B3 B4 : Nat) : SHeap := [(B, .cells #[IV bu, .slice bp bl bc, IV ba, IV bd] 36), (B1, .cells (zB2aa bu ba bd) 205), (B2, .cells #[IV bu, IV 0, IV 1000000000] 205), (B3, .cells #[IV ba, IV 0, IV 5] 205), (B4, .cells #[IV bd, IV 0, IV 15] 205)]
abbrev labValidH1 (B : Nat) (bu : Int) (bp : OA) (bl bc : Nat) (ba bd : Int) (B1 B2 B3 : Nat) : SHeap := [(B, .cells #[IV bu, .slice bp bl bc, IV ba, IV bd] 36), (B1, .cells (zB2aa bu ba bd) 205), (B2, .cells #[IV bu, IV 0, IV 1000000000] 205), (B3, .cells #[IV ba, IV 0, IV 5] 205)]
abbrev labValidH2 (B : Nat) (bu : Int) (bp : OA) (bl bc : Nat) (ba bd : Int) (B1 B2 : Nat) : SHeap := [(B, .cells #[IV bu, .slice bp bl bc, IV ba, IV bd] 36), (B1, .cells (zB2aa bu ba bd) 205), (B2, .cells #[IV bu, IV 0, IV 1000000000] 205)]
def labValid_c0 (last : Int) (t19_p : OA) (t19_l t19_c : Nat) (t20 t21 : Int) (w0 : World) (R : Ending → World → Prop) : Prop :=
 AtE TP 101 34 (KC Tryz.f101 244) [(3, IV last), (19, .slice t19_p t19_l t19_c), (20, IV t20), (21, IV t21)] [] [] w0 (nrm R)
theorem labValid_c0_vc (last : Int) (t19_p : OA) (t19_l t19_c : Nat) (t20 t21 : Int)
 (H :
 Br (t21 < t20)
 (∃ t19_pb t19_po : Nat, t19_p = some ⟨t19_pb, t19_po, none⟩ ∧
 (0 ≤ t21 ∧ t21 < t19_l) ∧
 ∃ (cw : List Value) (m1 : Int), blkW w0 t19_pb = some cw ∧ cw[(t19_po + (Int.toNat t21))]? = some (IV m1) ∧
 ∀ B5 B6 : Nat,
 Br (m1 < (IntKind.i64.wrap (last + (1 : Int))))
 (Fin R [(B5, .cells #[IV m1, IV (IntKind.i64.wrap (last + (1 : Int))), IV 64] 205), (B6, .cells #[IV m1, IV (IntKind.i64.wrap (last + (1 : Int))), IV 64] 205)] [] w0 (.bool false))
 (Br ((64 : Int) < m1)
 (Fin R [(B5, .cells #[IV m1, IV (IntKind.i64.wrap (last + (1 : Int))), IV 64] 205), (B6, .cells #[IV m1, IV (IntKind.i64.wrap (last + (1 : Int))), IV 64] 205)] [] w0 (.bool false))
 (labValid_c0 m1 (some ⟨t19_pb, t19_po, none⟩) t19_l t19_c t20 (IntKind.i64.wrap (t21 + (1 : Int))) w0 R)))
 (Fin R [] [] w0 (.bool true))) :
 labValid_c0 last t19_p t19_l t19_c t20 t21 w0 R:= by
 unfold labValid_c0
 refine .ru 5 (.sP 22 H ?_ ?_) <;> clear H <;> intro H
 ·refine .ru 6 ?_
  obtain ⟨t19_pb, t19_po, rfl, H⟩ := H
  refine .indexAddrL (E := 3) (b := t19_pb) (o := t19_po) (len := t19_l) (cap := t19_c) (sz := 1) (o' := (t19_po + (Int.toNat t21))) (kd := .i64) (i := t21) (by kernel_rfl) H.1 (by omega) ?_
  replace H := H.2
  obtain ⟨cw, m1, hw, hx, H⟩ := H
  refine .loadW (b := t19_pb) (off := (t19_po + (Int.toNat t21))) (T := 3) (v := IV m1) (by kernel_rfl) List.not_mem_nil hw (valAt_one hx (by kernel_rfl)) (.ru 9 (.nw (fun B => .slice (SO B) 1 1) (.cells #[IV m1, IV (IntKind.i64.wrap (last + (1 : Int))), IV 64] 205) fun B5 => ?_))
  replace H := H B5
  refine .nm (KR Tryz.f101 31332 [5,6]) [(5, IV m1), (19, .slice (some ⟨t19_pb, t19_po, none⟩) t19_l t19_c), (20, IV t20), (21, IV t21), (29, .slice (SO B5) 1 1)] [(B5, .cells #[IV m1, IV (IntKind.i64.wrap (last + (1 : Int))), IV 64] 205)] (.il 142 [.slice (SO B5) 1 1] 24 Tryz.func142 (.ru 25 (.ld 0 0 (.np (.cells #[IV 0, IV 0, IV 0] 205) fun B6 => ?_))))
  replace H := H B6
  refine .st 1 0 (.ru 4 (.ld 1 0 (.ru 1 (.ld 1 1 (.ru 2 (.sP 16 H ?_ ?_)))))) <;> clear H <;> intro H
  ·refine .ru 12 (.rk Tryz.func142 (.ru 7 (.rt Tryz.func101 H)))
  ·refine .ru 1 (.ld 1 0 (.ru 1 (.ld 1 2 (.ru 3 (.sP 22 H ?_ ?_))))) <;> clear H <;> intro H
   ·refine .ru 5 (.rk Tryz.func142 (.ru 7 (.rt Tryz.func101 H)))
   ·refine .ru 19 (.rk Tryz.func142 (.ru 14 (.ct [] H)))
 ·refine .ru 6 (.rt Tryz.func101 H)
theorem labValid_vc (bu : Int) (bp : OA) (bl bc : Nat) (ba bd : Int) (hm : Mem [] [] w0 W)
 (H :
 ∀ B B1 B2 : Nat,
 Br (bu < 0)
 (Fin R (labValidH2 B bu bp bl bc ba bd B1 B2) [] w0 (.bool false))
 (Br ((1000000000 : Int) < bu)
 (Fin R (labValidH2 B bu bp bl bc ba bd B1 B2) [] w0 (.bool false))
 (∀ B3 : Nat,
 Br (ba < 0)
 (Fin R (labValidH1 B bu bp bl bc ba bd B1 B2 B3) [] w0 (.bool false))
 (Br ((5 : Int) < ba)
 (Fin R (labValidH1 B bu bp bl bc ba bd B1 B2 B3) [] w0 (.bool false))
 (∀ B4 : Nat,
 Br (bd < 0)
 (Fin R (labValidH0 B bu bp bl bc ba bd B1 B2 B3 B4) [] w0 (.bool false))
 (Br ((15 : Int) < bd)
 (Fin R (labValidH0 B bu bp bl bc ba bd B1 B2 B3 B4) [] w0 (.bool false))
 (labValid_c0 (0 : Int) bp bl bc (bl : Int) (0 : Int) w0 R))))))) :
 Calls TP 101 ⟨[.agg #[IV bu, .slice bp bl bc, IV ba, IV bd]]⟩ W R:= by
 refine AtE.cs 34 Tryz.func101 hm (.ru 2 (.nH (.cells #[IV bu, .slice bp bl bc, IV ba, IV bd] 36) H fun B H => (.ru 6 (.ld 0 0 (.ru 2 (.ld 0 2 (.ru 2 (.ld 0 3 (.ru 1 (.nw (fun B => .slice (SO B) 3 3) (.cells (zB2aa bu ba bd) 205) fun B1 => ?_))))))))))
 replace H := H B1
 refine .nm (KR Tryz.f101 12 [10,11]) [(1, PP B), (15, .slice (SO B1) 3 3)] [(B, .cells #[IV bu, .slice bp bl bc, IV ba, IV bd] 36), (B1, .cells (zB2aa bu ba bd) 205)] (.il 142 [.slice (SO B1) 3 3] 24 Tryz.func142 (.ru 25 (.ld 1 0 (.nH (.cells #[IV 0, IV 0, IV 0] 205) H fun B2 H => (.st 2 0 (.ru 4 (.ld 2 0 (.ru 1 (.ld 2 1 (.ru 2 (.sP 16 H (fun H => ?_) fun H => ?_)))))))))))
 ·refine .ru 12 (.rk Tryz.func142 (.ru 7 (.rt Tryz.func101 H)))
 ·refine .ru 1 (.ld 2 0 (.ru 1 (.ld 2 2 (.ru 3 (.sP 22 H (fun H => ?_) fun H => ?_)))))
  ·refine .ru 5 (.rk Tryz.func142 (.ru 7 (.rt Tryz.func101 H)))
  ·refine .ru 20 (.ld 1 3 (.nH (.cells #[IV 0, IV 0, IV 0] 205) H fun B3 H => (.st 3 0 (.ru 4 (.ld 3 0 (.ru 1 (.ld 3 1 (.ru 2 (.sP 16 H (fun H => ?_) fun H => ?_)))))))))
   ·refine .ru 12 (.rk Tryz.func142 (.ru 7 (.rt Tryz.func101 H)))
   ·refine .ru 1 (.ld 3 0 (.ru 1 (.ld 3 2 (.ru 3 (.sP 22 H (fun H => ?_) fun H => ?_)))))
    ·refine .ru 5 (.rk Tryz.func142 (.ru 7 (.rt Tryz.func101 H)))
    ·refine .ru 20 (.ld 1 6 (.nH (.cells #[IV 0, IV 0, IV 0] 205) H fun B4 H => (.st 4 0 (.ru 4 (.ld 4 0 (.ru 1 (.ld 4 1 (.ru 2 (.sP 16 H (fun H => ?_) fun H => ?_)))))))))
     ·refine .nm (KR Tryz.f142 3378 [6,7,8,9,10,11]) [(4, PP B4), (5, .slice (SO B1) 3 3), (6, IV 3), (7, IV 2), (16, .bool true)] (labValidH0 B bu bp bl bc ba bd B1 B2 B3 B4) (.ru 12 (.rk Tryz.func142 (.ru 7 (.rt Tryz.func101 H))))
     ·refine .nm (KR Tryz.f142 3378 [6,7,8,9,10,11]) [(4, PP B4), (5, .slice (SO B1) 3 3), (6, IV 3), (7, IV 2), (16, .bool false)] (labValidH0 B bu bp bl bc ba bd B1 B2 B3 B4) (.ru 1 (.ld 4 0 (.ru 1 (.ld 4 2 (.ru 3 (.sP 22 H (fun H => ?_) fun H => ?_))))))
      ·refine .ru 5 (.rk Tryz.func142 (.ru 7 (.rt Tryz.func101 H)))
      ·refine .ru 19 (.rk Tryz.func142 (.ru 12 (.ld 0 1 (.ru 5 (.ct [] H)))))
abbrev labSameH0 (B : Nat) (xu : Int) (xp : OA) (xl xc : Nat) (xa xd : Int) (B1 : Nat) (yu : Int) (yp : OA) (yl yc : Nat) (ya yd : Int) : SHeap := [(B, .cells #[IV xu, .slice xp xl xc, IV xa, IV xd] 36), (B1, .cells #[IV yu, .slice yp yl yc, IV ya, IV yd] 36)]
theorem labSame_vc (xu : Int) (xp : OA) (xl xc : Nat) (xa xd yu : Int) (yp : OA) (yl yc : Nat) (ya yd : Int) (hm : Mem [] [] w0 W)
 (H :
 ∀ B B1 : Nat,
 Br (xu = yu)
 (CallH TP 149 ⟨[.slice xp xl xc, .slice yp yl yc]⟩ (labSameH0 B xu xp xl xc xa xd B1 yu yp yl yc ya yd) [] w0 (fun v L' => ∃ r1, v = .bool r1 ∧ L' = (labSameH0 B xu xp xl xc xa xd B1 yu yp yl yc ya yd) ∧
 Bb (r1)
 (Br (xa = ya)
 (Fin R (labSameH0 B xu xp xl xc xa xd B1 yu yp yl yc ya yd) [] w0 (.bool (decide (xd = yd))))
 (Fin R (labSameH0 B xu xp xl xc xa xd B1 yu yp yl yc ya yd) [] w0 (.bool false)))
 (Fin R (labSameH0 B xu xp xl xc xa xd B1 yu yp yl yc ya yd) [] w0 (.bool false))))
 (Fin R (labSameH0 B xu xp xl xc xa xd B1 yu yp yl yc ya yd) [] w0 (.bool false))) :
 Calls TP 108 ⟨[.agg #[IV xu, .slice xp xl xc, IV xa, IV xd], .agg #[IV yu, .slice yp yl yc, IV ya, IV yd]]⟩ W R:= by
 refine AtE.cs 31 Tryz.func108 hm (.ru 2 (.nH (.cells #[IV xu, .slice xp xl xc, IV xa, IV xd] 36) H fun B H => (.nH (.cells #[IV yu, .slice yp yl yc, IV ya, IV yd] 36) H fun B1 H => (.ru 5 (.ld 0 0 (.ru 1 (.ld 1 0 (.ru 2 (.sP 10 H (fun H => ?_) fun H => ?_)))))))))
 ·refine .ru 1 (.ld 0 1 (.ru 1 (.ld 1 1 (.cl H ?_))))
  rintro _ _ ⟨r1, rfl, rfl, H⟩
  refine .ru 2 (.sB 17 H (fun H => ?_) fun H => ?_)
  ·refine .ru 1 (.ld 0 2 (.ru 1 (.ld 1 2 (.ru 3 (.sP 24 H (fun H => ?_) fun H => ?_)))))
   ·refine .ru 1 (.ld 0 3 (.ru 1 (.ld 1 3 (.ru 4 (.rt Tryz.func108 H)))))
   ·refine .ru 8 (.rt Tryz.func108 H)
  ·refine .ru 15 (.rt Tryz.func108 H)
 ·refine .ru 22 (.rt Tryz.func108 H)
theorem finEq {L : SHeap} {v u : Value} (h : Fin R L S w0 u) (e : v = u) : Fin R L S w0 v := e ▸ h
theorem isText_loop {s : BA} (hs : s.size ≤ 9223372036854775807) : ∀ (g i : Nat), g + i = s.size → Fin R [] [] w0 (.bool (scan s txtB i)) → isText_c0 s (i : Int) w0 R
 | 0, i, hg, H => by
  apply isText_c0_vc
  exact no (by omega) (finEq H (by rw [scan_end (by omega)]))
 | g + 1, i, hg, H => by
  apply isText_c0_vc
  have hi : i < s.size := by omega
  refine yes (by omega) ⟨by omega, fun h => finEq H ?_, fun h => ⟨by omega, fun h2 => finEq H ?_, fun h2 => ?_⟩⟩
  ·rw [scan_no hi (decide_eq_false (by omega))]
  ·rw [scan_no hi (decide_eq_false (by omega))]
  ·rintro _ rfl
   rw [wi64 (by omega), show (i : Int) + 1 = ((i + 1 : Nat) : Int) by omega]
   rw [scan_yes hi (decide_eq_true (by omega))] at H
   exact isText_loop hs g (i + 1) (by omega) H
theorem isText_c (s : BA) (hs : s.size ≤ 9223372036854775807) : PureC TP 186 ⟨[.string s]⟩ (.bool (txtOk s)) := by
 intro W
 refine isText_vc s (Mem.start [] W) ⟨fun h => finPure ?_, fun h => isText_loop hs s.size 0 (by omega) (finPure ?_)⟩
 ·rw [txtOk, decide_eq_false (by omega), Bool.false_and]
 ·rw [txtOk, decide_eq_true (by omega), Bool.true_and]
theorem isName_loop {s : BA} (hs : s.size ≤ 9223372036854775807) : ∀ (g i : Nat), g + i = s.size → Fin R [] [] w0 (.bool (scan s nameB i)) → isName_c0 s (i : Int) w0 R
 | 0, i, hg, H => by
  apply isName_c0_vc
  exact no (by omega) (finEq H (by rw [scan_end (by omega)]))
 | g + 1, i, hg, H => by
  apply isName_c0_vc
  have hi : i < s.size := by omega
  have next : nameB (bat s i) = true → ∀ x : Int, x = IntKind.i64.wrap ((i : Int) + 1) → isName_c0 s x w0 R := by
   rintro hn _ rfl
   rw [wi64 (by omega), show (i : Int) + 1 = ((i + 1 : Nat) : Int) by omega]
   rw [scan_yes hi hn] at H
   exact isName_loop hs g (i + 1) (by omega) H
  have stop : nameB (bat s i) = false → Fin R [] [] w0 (.bool false) := fun hn => finEq H (by rw [scan_no hi hn])
  refine yes (by omega) ?_
  repeat' (first
   | refine And.intro ?_ ?_
   | omega
   | exact stop (decide_eq_false (by omega))
   | exact next (decide_eq_true (by omega))
   | intro _)
theorem isName_c (s : BA) (hs : s.size ≤ 9223372036854775807) : PureC TP 193 ⟨[.string s]⟩ (.bool (nameOk s)) := by
 intro W
 refine isName_vc s (Mem.start [] W) ⟨fun h => finPure ?_, fun h => ⟨fun h2 => finPure ?_, fun h2 => isName_loop hs s.size 0 (by omega) (finPure ?_)⟩⟩
 ·rw [nameOk, decide_eq_false (by omega), Bool.false_and]
 ·rw [nameOk, decide_eq_false (by omega), Bool.false_and]
 ·rw [nameOk, decide_eq_true (by omega), Bool.true_and]
theorem ba_nil {s : BA} : s = (⟨#[]⟩ : BA) ↔ s.size = 0 := ⟨fun h => by rw [h]; rfl, fun h => bts_inj (by rw [bts_nil]; exact List.length_eq_zero_iff.1 (by rw [bts_len]; exact h))⟩
theorem rul1_c (s : BA) (hs : s.size ≤ 9223372036854775807) : PureC TP 185 ⟨[.string s]⟩ (.bool (fillOk s)) := by
 intro W
 refine rul1_vc s (Mem.start [] W) ⟨fun h => CallH.pure (isText_c s hs) ⟨_, rfl, rfl, finPure ?_⟩, fun h => finPure ?_⟩
 ·rw [fillOk, decide_eq_true (show s.size ≠ 0 from fun h0 => h (ba_nil.2 h0)), Bool.true_and]
 ·rw [fillOk, decide_eq_false (show ¬ s.size ≠ 0 from fun h0 => h0 (ba_nil.1 h)), Bool.false_and]
theorem drop_eq {α : Type} {a b : List α} {i : Nat} (h1 : i < a.length) (h2 : i < b.length) : (a.drop i = b.drop i) = (a[i] = b[i] ∧ a.drop (i + 1) = b.drop (i + 1)) := by
 rw [List.drop_eq_getElem_cons h1, List.drop_eq_getElem_cons h2]
 simp only [List.cons.injEq]
theorem eqInts_loop {w0 : World} {p q : OA} {cp cq : Nat} {R : Ending → World → Prop} {a b : List Int} (ha : IntsL (lkW w0) p a) (hb : IntsL (lkW w0) q b) (hl : a.length = b.length) (hm : a.length ≤ 9223372036854775807) :
  ∀ (g i : Nat), g + i = a.length → Fin R [] [] w0 (.bool (decide (a.drop i = b.drop i))) → eqInts_c0 p a.length cp q b.length cq (a.length : Int) (i : Int) w0 R
 | 0, i, hg, H => by
  apply eqInts_c0_vc
  refine no (by omega) (finEq H ?_)
  rw [List.drop_of_length_le (by omega), List.drop_of_length_le (by omega)]
  simp
 | g + 1, i, hg, H => by
  apply eqInts_c0_vc
  have h1 : i < a.length := by omega
  have h2 : i < b.length := by omega
  obtain ⟨B1, o1, c1, rfl, e2, e3⟩ := ha.get h1
  obtain ⟨B2, o2, c2, rfl, f2, f3⟩ := hb.get h2
  simp only [drop_eq h1 h2] at H
  refine yes (by omega) ⟨B1, o1, rfl, by omega, c1, a[i], e2, by simpa using e3, B2, o2, rfl, by omega, c2, b[i], f2, by simpa using f3, fun h => finEq H ?_, fun h => ?_⟩
  ·simp [h]
  ·rw [wi64 (by omega), show (i : Int) + 1 = ((i + 1 : Nat) : Int) by omega]
   refine eqInts_loop ha hb hl hm g (i + 1) (by omega) (finEq H ?_)
   simp [h]
theorem eqInts_c {p q : OA} {cp cq : Nat} {a b : List Int} (ha : IntsL (lkW W) p a) (hb : IntsL (lkW W) q b) (hm : a.length ≤ 9223372036854775807) :
  PW TP 149 ⟨[.slice p a.length cp, .slice q b.length cq]⟩ W (.bool (decide (a = b))) := by
 refine eqInts_vc p a.length cp q b.length cq (Mem.start [] W) ⟨fun h => finPW ?_, fun h => eqInts_loop ha hb (by omega) hm a.length 0 (by omega) (finPW ?_)⟩
 ·rw [decide_eq_false]
  intro hab; subst hab; exact h rfl
 ·simp
theorem labValid_loop {w0 : World} {p : OA} {cp : Nat} {R : Ending → World → Prop} {a : List Int} (ha : IntsL (lkW w0) p a) (hm : a.length ≤ 9223372036854775807) (HR : ∀ L v, Fin R [] [] w0 v → Fin R L [] w0 v) :
  ∀ (g i : Nat) (last : Int), 0 ≤ last → last ≤ 64 → g + i = a.length → Fin R [] [] w0 (.bool (ascOk last (a.drop i))) → labValid_c0 last p a.length cp (a.length : Int) (i : Int) w0 R
 | 0, i, last, _, _, hg, H => by
  apply labValid_c0_vc
  refine no (by omega) (finEq H ?_)
  rw [List.drop_of_length_le (by omega)]; rfl
 | g + 1, i, last, l0, l1, hg, H => by
  apply labValid_c0_vc
  have h1 : i < a.length := by omega
  obtain ⟨B1, o1, c1, rfl, e2, e3⟩ := ha.get h1
  rw [List.drop_eq_getElem_cons h1] at H
  rw [wi64 (x := last + 1) (by omega)]
  refine yes (by omega) ⟨B1, o1, rfl, by omega, c1, a[i], e2, by simpa using e3, fun B5 B6 => ⟨fun h => HR _ _ (finEq H ?_), fun h => ⟨fun h2 => HR _ _ (finEq H ?_), fun h2 => ?_⟩⟩⟩
  ·rw [ascOk, decide_eq_false (by omega), Bool.false_and]
  ·rw [ascOk, decide_eq_false (by omega), Bool.false_and]
  ·rw [wi64 (by omega), show (i : Int) + 1 = ((i + 1 : Nat) : Int) by omega]
   refine labValid_loop ha hm HR g (i + 1) a[i] (by omega) (by omega) (by omega) (finEq H ?_)
   rw [ascOk, decide_eq_true (by omega), Bool.true_and]
theorem pwLoose {u : Value} : ∀ (L : SHeap) v, Fin (fun e W' => e = .returned u ∧ Below W.heap.size W W') [] [] W v → Fin (fun e W' => e = .returned u ∧ Below W.heap.size W W') L [] W v :=
 fun L v h W' hm => h W' ⟨by simp, by simp, by simp, hm.kept⟩
theorem labValid_c {p : OA} {c : Nat} {l : Lab} (h : IntsL (lkW W) p l.after) (hm : l.after.length ≤ 9223372036854775807) : PW TP 101 ⟨[.agg ⟨l.cells p c⟩]⟩ W (.bool l.ok) := by
 refine labValid_vc l.unt p l.after.length c l.appr l.den (Mem.start [] W) fun B B1 B2 => ?_
 have stop : ¬ (0 ≤ l.unt ∧ l.unt ≤ 1000000000 ∧ 0 ≤ l.appr ∧ l.appr ≤ 5 ∧ 0 ≤ l.den ∧ l.den ≤ 15) → (Value.bool false) = .bool l.ok := fun hn => by rw [Lab.ok, decide_eq_false hn, Bool.false_and]
 refine ⟨fun h => finPW (stop (by omega)), fun h1 => ⟨fun h => finPW (stop (by omega)), fun h2 B3 => ⟨fun h => finPW (stop (by omega)), fun h3 => ⟨fun h => finPW (stop (by omega)), fun h4 B4 => ⟨fun h => finPW (stop (by omega)), fun h5 => ⟨fun h => finPW (stop (by omega)), fun h6 => ?_⟩⟩⟩⟩⟩⟩
 refine labValid_loop h hm pwLoose l.after.length 0 0 (by omega) (by omega) (by omega) (finPW ?_)
 rw [Lab.ok, decide_eq_true (by omega), Bool.true_and]; rfl
theorem Lab.ext' {x y : Lab} : x = y ↔ x.unt = y.unt ∧ x.after = y.after ∧ x.appr = y.appr ∧ x.den = y.den := by
 cases x; cases y; simp
theorem Lab.ne {x y : Lab} (h : ¬ (x.unt = y.unt ∧ x.after = y.after ∧ x.appr = y.appr ∧ x.den = y.den)) : (Value.bool false) = .bool (decide (x = y)) := by
 rw [decide_eq_false (fun e => h (Lab.ext'.1 e))]
theorem labSame_c {p q : OA} {c d : Nat} {x y : Lab} (hx : IntsL (lkW W) p x.after) (hy : IntsL (lkW W) q y.after) (hm : x.after.length ≤ 9223372036854775807) :
  PW TP 108 ⟨[.agg ⟨x.cells p c⟩, .agg ⟨y.cells q d⟩]⟩ W (.bool (decide (x = y))) := by
 refine labSame_vc x.unt p x.after.length c x.appr x.den y.unt q y.after.length d y.appr y.den (Mem.start [] W) fun B B1 => ⟨fun h1 => ?_, fun h1 => finPW (Lab.ne fun h => h1 h.1)⟩
 refine CallH.pw (fun W' hm' => eqInts_c (hx.mono (lkW_kept hm')) (hy.mono (lkW_kept hm')) hm) ⟨_, rfl, rfl, fun h2 => ⟨fun h3 => finPW ?_, fun h3 => finPW (Lab.ne fun h => h3 h.2.2.1)⟩, fun h2 => finPW (Lab.ne fun h => of_decide_eq_false h2 h.2.1)⟩
 have h2 := of_decide_eq_true h2
 simp only [Lab.ext', h1, h2, h3, true_and]
set_option maxRecDepth 100000
theorem rules_vc  (hm : Mem [] [] w0 W)
 (H :
 ∀ B : Nat,
 Fin R [(B, .map #[{ key := IV 1, val := .agg #[.func (.func 185) #[] #[], .bool false, .func (.func 187) #[] #[]], born := 0 }, { key := IV 2, val := .agg #[.func (.func 185) #[] #[], .bool false, .func (.func 188) #[] #[]], born := 1 }, { key := IV 3, val := .agg #[.func (.func 186) #[] #[], .bool true, .func (.func 191) #[] #[]], born := 2 }, { key := IV 4, val := .agg #[.func (.func 185) #[] #[], .bool false, .func (.func 192) #[] #[]], born := 3 }, { key := IV 5, val := .agg #[.func (.func 193) #[] #[], .bool false, .func (.func 194) #[] #[]], born := 4 }] 5)] [] w0 (.map (some B))) :
 Calls TP 171 ⟨[]⟩ W R:= by
 refine AtE.cs 12 Tryz.func171 hm (.ru 10 (.nw (fun B => .map (some B)) (.map #[] 0) fun B => ?_))
 replace H := H B
 refine .ru 2 (.insert 0 (b := B) (c := 0) (es := #[]) (kt := 3) (et := 239) (kd := .i64) (n := (1 : Int)) (v := .agg #[.func (.func 185) #[] #[], .bool false, .func (.func 187) #[] #[]]) (n' := 1) (by kernel_rfl) rfl (.nm (KR Tryz.f171 14 [4,5,6,7,8,9,10,11,12,13,14,15]) [(1, .func (.func 185) #[] #[]), (2, .map (some B))] [(B, .map #[{ key := IV 1, val := .agg #[.func (.func 185) #[] #[], .bool false, .func (.func 187) #[] #[]], born := 0 }] 1)] (.ru 2 (.insert 0 (b := B) (c := 1) (es := #[{ key := IV 1, val := .agg #[.func (.func 185) #[] #[], .bool false, .func (.func 187) #[] #[]], born := 0 }]) (kt := 3) (et := 239) (kd := .i64) (n := (2 : Int)) (v := .agg #[.func (.func 185) #[] #[], .bool false, .func (.func 188) #[] #[]]) (n' := 2) (by kernel_rfl) rfl (.nm (KR Tryz.f171 14 [7,8,9,10,11,12,13,14,15]) [(1, .func (.func 185) #[] #[]), (2, .map (some B))] [(B, .map #[{ key := IV 1, val := .agg #[.func (.func 185) #[] #[], .bool false, .func (.func 187) #[] #[]], born := 0 }, { key := IV 2, val := .agg #[.func (.func 185) #[] #[], .bool false, .func (.func 188) #[] #[]], born := 1 }] 2)] (.ru 1 (.insert 0 (b := B) (c := 2) (es := #[{ key := IV 1, val := .agg #[.func (.func 185) #[] #[], .bool false, .func (.func 187) #[] #[]], born := 0 }, { key := IV 2, val := .agg #[.func (.func 185) #[] #[], .bool false, .func (.func 188) #[] #[]], born := 1 }]) (kt := 3) (et := 239) (kd := .i64) (n := (3 : Int)) (v := .agg #[.func (.func 186) #[] #[], .bool true, .func (.func 191) #[] #[]]) (n' := 3) (by kernel_rfl) rfl (.nm (KR Tryz.f171 14 [9,10,11,12,13,14,15]) [(1, .func (.func 185) #[] #[]), (2, .map (some B))] [(B, .map #[{ key := IV 1, val := .agg #[.func (.func 185) #[] #[], .bool false, .func (.func 187) #[] #[]], born := 0 }, { key := IV 2, val := .agg #[.func (.func 185) #[] #[], .bool false, .func (.func 188) #[] #[]], born := 1 }, { key := IV 3, val := .agg #[.func (.func 186) #[] #[], .bool true, .func (.func 191) #[] #[]], born := 2 }] 3)] (.ru 2 (.insert 0 (b := B) (c := 3) (es := #[{ key := IV 1, val := .agg #[.func (.func 185) #[] #[], .bool false, .func (.func 187) #[] #[]], born := 0 }, { key := IV 2, val := .agg #[.func (.func 185) #[] #[], .bool false, .func (.func 188) #[] #[]], born := 1 }, { key := IV 3, val := .agg #[.func (.func 186) #[] #[], .bool true, .func (.func 191) #[] #[]], born := 2 }]) (kt := 3) (et := 239) (kd := .i64) (n := (4 : Int)) (v := .agg #[.func (.func 185) #[] #[], .bool false, .func (.func 192) #[] #[]]) (n' := 4) (by kernel_rfl) rfl (.nm (KR Tryz.f171 14 [12,13,14,15]) [(2, .map (some B))] [(B, .map #[{ key := IV 1, val := .agg #[.func (.func 185) #[] #[], .bool false, .func (.func 187) #[] #[]], born := 0 }, { key := IV 2, val := .agg #[.func (.func 185) #[] #[], .bool false, .func (.func 188) #[] #[]], born := 1 }, { key := IV 3, val := .agg #[.func (.func 186) #[] #[], .bool true, .func (.func 191) #[] #[]], born := 2 }, { key := IV 4, val := .agg #[.func (.func 185) #[] #[], .bool false, .func (.func 192) #[] #[]], born := 3 }] 4)] (.ru 1 (.insert 0 (b := B) (c := 4) (es := #[{ key := IV 1, val := .agg #[.func (.func 185) #[] #[], .bool false, .func (.func 187) #[] #[]], born := 0 }, { key := IV 2, val := .agg #[.func (.func 185) #[] #[], .bool false, .func (.func 188) #[] #[]], born := 1 }, { key := IV 3, val := .agg #[.func (.func 186) #[] #[], .bool true, .func (.func 191) #[] #[]], born := 2 }, { key := IV 4, val := .agg #[.func (.func 185) #[] #[], .bool false, .func (.func 192) #[] #[]], born := 3 }]) (kt := 3) (et := 239) (kd := .i64) (n := (5 : Int)) (v := .agg #[.func (.func 193) #[] #[], .bool false, .func (.func 194) #[] #[]]) (n' := 5) (by kernel_rfl) rfl (.nm (KR Tryz.f171 14 [14,15]) [(2, .map (some B))] [(B, .map #[{ key := IV 1, val := .agg #[.func (.func 185) #[] #[], .bool false, .func (.func 187) #[] #[]], born := 0 }, { key := IV 2, val := .agg #[.func (.func 185) #[] #[], .bool false, .func (.func 188) #[] #[]], born := 1 }, { key := IV 3, val := .agg #[.func (.func 186) #[] #[], .bool true, .func (.func 191) #[] #[]], born := 2 }, { key := IV 4, val := .agg #[.func (.func 185) #[] #[], .bool false, .func (.func 192) #[] #[]], born := 3 }, { key := IV 5, val := .agg #[.func (.func 193) #[] #[], .bool false, .func (.func 194) #[] #[]], born := 4 }] 5)] (.ru 3 (.rt Tryz.func171 H))))))))))))))))
abbrev followsH0 (B : Nat) (bi bk : Int) (bt : BA) (bs br bu : Int) (bp : OA) (bl bc : Nat) (ba bd : Int) (B3 : Nat) : SHeap := [(B, .cells #[IV bi, IV bk, .string bt, IV bs, IV br, IV bu, .slice bp bl bc, IV ba, IV bd] 149), (B3, .cells #[.func (.func 186) #[] #[], .bool true, .func (.func 191) #[] #[]] 239)]
abbrev followsH1 (B : Nat) (bi bk : Int) (bt : BA) (bs br bu : Int) (bp : OA) (bl bc : Nat) (ba bd : Int) (B1 : Nat) : SHeap := [(B, .cells #[IV bi, IV bk, .string bt, IV bs, IV br, IV bu, .slice bp bl bc, IV ba, IV bd] 149), (B1, .cells #[.func (.func 185) #[] #[], .bool false, .func (.func 187) #[] #[]] 239)]
abbrev followsH2 (B : Nat) (bi bk : Int) (bt : BA) (bs br bu : Int) (bp : OA) (bl bc : Nat) (ba bd : Int) (B2 : Nat) : SHeap := [(B, .cells #[IV bi, IV bk, .string bt, IV bs, IV br, IV bu, .slice bp bl bc, IV ba, IV bd] 149), (B2, .cells #[.func (.func 185) #[] #[], .bool false, .func (.func 188) #[] #[]] 239)]
abbrev followsH3 (B : Nat) (bi bk : Int) (bt : BA) (bs br bu : Int) (bp : OA) (bl bc : Nat) (ba bd : Int) (B4 : Nat) : SHeap := [(B, .cells #[IV bi, IV bk, .string bt, IV bs, IV br, IV bu, .slice bp bl bc, IV ba, IV bd] 149), (B4, .cells #[.func (.func 185) #[] #[], .bool false, .func (.func 192) #[] #[]] 239)]
abbrev followsH4 (B : Nat) (bi bk : Int) (bt : BA) (bs br bu : Int) (bp : OA) (bl bc : Nat) (ba bd : Int) (B5 : Nat) : SHeap := [(B, .cells #[IV bi, IV bk, .string bt, IV bs, IV br, IV bu, .slice bp bl bc, IV ba, IV bd] 149), (B5, .cells #[.func (.func 193) #[] #[], .bool false, .func (.func 194) #[] #[]] 239)]
abbrev followsH5 (B : Nat) (bi bk : Int) (bt : BA) (bs br bu : Int) (bp : OA) (bl bc : Nat) (ba bd : Int) : SHeap := [(B, .cells #[IV bi, IV bk, .string bt, IV bs, IV br, IV bu, .slice bp bl bc, IV ba, IV bd] 149)]
theorem follows_vc (bi bk : Int) (bt : BA) (bs br bu : Int) (bp : OA) (bl bc : Nat) (ba bd : Int) (mb : Nat) (hm : Mem [] [] w0 W)
 (H :
 ∀ B : Nat,
 (w0.heap[mb]? = some (.map #[{ key := IV 1, val := .agg #[.func (.func 185) #[] #[], .bool false, .func (.func 187) #[] #[]], born := 0 }, { key := IV 2, val := .agg #[.func (.func 185) #[] #[], .bool false, .func (.func 188) #[] #[]], born := 1 }, { key := IV 3, val := .agg #[.func (.func 186) #[] #[], .bool true, .func (.func 191) #[] #[]], born := 2 }, { key := IV 4, val := .agg #[.func (.func 185) #[] #[], .bool false, .func (.func 192) #[] #[]], born := 3 }, { key := IV 5, val := .agg #[.func (.func 193) #[] #[], .bool false, .func (.func 194) #[] #[]], born := 4 }] 5)) ∧
 ((bk = 1) →
 ∀ B1 : Nat,
 Br (bi < 1)
 (Fin R (followsH1 B bi bk bt bs br bu bp bl bc ba bd B1) [] w0 (.bool false))
 (Br ((1000 : Int) < bi)
 (Fin R (followsH1 B bi bk bt bs br bu bp bl bc ba bd B1) [] w0 (.bool false))
 (CallH TP 101 ⟨[.agg #[IV bu, .slice bp bl bc, IV ba, IV bd]]⟩ (followsH1 B bi bk bt bs br bu bp bl bc ba bd B1) [] w0 (fun v L' => ∃ r1, v = .bool r1 ∧ L' = (followsH1 B bi bk bt bs br bu bp bl bc ba bd B1) ∧
 Bb (r1)
 (CallH TP 185 ⟨[.string bt]⟩ (followsH1 B bi bk bt bs br bu bp bl bc ba bd B1) [] w0 (fun v L' => ∃ r21, v = .bool r21 ∧ L' = (followsH1 B bi bk bt bs br bu bp bl bc ba bd B1) ∧
 Bb (r21)
 (Br (bs = 0)
 (Fin R (followsH1 B bi bk bt bs br bu bp bl bc ba bd B1) [] w0 (.bool (decide (br = 0))))
 (Fin R (followsH1 B bi bk bt bs br bu bp bl bc ba bd B1) [] w0 (.bool false)))
 (Fin R (followsH1 B bi bk bt bs br bu bp bl bc ba bd B1) [] w0 (.bool false))))
 (Fin R (followsH1 B bi bk bt bs br bu bp bl bc ba bd B1) [] w0 (.bool false)))))) ∧
 ((¬ bk = 1) →
 ((bk = 2) →
 ∀ B2 : Nat,
 Br (bi < 1)
 (Fin R (followsH2 B bi bk bt bs br bu bp bl bc ba bd B2) [] w0 (.bool false))
 (Br ((1000 : Int) < bi)
 (Fin R (followsH2 B bi bk bt bs br bu bp bl bc ba bd B2) [] w0 (.bool false))
 (CallH TP 101 ⟨[.agg #[IV bu, .slice bp bl bc, IV ba, IV bd]]⟩ (followsH2 B bi bk bt bs br bu bp bl bc ba bd B2) [] w0 (fun v L' => ∃ r31, v = .bool r31 ∧ L' = (followsH2 B bi bk bt bs br bu bp bl bc ba bd B2) ∧
 Bb (r31)
 (CallH TP 185 ⟨[.string bt]⟩ (followsH2 B bi bk bt bs br bu bp bl bc ba bd B2) [] w0 (fun v L' => ∃ r41, v = .bool r41 ∧ L' = (followsH2 B bi bk bt bs br bu bp bl bc ba bd B2) ∧
 Bb (r41)
 (Br (bs = 0)
 (Fin R (followsH2 B bi bk bt bs br bu bp bl bc ba bd B2) [] w0 (.bool (decide (br = 0))))
 (Fin R (followsH2 B bi bk bt bs br bu bp bl bc ba bd B2) [] w0 (.bool false)))
 (Fin R (followsH2 B bi bk bt bs br bu bp bl bc ba bd B2) [] w0 (.bool false))))
 (Fin R (followsH2 B bi bk bt bs br bu bp bl bc ba bd B2) [] w0 (.bool false)))))) ∧
 ((¬ bk = 2) →
 ((bk = 3) →
 ∀ B3 : Nat,
 Br (bi < 1)
 (Fin R (followsH0 B bi bk bt bs br bu bp bl bc ba bd B3) [] w0 (.bool false))
 (Br ((1000 : Int) < bi)
 (Fin R (followsH0 B bi bk bt bs br bu bp bl bc ba bd B3) [] w0 (.bool false))
 (CallH TP 101 ⟨[.agg #[IV bu, .slice bp bl bc, IV ba, IV bd]]⟩ (followsH0 B bi bk bt bs br bu bp bl bc ba bd B3) [] w0 (fun v L' => ∃ r51, v = .bool r51 ∧ L' = (followsH0 B bi bk bt bs br bu bp bl bc ba bd B3) ∧
 Bb (r51)
 (CallH TP 186 ⟨[.string bt]⟩ (followsH0 B bi bk bt bs br bu bp bl bc ba bd B3) [] w0 (fun v L' => ∃ r61, v = .bool r61 ∧ L' = (followsH0 B bi bk bt bs br bu bp bl bc ba bd B3) ∧
 Bb (r61)
 (Br ((1 : Int) ≤ bs)
 (Br (bs ≤ 64)
 (Br ((1 : Int) ≤ br)
 (Fin R (followsH0 B bi bk bt bs br bu bp bl bc ba bd B3) [] w0 (.bool (decide (br ≤ 1000))))
 (Fin R (followsH0 B bi bk bt bs br bu bp bl bc ba bd B3) [] w0 (.bool false)))
 (Fin R (followsH0 B bi bk bt bs br bu bp bl bc ba bd B3) [] w0 (.bool false)))
 (Fin R (followsH0 B bi bk bt bs br bu bp bl bc ba bd B3) [] w0 (.bool false)))
 (Fin R (followsH0 B bi bk bt bs br bu bp bl bc ba bd B3) [] w0 (.bool false))))
 (Fin R (followsH0 B bi bk bt bs br bu bp bl bc ba bd B3) [] w0 (.bool false)))))) ∧
 ((¬ bk = 3) →
 ((bk = 4) →
 ∀ B4 : Nat,
 Br (bi < 1)
 (Fin R (followsH3 B bi bk bt bs br bu bp bl bc ba bd B4) [] w0 (.bool false))
 (Br ((1000 : Int) < bi)
 (Fin R (followsH3 B bi bk bt bs br bu bp bl bc ba bd B4) [] w0 (.bool false))
 (CallH TP 101 ⟨[.agg #[IV bu, .slice bp bl bc, IV ba, IV bd]]⟩ (followsH3 B bi bk bt bs br bu bp bl bc ba bd B4) [] w0 (fun v L' => ∃ r71, v = .bool r71 ∧ L' = (followsH3 B bi bk bt bs br bu bp bl bc ba bd B4) ∧
 Bb (r71)
 (CallH TP 185 ⟨[.string bt]⟩ (followsH3 B bi bk bt bs br bu bp bl bc ba bd B4) [] w0 (fun v L' => ∃ r81, v = .bool r81 ∧ L' = (followsH3 B bi bk bt bs br bu bp bl bc ba bd B4) ∧
 Bb (r81)
 (Br (bs = 0)
 (Fin R (followsH3 B bi bk bt bs br bu bp bl bc ba bd B4) [] w0 (.bool (decide (br = 0))))
 (Fin R (followsH3 B bi bk bt bs br bu bp bl bc ba bd B4) [] w0 (.bool false)))
 (Fin R (followsH3 B bi bk bt bs br bu bp bl bc ba bd B4) [] w0 (.bool false))))
 (Fin R (followsH3 B bi bk bt bs br bu bp bl bc ba bd B4) [] w0 (.bool false)))))) ∧
 ((¬ bk = 4) →
 ((bk = 5) →
 ∀ B5 : Nat,
 Br (bi < 1)
 (Fin R (followsH4 B bi bk bt bs br bu bp bl bc ba bd B5) [] w0 (.bool false))
 (Br ((1000 : Int) < bi)
 (Fin R (followsH4 B bi bk bt bs br bu bp bl bc ba bd B5) [] w0 (.bool false))
 (CallH TP 101 ⟨[.agg #[IV bu, .slice bp bl bc, IV ba, IV bd]]⟩ (followsH4 B bi bk bt bs br bu bp bl bc ba bd B5) [] w0 (fun v L' => ∃ r91, v = .bool r91 ∧ L' = (followsH4 B bi bk bt bs br bu bp bl bc ba bd B5) ∧
 Bb (r91)
 (CallH TP 193 ⟨[.string bt]⟩ (followsH4 B bi bk bt bs br bu bp bl bc ba bd B5) [] w0 (fun v L' => ∃ r101, v = .bool r101 ∧ L' = (followsH4 B bi bk bt bs br bu bp bl bc ba bd B5) ∧
 Bb (r101)
 (Br (bs = 0)
 (Fin R (followsH4 B bi bk bt bs br bu bp bl bc ba bd B5) [] w0 (.bool (decide (br = 0))))
 (Fin R (followsH4 B bi bk bt bs br bu bp bl bc ba bd B5) [] w0 (.bool false)))
 (Fin R (followsH4 B bi bk bt bs br bu bp bl bc ba bd B5) [] w0 (.bool false))))
 (Fin R (followsH4 B bi bk bt bs br bu bp bl bc ba bd B5) [] w0 (.bool false)))))) ∧
 ((¬ bk = 5) →
 ∀ B6 : Nat,
 Fin R [(B, .cells #[IV bi, IV bk, .string bt, IV bs, IV br, IV bu, .slice bp bl bc, IV ba, IV bd] 149), (B6, .cells #[.nilFunc, .bool false, .nilFunc] 239)] [] w0 (.bool false))))))) :
 Calls TP 172 ⟨[.agg #[IV bi, IV bk, .string bt, IV bs, IV br, IV bu, .slice bp bl bc, IV ba, IV bd], .map (some mb)]⟩ W R:= by
 refine AtE.cs 69 Tryz.func172 hm (.ru 2 (.nH (.cells #[IV bi, IV bk, .string bt, IV bs, IV br, IV bu, .slice bp bl bc, IV ba, IV bd] 149) H fun B H => (.ru 6 (.ld 0 1 (.lookW (b := mb) (c := 5) (es := #[{ key := IV 1, val := .agg #[.func (.func 185) #[] #[], .bool false, .func (.func 187) #[] #[]], born := 0 }, { key := IV 2, val := .agg #[.func (.func 185) #[] #[], .bool false, .func (.func 188) #[] #[]], born := 1 }, { key := IV 3, val := .agg #[.func (.func 186) #[] #[], .bool true, .func (.func 191) #[] #[]], born := 2 }, { key := IV 4, val := .agg #[.func (.func 185) #[] #[], .bool false, .func (.func 192) #[] #[]], born := 3 }, { key := IV 5, val := .agg #[.func (.func 193) #[] #[], .bool false, .func (.func 194) #[] #[]], born := 4 }]) (kt := 3) (et := 239) (kd := .i64) (n := bk) (z := .agg #[.nilFunc, .bool false, .nilFunc]) H.1 List.not_mem_nil (by kernel_rfl) ?_)))))
 replace H := H.2
 refine LookAll.cons (fun h1' => ?_) (fun h1' => ?_)
 ·replace H := H.1 h1'
  refine .nm (KR Tryz.f172 6 [4,5,6,7,8,9]) [(2, PP B), (11, .tuple #[.agg #[.func (.func 185) #[] #[], .bool false, .func (.func 187) #[] #[]], .bool true])] (followsH5 B bi bk bt bs br bu bp bl bc ba bd) (.ru 3 (.nH (.cells #[.nilFunc, .bool false, .nilFunc] 239) H fun B1 H => (.st 1 0 (.ru 9 (.ld 0 0 (.ru 3 (.sP 21 H (fun H => ?_) fun H => ?_)))))))
  ·refine .ru 24 (.rt Tryz.func172 H)
  ·refine .ru 1 (.ld 0 0 (.ru 3 (.sP 26 H (fun H => ?_) fun H => ?_)))
   ·refine .ru 19 (.rt Tryz.func172 H)
   ·refine .ru 1 (.ld 0 5 (.cl H ?_))
    rintro _ _ ⟨r1, rfl, rfl, H⟩
    refine .sB 29 H (fun H => ?_) fun H => ?_
    ·refine .ru 4 (.ld 1 0 (.ru 1 (.ld 0 2 (.cl H ?_))))
     rintro _ _ ⟨r21, rfl, rfl, H⟩
     refine .sB 37 H (fun H => ?_) fun H => ?_
     ·refine .ru 9 (.ld 1 1 (.ru 6 (.ld 0 3 (.ru 2 (.sP 46 H (fun H => ?_) fun H => ?_)))))
      ·refine .ru 1 (.ld 0 4 (.ru 4 (.rt Tryz.func172 H)))
      ·refine .ru 6 (.rt Tryz.func172 H)
     ·refine .ru 8 (.rt Tryz.func172 H)
    ·refine .ru 16 (.rt Tryz.func172 H)
 ·replace H := H.2 h1'
  refine LookAll.cons (fun h7' => ?_) (fun h7' => ?_)
  ·replace H := H.1 h7'
   refine .nm (KR Tryz.f172 6 [4,5,6,7,8,9]) [(2, PP B), (11, .tuple #[.agg #[.func (.func 185) #[] #[], .bool false, .func (.func 188) #[] #[]], .bool true])] (followsH5 B bi bk bt bs br bu bp bl bc ba bd) (.ru 3 (.nH (.cells #[.nilFunc, .bool false, .nilFunc] 239) H fun B2 H => (.st 1 0 (.ru 9 (.ld 0 0 (.ru 3 (.sP 21 H (fun H => ?_) fun H => ?_)))))))
   ·refine .ru 24 (.rt Tryz.func172 H)
   ·refine .ru 1 (.ld 0 0 (.ru 3 (.sP 26 H (fun H => ?_) fun H => ?_)))
    ·refine .ru 19 (.rt Tryz.func172 H)
    ·refine .ru 1 (.ld 0 5 (.cl H ?_))
     rintro _ _ ⟨r31, rfl, rfl, H⟩
     refine .sB 29 H (fun H => ?_) fun H => ?_
     ·refine .ru 4 (.ld 1 0 (.ru 1 (.ld 0 2 (.cl H ?_))))
      rintro _ _ ⟨r41, rfl, rfl, H⟩
      refine .sB 37 H (fun H => ?_) fun H => ?_
      ·refine .ru 9 (.ld 1 1 (.ru 6 (.ld 0 3 (.ru 2 (.sP 46 H (fun H => ?_) fun H => ?_)))))
       ·refine .ru 1 (.ld 0 4 (.ru 4 (.rt Tryz.func172 H)))
       ·refine .ru 6 (.rt Tryz.func172 H)
      ·refine .ru 8 (.rt Tryz.func172 H)
     ·refine .ru 16 (.rt Tryz.func172 H)
  ·replace H := H.2 h7'
   refine LookAll.cons (fun h13' => ?_) (fun h13' => ?_)
   ·replace H := H.1 h13'
    refine .nm (KR Tryz.f172 6 [4,5,6,7,8,9]) [(2, PP B), (11, .tuple #[.agg #[.func (.func 186) #[] #[], .bool true, .func (.func 191) #[] #[]], .bool true])] (followsH5 B bi bk bt bs br bu bp bl bc ba bd) (.ru 3 (.nH (.cells #[.nilFunc, .bool false, .nilFunc] 239) H fun B3 H => (.st 1 0 (.ru 9 (.ld 0 0 (.ru 3 (.sP 21 H (fun H => ?_) fun H => ?_)))))))
    ·refine .ru 24 (.rt Tryz.func172 H)
    ·refine .ru 1 (.ld 0 0 (.ru 3 (.sP 26 H (fun H => ?_) fun H => ?_)))
     ·refine .ru 19 (.rt Tryz.func172 H)
     ·refine .ru 1 (.ld 0 5 (.cl H ?_))
      rintro _ _ ⟨r51, rfl, rfl, H⟩
      refine .sB 29 H (fun H => ?_) fun H => ?_
      ·refine .ru 4 (.ld 1 0 (.ru 1 (.ld 0 2 (.cl H ?_))))
       rintro _ _ ⟨r61, rfl, rfl, H⟩
       refine .sB 37 H (fun H => ?_) fun H => ?_
       ·refine .ru 9 (.ld 1 1 (.ru 7 (.ld 0 3 (.ru 2 (.sP 54 H (fun H => ?_) fun H => ?_)))))
        ·refine .ru 1 (.ld 0 3 (.ru 3 (.sP 59 H (fun H => ?_) fun H => ?_)))
         ·refine .ru 1 (.ld 0 4 (.ru 3 (.sP 64 H (fun H => ?_) fun H => ?_)))
          ·refine .ru 1 (.ld 0 4 (.ru 4 (.rt Tryz.func172 H)))
          ·refine .ru 6 (.rt Tryz.func172 H)
         ·refine .ru 11 (.rt Tryz.func172 H)
        ·refine .ru 16 (.rt Tryz.func172 H)
       ·refine .ru 8 (.rt Tryz.func172 H)
      ·refine .ru 16 (.rt Tryz.func172 H)
   ·replace H := H.2 h13'
    refine LookAll.cons (fun h21' => ?_) (fun h21' => ?_)
    ·replace H := H.1 h21'
     refine .nm (KR Tryz.f172 6 [4,5,6,7,8,9]) [(2, PP B), (11, .tuple #[.agg #[.func (.func 185) #[] #[], .bool false, .func (.func 192) #[] #[]], .bool true])] (followsH5 B bi bk bt bs br bu bp bl bc ba bd) (.ru 3 (.nH (.cells #[.nilFunc, .bool false, .nilFunc] 239) H fun B4 H => (.st 1 0 (.ru 9 (.ld 0 0 (.ru 3 (.sP 21 H (fun H => ?_) fun H => ?_)))))))
     ·refine .ru 24 (.rt Tryz.func172 H)
     ·refine .ru 1 (.ld 0 0 (.ru 3 (.sP 26 H (fun H => ?_) fun H => ?_)))
      ·refine .ru 19 (.rt Tryz.func172 H)
      ·refine .ru 1 (.ld 0 5 (.cl H ?_))
       rintro _ _ ⟨r71, rfl, rfl, H⟩
       refine .sB 29 H (fun H => ?_) fun H => ?_
       ·refine .ru 4 (.ld 1 0 (.ru 1 (.ld 0 2 (.cl H ?_))))
        rintro _ _ ⟨r81, rfl, rfl, H⟩
        refine .sB 37 H (fun H => ?_) fun H => ?_
        ·refine .ru 9 (.ld 1 1 (.ru 6 (.ld 0 3 (.ru 2 (.sP 46 H (fun H => ?_) fun H => ?_)))))
         ·refine .ru 1 (.ld 0 4 (.ru 4 (.rt Tryz.func172 H)))
         ·refine .ru 6 (.rt Tryz.func172 H)
        ·refine .ru 8 (.rt Tryz.func172 H)
       ·refine .ru 16 (.rt Tryz.func172 H)
    ·replace H := H.2 h21'
     refine LookAll.cons (fun h27' => ?_) (fun h27' => ?_)
     ·replace H := H.1 h27'
      refine .nm (KR Tryz.f172 6 [4,5,6,7,8,9]) [(2, PP B), (11, .tuple #[.agg #[.func (.func 193) #[] #[], .bool false, .func (.func 194) #[] #[]], .bool true])] (followsH5 B bi bk bt bs br bu bp bl bc ba bd) (.ru 3 (.nH (.cells #[.nilFunc, .bool false, .nilFunc] 239) H fun B5 H => (.st 1 0 (.ru 9 (.ld 0 0 (.ru 3 (.sP 21 H (fun H => ?_) fun H => ?_)))))))
      ·refine .ru 24 (.rt Tryz.func172 H)
      ·refine .ru 1 (.ld 0 0 (.ru 3 (.sP 26 H (fun H => ?_) fun H => ?_)))
       ·refine .ru 19 (.rt Tryz.func172 H)
       ·refine .ru 1 (.ld 0 5 (.cl H ?_))
        rintro _ _ ⟨r91, rfl, rfl, H⟩
        refine .sB 29 H (fun H => ?_) fun H => ?_
        ·refine .ru 4 (.ld 1 0 (.ru 1 (.ld 0 2 (.cl H ?_))))
         rintro _ _ ⟨r101, rfl, rfl, H⟩
         refine .sB 37 H (fun H => ?_) fun H => ?_
         ·refine .ru 9 (.ld 1 1 (.ru 6 (.ld 0 3 (.ru 2 (.sP 46 H (fun H => ?_) fun H => ?_)))))
          ·refine .ru 1 (.ld 0 4 (.ru 4 (.rt Tryz.func172 H)))
          ·refine .ru 6 (.rt Tryz.func172 H)
         ·refine .ru 8 (.rt Tryz.func172 H)
        ·refine .ru 16 (.rt Tryz.func172 H)
     ·replace H := H.2 h27'
      refine .nm (KR Tryz.f172 6 [4,5,6,7,8,9]) [(2, PP B), (11, .tuple #[.agg #[.nilFunc, .bool false, .nilFunc], .bool false])] (followsH5 B bi bk bt bs br bu bp bl bc ba bd) (.ru 3 (.nH (.cells #[.nilFunc, .bool false, .nilFunc] 239) H fun B6 H => (.st 1 0 (.ru 37 (.rt Tryz.func172 H)))))
set_option maxRecDepth 100000
abbrev validLA0 (m_0 m_1 : Int) (m_2 : BA) (m_3 m_4 m_5 : Int) (m_6_p : OA) (m_6_l m_6_c : Nat) (m_7 m_8 : Int) : Array Value := #[IV m_0, IV m_1, .string m_2, IV m_3, IV m_4, IV m_5, .slice m_6_p m_6_l m_6_c, IV m_7, IV m_8]
def validL_c0 (B : Nat) (l1_p : OA) (l1_l l1_c : Nat) (t12_p : OA) (t12_l t12_c : Nat) (t13 t14 : Int) (w0 : World) (R : Ending → World → Prop) : Prop :=
 AtE TP 141 38 (KC Tryz.f141 244) [(0, .slice l1_p l1_l l1_c), (3, .map (some B)), (12, .slice t12_p t12_l t12_c), (13, IV t13), (14, IV t14)] [(B, .map #[{ key := IV 1, val := .agg #[.func (.func 185) #[] #[], .bool false, .func (.func 187) #[] #[]], born := 0 }, { key := IV 2, val := .agg #[.func (.func 185) #[] #[], .bool false, .func (.func 188) #[] #[]], born := 1 }, { key := IV 3, val := .agg #[.func (.func 186) #[] #[], .bool true, .func (.func 191) #[] #[]], born := 2 }, { key := IV 4, val := .agg #[.func (.func 185) #[] #[], .bool false, .func (.func 192) #[] #[]], born := 3 }, { key := IV 5, val := .agg #[.func (.func 193) #[] #[], .bool false, .func (.func 194) #[] #[]], born := 4 }] 5)] [] w0 (nrm R)
def validL_c1 (B2 B3 : Nat) (l2_p : OA) (l2_l l2_c : Nat) (t121_p : OA) (t121_l t121_c : Nat) (t131 t141 : Int) (t25_p : OA) (t25_l t25_c : Nat) (t26 t27 m0 m1 : Int) (m2 : BA) (m3 m4 m5 : Int) (m6_p : OA) (m6_l m6_c : Nat) (m7 m8 : Int) (w0 : World) (R : Ending → World → Prop) : Prop :=
 AtE TP 141 38 (KC Tryz.f141 125340) [(0, .slice l2_p l2_l l2_c), (3, .map (some B2)), (5, PP B3), (12, .slice t121_p t121_l t121_c), (13, IV t131), (14, IV t141), (25, .slice t25_p t25_l t25_c), (26, IV t26), (27, IV t27)] [(B2, .map #[{ key := IV 1, val := .agg #[.func (.func 185) #[] #[], .bool false, .func (.func 187) #[] #[]], born := 0 }, { key := IV 2, val := .agg #[.func (.func 185) #[] #[], .bool false, .func (.func 188) #[] #[]], born := 1 }, { key := IV 3, val := .agg #[.func (.func 186) #[] #[], .bool true, .func (.func 191) #[] #[]], born := 2 }, { key := IV 4, val := .agg #[.func (.func 185) #[] #[], .bool false, .func (.func 192) #[] #[]], born := 3 }, { key := IV 5, val := .agg #[.func (.func 193) #[] #[], .bool false, .func (.func 194) #[] #[]], born := 4 }] 5), (B3, .cells #[IV m0, IV m1, .string m2, IV m3, IV m4, IV m5, .slice m6_p m6_l m6_c, IV m7, IV m8] 149)] [] w0 (nrm R)
theorem validL_c0_vc (B : Nat) (l1_p : OA) (l1_l l1_c : Nat) (t12_p : OA) (t12_l t12_c : Nat) (t13 t14 : Int)
 (H :
 Br (t14 < t13)
 (∃ t12_pb t12_po : Nat, t12_p = some ⟨t12_pb, t12_po, none⟩ ∧
 (0 ≤ t14 ∧ t14 < t12_l) ∧
 ∃ (cw : List Value) (m_0 : Int) (m_1 : Int) (m_2 : BA) (m_3 : Int) (m_4 : Int) (m_5 : Int) (m_6_p : OA) (m_6_l : Nat) (m_6_c : Nat) (m_7 : Int) (m_8 : Int), blkW w0 t12_pb = some cw ∧ ((cw.drop (t12_po + ((Int.toNat t14) * 9))).take 9 = [IV m_0, IV m_1, .string m_2, IV m_3, IV m_4, IV m_5, .slice m_6_p m_6_l m_6_c, IV m_7, IV m_8] ∧ (t12_po + ((Int.toNat t14) * 9)) + 9 ≤ cw.length) ∧
 ∀ B1 : Nat,
 CallH TP 172 ⟨[.agg (validLA0 m_0 m_1 m_2 m_3 m_4 m_5 m_6_p m_6_l m_6_c m_7 m_8), .map (some B)]⟩ [(B, .map #[{ key := IV 1, val := .agg #[.func (.func 185) #[] #[], .bool false, .func (.func 187) #[] #[]], born := 0 }, { key := IV 2, val := .agg #[.func (.func 185) #[] #[], .bool false, .func (.func 188) #[] #[]], born := 1 }, { key := IV 3, val := .agg #[.func (.func 186) #[] #[], .bool true, .func (.func 191) #[] #[]], born := 2 }, { key := IV 4, val := .agg #[.func (.func 185) #[] #[], .bool false, .func (.func 192) #[] #[]], born := 3 }, { key := IV 5, val := .agg #[.func (.func 193) #[] #[], .bool false, .func (.func 194) #[] #[]], born := 4 }] 5), (B1, .cells (validLA0 m_0 m_1 m_2 m_3 m_4 m_5 m_6_p m_6_l m_6_c m_7 m_8) 149)] [] w0 (fun v L' => ∃ r21, v = .bool r21 ∧ L' = [(B, .map #[{ key := IV 1, val := .agg #[.func (.func 185) #[] #[], .bool false, .func (.func 187) #[] #[]], born := 0 }, { key := IV 2, val := .agg #[.func (.func 185) #[] #[], .bool false, .func (.func 188) #[] #[]], born := 1 }, { key := IV 3, val := .agg #[.func (.func 186) #[] #[], .bool true, .func (.func 191) #[] #[]], born := 2 }, { key := IV 4, val := .agg #[.func (.func 185) #[] #[], .bool false, .func (.func 192) #[] #[]], born := 3 }, { key := IV 5, val := .agg #[.func (.func 193) #[] #[], .bool false, .func (.func 194) #[] #[]], born := 4 }] 5), (B1, .cells (validLA0 m_0 m_1 m_2 m_3 m_4 m_5 m_6_p m_6_l m_6_c m_7 m_8) 149)] ∧
 Bb (r21)
 ((0 ≤ t14 ∧ t14 ≤ (l1_c : Int)) ∧
 validL_c1 B B1 l1_p l1_l l1_c (some ⟨t12_pb, t12_po, none⟩) t12_l t12_c t13 t14 l1_p (Int.toNat t14) l1_c ((Int.toNat t14) : Int) (0 : Int) m_0 m_1 m_2 m_3 m_4 m_5 m_6_p m_6_l m_6_c m_7 m_8 w0 R)
 (Fin R [(B, .map #[{ key := IV 1, val := .agg #[.func (.func 185) #[] #[], .bool false, .func (.func 187) #[] #[]], born := 0 }, { key := IV 2, val := .agg #[.func (.func 185) #[] #[], .bool false, .func (.func 188) #[] #[]], born := 1 }, { key := IV 3, val := .agg #[.func (.func 186) #[] #[], .bool true, .func (.func 191) #[] #[]], born := 2 }, { key := IV 4, val := .agg #[.func (.func 185) #[] #[], .bool false, .func (.func 192) #[] #[]], born := 3 }, { key := IV 5, val := .agg #[.func (.func 193) #[] #[], .bool false, .func (.func 194) #[] #[]], born := 4 }] 5), (B1, .cells (validLA0 m_0 m_1 m_2 m_3 m_4 m_5 m_6_p m_6_l m_6_c m_7 m_8) 149)] [] w0 (.bool false))))
 (Fin R [(B, .map #[{ key := IV 1, val := .agg #[.func (.func 185) #[] #[], .bool false, .func (.func 187) #[] #[]], born := 0 }, { key := IV 2, val := .agg #[.func (.func 185) #[] #[], .bool false, .func (.func 188) #[] #[]], born := 1 }, { key := IV 3, val := .agg #[.func (.func 186) #[] #[], .bool true, .func (.func 191) #[] #[]], born := 2 }, { key := IV 4, val := .agg #[.func (.func 185) #[] #[], .bool false, .func (.func 192) #[] #[]], born := 3 }, { key := IV 5, val := .agg #[.func (.func 193) #[] #[], .bool false, .func (.func 194) #[] #[]], born := 4 }] 5)] [] w0 (.bool true))) :
 validL_c0 B l1_p l1_l l1_c t12_p t12_l t12_c t13 t14 w0 R:= by
 unfold validL_c0
 refine .ru 5 (.sP 15 H ?_ ?_) <;> clear H <;> intro H
 ·refine .ru 7 ?_
  obtain ⟨t12_pb, t12_po, rfl, H⟩ := H
  refine .indexAddrL (E := 149) (b := t12_pb) (o := t12_po) (len := t12_l) (cap := t12_c) (sz := 9) (o' := (t12_po + ((Int.toNat t14) * 9))) (kd := .i64) (i := t14) (by kernel_rfl) H.1 (by omega) ?_
  replace H := H.2
  obtain ⟨cw, m_0, m_1, m_2, m_3, m_4, m_5, m_6_p, m_6_l, m_6_c, m_7, m_8, hw, hx, H⟩ := H
  refine .loadW (b := t12_pb) (off := (t12_po + ((Int.toNat t14) * 9))) (T := 149) (v := .agg (validLA0 m_0 m_1 m_2 m_3 m_4 m_5 m_6_p m_6_l m_6_c m_7 m_8)) (by kernel_rfl) List.not_mem_nil hw (valAt_agg hx.1 hx.2 (by kernel_rfl) (by kernel_rfl)) (.np (.cells #[IV 0, IV 0, .string (⟨#[]⟩), IV 0, IV 0, IV 0, .slice none 0 0, IV 0, IV 0] 149) fun B1 => ?_)
  replace H := H B1
  refine .ru 1 (.st 1 0 (.ru 4 (.ld 1 0 (.ru 1 (.cl H ?_)))))
  clear H
  rintro _ _ ⟨r21, rfl, rfl, H⟩
  refine .sB 21 H ?_ ?_ <;> clear H <;> intro H
  ·refine .ru 8 (.sliceU (E := 149) (p := l1_p) (len := l1_l) (cap := l1_c) (sz := 9) (lo := none) (hi := some (IV t14)) (y := t14) (by kernel_rfl) (.inr rfl) (.inl ⟨.i64, rfl⟩) H.1 ?_)
   replace H := H.2
   refine .ru 5 (.ct [0,1] H)
  ·refine .ru 7 (.rt Tryz.func141 H)
 ·refine .ru 6 (.rt Tryz.func141 H)
theorem validL_c1_vc (B2 B3 : Nat) (l2_p : OA) (l2_l l2_c : Nat) (t121_p : OA) (t121_l t121_c : Nat) (t131 t141 : Int) (t25_p : OA) (t25_l t25_c : Nat) (t26 t27 m0 m1 : Int) (m2 : BA) (m3 m4 m5 : Int) (m6_p : OA) (m6_l m6_c : Nat) (m7 m8 : Int)
 (H :
 Br (t27 < t26)
 (∃ t25_pb t25_po : Nat, t25_p = some ⟨t25_pb, t25_po, none⟩ ∧
 (0 ≤ t27 ∧ t27 < t25_l) ∧
 ∃ (cw1 : List Value) (m9_0 : Int) (m9_1 : Int) (m9_2 : BA) (m9_3 : Int) (m9_4 : Int) (m9_5 : Int) (m9_6_p : OA) (m9_6_l : Nat) (m9_6_c : Nat) (m9_7 : Int) (m9_8 : Int), blkW w0 t25_pb = some cw1 ∧ ((cw1.drop (t25_po + ((Int.toNat t27) * 9))).take 9 = [IV m9_0, IV m9_1, .string m9_2, IV m9_3, IV m9_4, IV m9_5, .slice m9_6_p m9_6_l m9_6_c, IV m9_7, IV m9_8] ∧ (t25_po + ((Int.toNat t27) * 9)) + 9 ≤ cw1.length) ∧
 ∀ B4 : Nat,
 Br (m9_0 = m0)
 (Fin R [(B2, .map #[{ key := IV 1, val := .agg #[.func (.func 185) #[] #[], .bool false, .func (.func 187) #[] #[]], born := 0 }, { key := IV 2, val := .agg #[.func (.func 185) #[] #[], .bool false, .func (.func 188) #[] #[]], born := 1 }, { key := IV 3, val := .agg #[.func (.func 186) #[] #[], .bool true, .func (.func 191) #[] #[]], born := 2 }, { key := IV 4, val := .agg #[.func (.func 185) #[] #[], .bool false, .func (.func 192) #[] #[]], born := 3 }, { key := IV 5, val := .agg #[.func (.func 193) #[] #[], .bool false, .func (.func 194) #[] #[]], born := 4 }] 5), (B3, .cells #[IV m0, IV m1, .string m2, IV m3, IV m4, IV m5, .slice m6_p m6_l m6_c, IV m7, IV m8] 149), (B4, .cells #[IV m9_0, IV m9_1, .string m9_2, IV m9_3, IV m9_4, IV m9_5, .slice m9_6_p m9_6_l m9_6_c, IV m9_7, IV m9_8] 149)] [] w0 (.bool false))
 (validL_c1 B2 B3 l2_p l2_l l2_c t121_p t121_l t121_c t131 t141 (some ⟨t25_pb, t25_po, none⟩) t25_l t25_c t26 (IntKind.i64.wrap (t27 + (1 : Int))) m0 m1 m2 m3 m4 m5 m6_p m6_l m6_c m7 m8 w0 R))
 (validL_c0 B2 l2_p l2_l l2_c t121_p t121_l t121_c t131 (IntKind.i64.wrap (t141 + (1 : Int))) w0 R)) :
 validL_c1 B2 B3 l2_p l2_l l2_c t121_p t121_l t121_c t131 t141 t25_p t25_l t25_c t26 t27 m0 m1 m2 m3 m4 m5 m6_p m6_l m6_c m7 m8 w0 R:= by
 unfold validL_c1
 refine .ru 5 (.sP 28 H ?_ ?_) <;> clear H <;> intro H
 ·refine .ru 6 ?_
  obtain ⟨t25_pb, t25_po, rfl, H⟩ := H
  refine .indexAddrL (E := 149) (b := t25_pb) (o := t25_po) (len := t25_l) (cap := t25_c) (sz := 9) (o' := (t25_po + ((Int.toNat t27) * 9))) (kd := .i64) (i := t27) (by kernel_rfl) H.1 (by omega) ?_
  replace H := H.2
  obtain ⟨cw1, m9_0, m9_1, m9_2, m9_3, m9_4, m9_5, m9_6_p, m9_6_l, m9_6_c, m9_7, m9_8, hw, hx, H⟩ := H
  refine .loadW (b := t25_pb) (off := (t25_po + ((Int.toNat t27) * 9))) (T := 149) (v := .agg #[IV m9_0, IV m9_1, .string m9_2, IV m9_3, IV m9_4, IV m9_5, .slice m9_6_p m9_6_l m9_6_c, IV m9_7, IV m9_8]) (by kernel_rfl) List.not_mem_nil hw (valAt_agg hx.1 hx.2 (by kernel_rfl) (by kernel_rfl)) (.np (.cells #[IV 0, IV 0, .string (⟨#[]⟩), IV 0, IV 0, IV 0, .slice none 0 0, IV 0, IV 0] 149) fun B4 => ?_)
  replace H := H B4
  refine .st 2 0 (.ru 4 (.ld 2 0 (.ru 1 (.ld 1 0 (.ru 2 (.sP 35 H ?_ ?_)))))) <;> clear H <;> intro H
  ·refine .ru 5 (.rt Tryz.func141 H)
  ·refine .ru 8 (.ct [0,1] H)
 ·refine .ru 8 (.ct [0] H)
theorem validL_vc (l_p : OA) (l_l l_c : Nat) (hm : Mem [] [] w0 W)
 (H :
 Br ((24 : Int) < (l_l : Int))
 (Fin R [] [] w0 (.bool false))
 (CallH TP 171 ⟨[]⟩ [] [] w0 (fun v L' => ∃ (mb : Nat), v = (.map (some mb)) ∧ L' = [(mb, .map #[{ key := IV 1, val := .agg #[.func (.func 185) #[] #[], .bool false, .func (.func 187) #[] #[]], born := 0 }, { key := IV 2, val := .agg #[.func (.func 185) #[] #[], .bool false, .func (.func 188) #[] #[]], born := 1 }, { key := IV 3, val := .agg #[.func (.func 186) #[] #[], .bool true, .func (.func 191) #[] #[]], born := 2 }, { key := IV 4, val := .agg #[.func (.func 185) #[] #[], .bool false, .func (.func 192) #[] #[]], born := 3 }, { key := IV 5, val := .agg #[.func (.func 193) #[] #[], .bool false, .func (.func 194) #[] #[]], born := 4 }] 5)] ∧
 validL_c0 mb l_p l_l l_c l_p l_l l_c (l_l : Int) (0 : Int) w0 R))) :
 Calls TP 141 ⟨[.slice l_p l_l l_c]⟩ W R:= by
 refine AtE.cs 38 Tryz.func141 hm (.ru 11 (.sP 10 H (fun H => ?_) fun H => ?_))
 ·refine .ru 5 (.rt Tryz.func141 H)
 ·refine .ru 4 (.cl H ?_)
  rintro _ _ ⟨mb, rfl, rfl, H⟩
  refine .ru 11 (.ct [0] H)
abbrev rulesObj : Obj := .map #[{ key := .int .i64 (1 : Int), val := .agg #[.func (.func 185) #[] #[], .bool false, .func (.func 187) #[] #[]], born := 0 }, { key := .int .i64 (2 : Int), val := .agg #[.func (.func 185) #[] #[], .bool false, .func (.func 188) #[] #[]], born := 1 }, { key := .int .i64 (3 : Int), val := .agg #[.func (.func 186) #[] #[], .bool true, .func (.func 191) #[] #[]], born := 2 }, { key := .int .i64 (4 : Int), val := .agg #[.func (.func 185) #[] #[], .bool false, .func (.func 192) #[] #[]], born := 3 }, { key := .int .i64 (5 : Int), val := .agg #[.func (.func 193) #[] #[], .bool false, .func (.func 194) #[] #[]], born := 4 }] 5
theorem rules_e : EffC TP 171 ⟨[]⟩ [] (fun v L' => ∃ mb : Nat, v = .map (some mb) ∧ L' = [(mb, rulesObj)]) := by
 intro W hm
 exact rules_vc (Mem.start [] W) fun B W' hm' => ⟨_, _, rfl, hm', B, rfl, rfl⟩
theorem CallH.rules {L : SHeap} (hK : ∀ mb : Nat, K (.map (some mb)) (L ++ [(mb, rulesObj)])) : CallH TP 171 ⟨[]⟩ L S w0 K :=
 CallH.eff (L1 := L) rules_e (List.Perm.refl _) fun v L' ⟨mb, hv, hl⟩ => ⟨L ++ [(mb, rulesObj)], by rw [hl]; exact List.perm_append_comm, by rw [hv]; exact hK mb⟩
theorem ok_id {b : Blk} (h : ¬ (1 ≤ b.id ∧ b.id ≤ 1000)) : (Value.bool false) = .bool b.ok := by rw [Blk.ok, decide_eq_false h, Bool.false_and]
theorem ok_lab {b : Blk} (h : b.lab.ok = false) : (Value.bool false) = .bool b.ok := by rw [Blk.ok, h, Bool.false_and, Bool.and_false]
theorem ok_kind {b : Blk} (h : b.kindOk = false) : (Value.bool false) = .bool b.ok := by rw [Blk.ok, h, Bool.and_false, Bool.and_false]
theorem ok_yes {b : Blk} {v : Bool} (h : 1 ≤ b.id ∧ b.id ≤ 1000) (hl : b.lab.ok = true) (hk : v = b.kindOk) : (Value.bool v) = .bool b.ok := by rw [Blk.ok, decide_eq_true h, hl, hk, Bool.true_and, Bool.true_and]
theorem kind1 {b : Blk} (k : b.kind = 1) : b.kindOk = (fillOk b.text && b.noRef) := by rw [Blk.kindOk, if_pos k]
theorem kind2 {b : Blk} (k : b.kind = 2) : b.kindOk = (fillOk b.text && b.noRef) := by rw [Blk.kindOk, if_neg (by omega), if_pos k]
theorem kind3 {b : Blk} (k : b.kind = 3) : b.kindOk = (txtOk b.text && decide (1 ≤ b.story ∧ b.story ≤ 64 ∧ 1 ≤ b.ref ∧ b.ref ≤ 1000)) := by rw [Blk.kindOk, if_neg (by omega), if_neg (by omega), if_pos k]
theorem kind4 {b : Blk} (k : b.kind = 4) : b.kindOk = (fillOk b.text && b.noRef) := by rw [Blk.kindOk, if_neg (by omega), if_neg (by omega), if_neg (by omega), if_pos k]
theorem kind5 {b : Blk} (k : b.kind = 5) : b.kindOk = (nameOk b.text && b.noRef) := by rw [Blk.kindOk, if_neg (by omega), if_neg (by omega), if_neg (by omega), if_neg (by omega), if_pos k]
theorem kind0 {b : Blk} (k1 : ¬ b.kind = 1) (k2 : ¬ b.kind = 2) (k3 : ¬ b.kind = 3) (k4 : ¬ b.kind = 4) (k5 : ¬ b.kind = 5) : b.kindOk = false := by rw [Blk.kindOk, if_neg k1, if_neg k2, if_neg k3, if_neg k4, if_neg k5]
theorem noRef_of {b : Blk} (h : b.story = 0) : decide (b.ref = 0) = b.noRef := by simp [Blk.noRef, h]
theorem noRef_no {b : Blk} (h : ¬ b.story = 0) : b.noRef = false := by simp [Blk.noRef, h]
theorem quote_of {b : Blk} (h : 1 ≤ b.story) (h2 : b.story ≤ 64) (h3 : 1 ≤ b.ref) : decide (b.ref ≤ 1000) = decide (1 ≤ b.story ∧ b.story ≤ 64 ∧ 1 ≤ b.ref ∧ b.ref ≤ 1000) := by simp only [decide_eq_decide]; omega
theorem follows_c {p : OA} {c mb : Nat} {b : Blk} (h : IntsL (lkW W) p b.lab.after) (hf : b.Fits) (hmap : W.heap[mb]? = some rulesObj) :
  PW TP 172 ⟨[.agg ⟨b.cells p c⟩, .map (some mb)]⟩ W (.bool b.ok) := by
 refine follows_vc b.id b.kind b.text b.story b.ref b.lab.unt p b.lab.after.length c b.lab.appr b.lab.den mb (Mem.start [] W) fun B => ⟨hmap, ?_⟩
 have hv : ∀ L W', Mem L [] W W' → PW TP 101 ⟨[.agg ⟨b.lab.cells p c⟩]⟩ W' (.bool b.lab.ok) := fun L W' hm' => labValid_c (h.mono (lkW_kept hm')) hf.2
 refine ⟨fun k1 B1 => ?_, fun k1 => ⟨fun k2 B2 => ?_, fun k2 => ⟨fun k3 B3 => ?_, fun k3 => ⟨fun k4 B4 => ?_, fun k4 => ⟨fun k5 B5 => ?_, fun k5 B6 => finPW (ok_kind (kind0 k1 k2 k3 k4 k5))⟩⟩⟩⟩⟩
 ·refine ⟨fun i1 => finPW (ok_id (by omega)), fun i1 => ⟨fun i2 => finPW (ok_id (by omega)), fun i2 => CallH.pw (hv _) ⟨_, rfl, rfl, fun hl => CallH.pure (rul1_c b.text hf.1) ⟨_, rfl, rfl, fun ht => ⟨fun q1 => finPW (ok_yes ⟨by omega, by omega⟩ hl ?_), fun q1 => finPW (ok_kind ?_)⟩, fun ht => finPW (ok_kind ?_)⟩, fun hl => finPW (ok_lab hl)⟩⟩⟩
  ·rw [kind1 k1, ht, Bool.true_and, noRef_of q1]
  ·rw [kind1 k1, noRef_no q1, Bool.and_false]
  ·rw [kind1 k1, ht, Bool.false_and]
 ·refine ⟨fun i1 => finPW (ok_id (by omega)), fun i1 => ⟨fun i2 => finPW (ok_id (by omega)), fun i2 => CallH.pw (hv _) ⟨_, rfl, rfl, fun hl => CallH.pure (rul1_c b.text hf.1) ⟨_, rfl, rfl, fun ht => ⟨fun q1 => finPW (ok_yes ⟨by omega, by omega⟩ hl ?_), fun q1 => finPW (ok_kind ?_)⟩, fun ht => finPW (ok_kind ?_)⟩, fun hl => finPW (ok_lab hl)⟩⟩⟩
  ·rw [kind2 k2, ht, Bool.true_and, noRef_of q1]
  ·rw [kind2 k2, noRef_no q1, Bool.and_false]
  ·rw [kind2 k2, ht, Bool.false_and]
 ·have fail : ¬ (1 ≤ b.story ∧ b.story ≤ 64 ∧ 1 ≤ b.ref ∧ b.ref ≤ 1000) → (Value.bool false) = .bool b.ok := fun hn => ok_kind (by rw [kind3 k3, decide_eq_false hn, Bool.and_false])
  refine ⟨fun i1 => finPW (ok_id (by omega)), fun i1 => ⟨fun i2 => finPW (ok_id (by omega)), fun i2 => CallH.pw (hv _) ⟨_, rfl, rfl, fun hl => CallH.pure (isText_c b.text hf.1) ⟨_, rfl, rfl, fun ht => ?_, fun ht => finPW (ok_kind ?_)⟩, fun hl => finPW (ok_lab hl)⟩⟩⟩
  ·refine ⟨fun q1 => ⟨fun q2 => ⟨fun q3 => finPW (ok_yes ⟨by omega, by omega⟩ hl ?_), fun q3 => finPW (fail (by omega))⟩, fun q2 => finPW (fail (by omega))⟩, fun q1 => finPW (fail (by omega))⟩
   rw [kind3 k3, ht, Bool.true_and, quote_of q1 q2 q3]
  ·rw [kind3 k3, ht, Bool.false_and]
 ·refine ⟨fun i1 => finPW (ok_id (by omega)), fun i1 => ⟨fun i2 => finPW (ok_id (by omega)), fun i2 => CallH.pw (hv _) ⟨_, rfl, rfl, fun hl => CallH.pure (rul1_c b.text hf.1) ⟨_, rfl, rfl, fun ht => ⟨fun q1 => finPW (ok_yes ⟨by omega, by omega⟩ hl ?_), fun q1 => finPW (ok_kind ?_)⟩, fun ht => finPW (ok_kind ?_)⟩, fun hl => finPW (ok_lab hl)⟩⟩⟩
  ·rw [kind4 k4, ht, Bool.true_and, noRef_of q1]
  ·rw [kind4 k4, noRef_no q1, Bool.and_false]
  ·rw [kind4 k4, ht, Bool.false_and]
 ·refine ⟨fun i1 => finPW (ok_id (by omega)), fun i1 => ⟨fun i2 => finPW (ok_id (by omega)), fun i2 => CallH.pw (hv _) ⟨_, rfl, rfl, fun hl => CallH.pure (isName_c b.text hf.1) ⟨_, rfl, rfl, fun ht => ⟨fun q1 => finPW (ok_yes ⟨by omega, by omega⟩ hl ?_), fun q1 => finPW (ok_kind ?_)⟩, fun ht => finPW (ok_kind ?_)⟩, fun hl => finPW (ok_lab hl)⟩⟩⟩
  ·rw [kind5 k5, ht, Bool.true_and, noRef_of q1]
  ·rw [kind5 k5, noRef_no q1, Bool.and_false]
  ·rw [kind5 k5, ht, Bool.false_and]
def dupGo (l : List Blk) (b : Blk) (k : Nat) : Bool := (l.drop k).all fun e => decide (e.id ≠ b.id)
theorem dup_step {l : List Blk} {b : Blk} {k : Nat} (h : k < l.length) : dupGo l b k = (decide (l[k].id ≠ b.id) && dupGo l b (k + 1)) := by
 unfold dupGo
 rw [List.drop_eq_getElem_cons h, List.all_cons]
theorem dup_end {l : List Blk} {b : Blk} {k : Nat} (h : l.length ≤ k) : dupGo l b k = true := by
 unfold dupGo; rw [List.drop_of_length_le h]; rfl
def okGo (l : List Blk) (i : Nat) : Bool := listGo (l.take i) (l.drop i)
theorem okGo_step {l : List Blk} {i : Nat} (h : i < l.length) : okGo l i = (l[i].ok && (dupGo (l.take i) l[i] 0 && okGo l (i + 1))) := by
 unfold okGo dupGo
 rw [List.drop_eq_getElem_cons h, listGo, List.drop_zero]
 congr 2
 rw [List.take_add_one, List.getElem?_eq_getElem h]; rfl
theorem okGo_end {l : List Blk} {i : Nat} (h : l.length ≤ i) : okGo l i = true := by
 unfold okGo; rw [List.drop_of_length_le h]; rfl
theorem validL_loop {w0 : World} {p : OA} {c mb : Nat} {R : Ending → World → Prop} {l : List Blk} (hl : BlksL (lkW w0) p l) (hn : l.length ≤ 24) (hc : l.length ≤ c) (HR : ∀ L v, Fin R [] [] w0 v → Fin R L [] w0 v) :
  ∀ (g i : Nat), g + i = l.length → Fin R [] [] w0 (.bool (okGo l i)) → validL_c0 mb p l.length c p l.length c (l.length : Int) (i : Int) w0 R
 | 0, i, hg, H => by
  apply validL_c0_vc
  refine no (by omega) (HR _ _ (finEq H ?_))
  rw [okGo_end (by omega)]
 | g + 1, i, hg, H => by
  apply validL_c0_vc
  have hi : i < l.length := by omega
  obtain ⟨B1, o1, c1, rfl, e2, e3, p6, c6, e4, e5, e6⟩ := hl.get hi
  rw [okGo_step hi] at H
  refine yes (by omega) ⟨B1, o1, rfl, by omega, c1, l[i].id, l[i].kind, l[i].text, l[i].story, l[i].ref, l[i].lab.unt, p6, l[i].lab.after.length, c6, l[i].lab.appr, l[i].lab.den, e2, ⟨by simpa using e4, by simpa using e3⟩, fun B2 => ?_⟩
  refine CallH.pw (fun W' hm' => follows_c (e5.mono (lkW_kept hm')) e6 (hm'.here (mb, rulesObj) (by simp))) ⟨_, rfl, rfl, fun hok => ⟨by omega, ?_⟩, fun hok => HR _ _ (finEq H ?_)⟩
  ·rw [hok, Bool.true_and] at H
   rw [Int.toNat_natCast]
   have inner : ∀ (q k : Nat), q + k = i → Fin R [] [] w0 (.bool (dupGo (l.take i) l[i] k && okGo l (i + 1))) →
     validL_c1 mb B2 (some ⟨B1, o1, none⟩) l.length c (some ⟨B1, o1, none⟩) l.length c (l.length : Int) (i : Int) (some ⟨B1, o1, none⟩) i c (i : Int) (k : Int) l[i].id l[i].kind l[i].text l[i].story l[i].ref l[i].lab.unt p6 l[i].lab.after.length c6 l[i].lab.appr l[i].lab.den w0 R := by
    intro q
    induction q with
    | zero =>
     intro k hk HH
     apply validL_c1_vc
     refine no (by omega) ?_
     rw [wi64 (by omega), show (i : Int) + 1 = ((i + 1 : Nat) : Int) by omega]
     refine validL_loop hl hn hc HR g (i + 1) (by omega) (finEq HH ?_)
     rw [dup_end (by rw [List.length_take]; omega), Bool.true_and]
    | succ q ih =>
     intro k hk HH
     apply validL_c1_vc
     have hk1 : k < l.length := by omega
     have hk2 : k < (l.take i).length := by rw [List.length_take]; omega
     obtain ⟨B3, o3, c3, he, f2, f3, p7, c7, f4, f5, f6⟩ := hl.get hk1
     cases he
     have hget : (l.take i)[k] = l[k] := List.getElem_take
     rw [dup_step hk2, hget] at HH
     refine yes (by omega) ⟨B1, o1, rfl, by omega, c3, l[k].id, l[k].kind, l[k].text, l[k].story, l[k].ref, l[k].lab.unt, p7, l[k].lab.after.length, c7, l[k].lab.appr, l[k].lab.den, f2, ⟨by simpa using f4, by simpa using f3⟩, fun B4 => ⟨fun hd => HR _ _ (finEq HH ?_), fun hd => ?_⟩⟩
     ·rw [decide_eq_false (show ¬ l[k].id ≠ l[i].id from fun h => h hd), Bool.false_and, Bool.false_and]
     ·rw [wi64 (by omega), show (k : Int) + 1 = ((k + 1 : Nat) : Int) by omega]
      refine ih (k + 1) (by omega) (finEq HH ?_)
      rw [decide_eq_true (show l[k].id ≠ l[i].id from hd), Bool.true_and]
   exact inner i 0 (by omega) H
  ·rw [hok, Bool.false_and]
theorem validL_c {p : OA} {c : Nat} {l : List Blk} (hl : BlksL (lkW W) p l) (hc : l.length ≤ c) : PW TP 141 ⟨[.slice p l.length c]⟩ W (.bool (listOk l)) := by
 refine validL_vc p l.length c (Mem.start [] W) ⟨fun h => finPW ?_, fun h => CallH.rules fun mb => ⟨mb, rfl, rfl, validL_loop hl (by omega) hc pwLoose l.length 0 (by omega) (finPW ?_)⟩⟩
 ·rw [listOk, decide_eq_false (by omega), Bool.false_and]
 ·rw [listOk, decide_eq_true (by omega), Bool.true_and]; rfl
set_option maxRecDepth 100000
abbrev sameH0 (B : Nat) (xi xk : Int) (xt : BA) (xs xr xu : Int) (xp : OA) (xl xc : Nat) (xa xd : Int) (B1 : Nat) (yi yk : Int) (yt : BA) (ys yr yu : Int) (yp : OA) (yl yc : Nat) (ya yd : Int) : SHeap := [(B, .cells #[IV xi, IV xk, .string xt, IV xs, IV xr, IV xu, .slice xp xl xc, IV xa, IV xd] 149), (B1, .cells #[IV yi, IV yk, .string yt, IV ys, IV yr, IV yu, .slice yp yl yc, IV ya, IV yd] 149)]
theorem same_vc (xi xk : Int) (xt : BA) (xs xr xu : Int) (xp : OA) (xl xc : Nat) (xa xd yi yk : Int) (yt : BA) (ys yr yu : Int) (yp : OA) (yl yc : Nat) (ya yd : Int) (hm : Mem [] [] w0 W)
 (H :
 ∀ B B1 : Nat,
 Br (xi = yi)
 (Br (xk = yk)
 (((xt = yt) →
 Br (xs = ys)
 (Br (xr = yr)
 (CallH TP 108 ⟨[.agg #[IV xu, .slice xp xl xc, IV xa, IV xd], .agg #[IV yu, .slice yp yl yc, IV ya, IV yd]]⟩ (sameH0 B xi xk xt xs xr xu xp xl xc xa xd B1 yi yk yt ys yr yu yp yl yc ya yd) [] w0 (fun v L' => ∃ r1, v = .bool r1 ∧ L' = (sameH0 B xi xk xt xs xr xu xp xl xc xa xd B1 yi yk yt ys yr yu yp yl yc ya yd) ∧
 Fin R (sameH0 B xi xk xt xs xr xu xp xl xc xa xd B1 yi yk yt ys yr yu yp yl yc ya yd) [] w0 (.bool r1)))
 (Fin R (sameH0 B xi xk xt xs xr xu xp xl xc xa xd B1 yi yk yt ys yr yu yp yl yc ya yd) [] w0 (.bool false)))
 (Fin R (sameH0 B xi xk xt xs xr xu xp xl xc xa xd B1 yi yk yt ys yr yu yp yl yc ya yd) [] w0 (.bool false))) ∧
 ((¬ xt = yt) →
 Fin R (sameH0 B xi xk xt xs xr xu xp xl xc xa xd B1 yi yk yt ys yr yu yp yl yc ya yd) [] w0 (.bool false)))
 (Fin R (sameH0 B xi xk xt xs xr xu xp xl xc xa xd B1 yi yk yt ys yr yu yp yl yc ya yd) [] w0 (.bool false)))
 (Fin R (sameH0 B xi xk xt xs xr xu xp xl xc xa xd B1 yi yk yt ys yr yu yp yl yc ya yd) [] w0 (.bool false))) :
 Calls TP 148 ⟨[.agg #[IV xi, IV xk, .string xt, IV xs, IV xr, IV xu, .slice xp xl xc, IV xa, IV xd], .agg #[IV yi, IV yk, .string yt, IV ys, IV yr, IV yu, .slice yp yl yc, IV ya, IV yd]]⟩ W R:= by
 refine AtE.cs 45 Tryz.func148 hm (.ru 2 (.nH (.cells #[IV xi, IV xk, .string xt, IV xs, IV xr, IV xu, .slice xp xl xc, IV xa, IV xd] 149) H fun B H => (.nH (.cells #[IV yi, IV yk, .string yt, IV ys, IV yr, IV yu, .slice yp yl yc, IV ya, IV yd] 149) H fun B1 H => (.ru 5 (.ld 0 0 (.ru 1 (.ld 1 0 (.ru 2 (.sP 10 H (fun H => ?_) fun H => ?_)))))))))
 ·refine .ru 1 (.ld 0 1 (.ru 1 (.ld 1 1 (.ru 3 (.sP 17 H (fun H => ?_) fun H => ?_)))))
  ·refine .ru 1 (.ld 0 2 (.ru 1 (.ld 1 2 (.ru 3 (.splitS 24 (x := xt) (y := yt) (by kernel_rfl) (fun h3' => ?_) (fun h3' => ?_))))))
   ·replace H := H.1 h3'
    refine .ru 1 (.ld 0 3 (.ru 1 (.ld 1 3 (.ru 3 (.sP 31 H (fun H => ?_) fun H => ?_)))))
    ·refine .ru 1 (.ld 0 4 (.ru 1 (.ld 1 4 (.ru 3 (.sP 38 H (fun H => ?_) fun H => ?_)))))
     ·refine .ru 1 (.ld 0 5 (.ru 1 (.ld 1 5 (.cl H ?_))))
      rintro _ _ ⟨r1, rfl, rfl, H⟩
      refine .ru 3 (.rt Tryz.func148 H)
     ·refine .ru 8 (.rt Tryz.func148 H)
    ·refine .ru 15 (.rt Tryz.func148 H)
   ·replace H := H.2 h3'
    refine .ru 22 (.rt Tryz.func148 H)
  ·refine .ru 29 (.rt Tryz.func148 H)
 ·refine .ru 36 (.rt Tryz.func148 H)
abbrev eqBlksA0 (m_0 m_1 : Int) (m_2 : BA) (m_3 m_4 m_5 : Int) (m_6_p : OA) (m_6_l m_6_c : Nat) (m_7 m_8 : Int) : Array Value := #[IV m_0, IV m_1, .string m_2, IV m_3, IV m_4, IV m_5, .slice m_6_p m_6_l m_6_c, IV m_7, IV m_8]
abbrev eqBlksA1 (m1_0 m1_1 : Int) (m1_2 : BA) (m1_3 m1_4 m1_5 : Int) (m1_6_p : OA) (m1_6_l m1_6_c : Nat) (m1_7 m1_8 : Int) : Array Value := #[IV m1_0, IV m1_1, .string m1_2, IV m1_3, IV m1_4, IV m1_5, .slice m1_6_p m1_6_l m1_6_c, IV m1_7, IV m1_8]
def eqBlks_c0 (s21_p : OA) (s21_l s21_c : Nat) (t15_p : OA) (t15_l t15_c : Nat) (t16 t17 : Int) (w0 : World) (R : Ending → World → Prop) : Prop :=
 AtE TP 147 32 (KC Tryz.f147 116) [(1, .slice s21_p s21_l s21_c), (2, .func (.func 148) #[] #[]), (15, .slice t15_p t15_l t15_c), (16, IV t16), (17, IV t17)] [] [] w0 (nrm R)
theorem eqBlks_c0_vc (s21_p : OA) (s21_l s21_c : Nat) (t15_p : OA) (t15_l t15_c : Nat) (t16 t17 : Int)
 (H :
 Br (t17 < t16)
 (∃ t15_pb t15_po : Nat, t15_p = some ⟨t15_pb, t15_po, none⟩ ∧
 (0 ≤ t17 ∧ t17 < t15_l) ∧
 ∃ (cw : List Value) (m_0 : Int) (m_1 : Int) (m_2 : BA) (m_3 : Int) (m_4 : Int) (m_5 : Int) (m_6_p : OA) (m_6_l : Nat) (m_6_c : Nat) (m_7 : Int) (m_8 : Int), blkW w0 t15_pb = some cw ∧ ((cw.drop (t15_po + ((Int.toNat t17) * 9))).take 9 = [IV m_0, IV m_1, .string m_2, IV m_3, IV m_4, IV m_5, .slice m_6_p m_6_l m_6_c, IV m_7, IV m_8] ∧ (t15_po + ((Int.toNat t17) * 9)) + 9 ≤ cw.length) ∧
 ∀ B : Nat,
 ∃ s21_pb s21_po : Nat, s21_p = some ⟨s21_pb, s21_po, none⟩ ∧
 (0 ≤ t17 ∧ t17 < s21_l) ∧
 ∃ (cw1 : List Value) (m1_0 : Int) (m1_1 : Int) (m1_2 : BA) (m1_3 : Int) (m1_4 : Int) (m1_5 : Int) (m1_6_p : OA) (m1_6_l : Nat) (m1_6_c : Nat) (m1_7 : Int) (m1_8 : Int), blkW w0 s21_pb = some cw1 ∧ ((cw1.drop (s21_po + ((Int.toNat t17) * 9))).take 9 = [IV m1_0, IV m1_1, .string m1_2, IV m1_3, IV m1_4, IV m1_5, .slice m1_6_p m1_6_l m1_6_c, IV m1_7, IV m1_8] ∧ (s21_po + ((Int.toNat t17) * 9)) + 9 ≤ cw1.length) ∧
 ∀ B1 : Nat,
 CallH TP 148 ⟨[.agg (eqBlksA0 m_0 m_1 m_2 m_3 m_4 m_5 m_6_p m_6_l m_6_c m_7 m_8), .agg (eqBlksA1 m1_0 m1_1 m1_2 m1_3 m1_4 m1_5 m1_6_p m1_6_l m1_6_c m1_7 m1_8)]⟩ [(B, .cells (eqBlksA0 m_0 m_1 m_2 m_3 m_4 m_5 m_6_p m_6_l m_6_c m_7 m_8) 149), (B1, .cells (eqBlksA1 m1_0 m1_1 m1_2 m1_3 m1_4 m1_5 m1_6_p m1_6_l m1_6_c m1_7 m1_8) 149)] [] w0 (fun v L' => ∃ r1, v = .bool r1 ∧ L' = [(B, .cells (eqBlksA0 m_0 m_1 m_2 m_3 m_4 m_5 m_6_p m_6_l m_6_c m_7 m_8) 149), (B1, .cells (eqBlksA1 m1_0 m1_1 m1_2 m1_3 m1_4 m1_5 m1_6_p m1_6_l m1_6_c m1_7 m1_8) 149)] ∧
 Bb (r1)
 (eqBlks_c0 (some ⟨s21_pb, s21_po, none⟩) s21_l s21_c (some ⟨t15_pb, t15_po, none⟩) t15_l t15_c t16 (IntKind.i64.wrap (t17 + (1 : Int))) w0 R)
 (Fin R [(B, .cells (eqBlksA0 m_0 m_1 m_2 m_3 m_4 m_5 m_6_p m_6_l m_6_c m_7 m_8) 149), (B1, .cells (eqBlksA1 m1_0 m1_1 m1_2 m1_3 m1_4 m1_5 m1_6_p m1_6_l m1_6_c m1_7 m1_8) 149)] [] w0 (.bool false))))
 (Fin R [] [] w0 (.bool true))) :
 eqBlks_c0 s21_p s21_l s21_c t15_p t15_l t15_c t16 t17 w0 R:= by
 unfold eqBlks_c0
 refine .ru 5 (.sP 18 H ?_ ?_) <;> clear H <;> intro H
 ·refine .ru 7 ?_
  obtain ⟨t15_pb, t15_po, rfl, H⟩ := H
  refine .indexAddrL (E := 149) (b := t15_pb) (o := t15_po) (len := t15_l) (cap := t15_c) (sz := 9) (o' := (t15_po + ((Int.toNat t17) * 9))) (kd := .i64) (i := t17) (by kernel_rfl) H.1 (by omega) ?_
  replace H := H.2
  obtain ⟨cw, m_0, m_1, m_2, m_3, m_4, m_5, m_6_p, m_6_l, m_6_c, m_7, m_8, hw, hx, H⟩ := H
  refine .loadW (b := t15_pb) (off := (t15_po + ((Int.toNat t17) * 9))) (T := 149) (v := .agg (eqBlksA0 m_0 m_1 m_2 m_3 m_4 m_5 m_6_p m_6_l m_6_c m_7 m_8)) (by kernel_rfl) List.not_mem_nil hw (valAt_agg hx.1 hx.2 (by kernel_rfl) (by kernel_rfl)) (.np (.cells #[IV 0, IV 0, .string (⟨#[]⟩), IV 0, IV 0, IV 0, .slice none 0 0, IV 0, IV 0] 149) fun B => ?_)
  replace H := H B
  refine .ru 1 (.st 0 0 (.ru 5 ?_))
  obtain ⟨s21_pb, s21_po, rfl, H⟩ := H
  refine .indexAddrL (E := 149) (b := s21_pb) (o := s21_po) (len := s21_l) (cap := s21_c) (sz := 9) (o' := (s21_po + ((Int.toNat t17) * 9))) (kd := .i64) (i := t17) (by kernel_rfl) H.1 (by omega) ?_
  replace H := H.2
  obtain ⟨cw1, m1_0, m1_1, m1_2, m1_3, m1_4, m1_5, m1_6_p, m1_6_l, m1_6_c, m1_7, m1_8, hw, hx, H⟩ := H
  refine .loadW (b := s21_pb) (off := (s21_po + ((Int.toNat t17) * 9))) (T := 149) (v := .agg (eqBlksA1 m1_0 m1_1 m1_2 m1_3 m1_4 m1_5 m1_6_p m1_6_l m1_6_c m1_7 m1_8)) (by kernel_rfl) List.not_mem_nil hw (valAt_agg hx.1 hx.2 (by kernel_rfl) (by kernel_rfl)) (.np (.cells #[IV 0, IV 0, .string (⟨#[]⟩), IV 0, IV 0, IV 0, .slice none 0 0, IV 0, IV 0] 149) fun B1 => ?_)
  replace H := H B1
  refine .st 1 0 (.ru 4 (.ld 0 0 (.ld 1 0 (.cl H ?_))))
  clear H
  rintro _ _ ⟨r1, rfl, rfl, H⟩
  refine .sB 29 H ?_ ?_ <;> clear H <;> intro H
  ·refine .ru 10 (.ct [] H)
  ·refine .ru 7 (.rt Tryz.func147 H)
 ·refine .ru 6 (.rt Tryz.func147 H)
theorem eqBlks_vc (s1_p : OA) (s1_l s1_c : Nat) (s2_p : OA) (s2_l s2_c : Nat) (hm : Mem [] [] w0 W)
 (H :
 Bn ((s1_l : Int) = (s2_l : Int))
 (Fin R [] [] w0 (.bool false))
 (eqBlks_c0 s2_p s2_l s2_c s1_p s1_l s1_c (s1_l : Int) (0 : Int) w0 R)) :
 Calls TP 147 ⟨[.slice s1_p s1_l s1_c, .slice s2_p s2_l s2_c, .func (.func 148) #[] #[]]⟩ W R:= by
 refine AtE.cs 32 Tryz.func147 hm (.ru 13 (.sN 14 H (fun H => ?_) fun H => ?_))
 ·refine .ru 5 (.rt Tryz.func147 H)
 ·refine .ru 11 (.ct [] H)
theorem sameL_vc (a_p : OA) (a_l a_c : Nat) (b_p : OA) (b_l b_c : Nat) (hm : Mem [] [] w0 W)
 (H :
 CallH TP 147 ⟨[.slice a_p a_l a_c, .slice b_p b_l b_c, .func (.func 148) #[] #[]]⟩ [] [] w0 (fun v L' => ∃ r1, v = .bool r1 ∧ L' = [] ∧
 Fin R [] [] w0 (.bool r1))) :
 Calls TP 107 ⟨[.slice a_p a_l a_c, .slice b_p b_l b_c]⟩ W R:= by
 refine AtE.cs 8 Tryz.func107 hm (.ru 8 (.cl H ?_))
 rintro _ _ ⟨r1, rfl, rfl, H⟩
 refine .ru 2 (.rt Tryz.func107 H)
theorem QCall.pw {L : SHeap} {v : Value} (h : ∀ W, Mem L S w0 W → PW P g args W v) : QCall P g args L S w0 v :=
 fun W hm => (h W hm).mono fun _ _ hh => ⟨hh.1, hm.after hh.2⟩
theorem QCallB.pw {L : SHeap} {v : Value} (h : ∀ W, Mem L S w0 W → PW P g args W v) : QCallB P g args L S w0 v := h
theorem Blk.ext' {x y : Blk} : x = y ↔ x.id = y.id ∧ x.kind = y.kind ∧ x.text = y.text ∧ x.story = y.story ∧ x.ref = y.ref ∧ x.lab = y.lab := by
 cases x; cases y; simp
theorem Blk.ne {x y : Blk} (h : ¬ (x.id = y.id ∧ x.kind = y.kind ∧ x.text = y.text ∧ x.story = y.story ∧ x.ref = y.ref ∧ x.lab = y.lab)) : (Value.bool false) = .bool (decide (x = y)) := by
 rw [decide_eq_false (fun e => h (Blk.ext'.1 e))]
theorem Blk.eqLab {x y : Blk} (h1 : x.id = y.id) (h2 : x.kind = y.kind) (h3 : x.text = y.text) (h4 : x.story = y.story) (h5 : x.ref = y.ref) : decide (x.lab = y.lab) = decide (x = y) := by
 simp only [Blk.ext', h1, h2, h3, h4, h5, true_and]
theorem same_c {p q : OA} {c d : Nat} {x y : Blk} (hx : IntsL (lkW W) p x.lab.after) (hy : IntsL (lkW W) q y.lab.after) (hf : x.Fits) :
  PW TP 148 ⟨[.agg ⟨x.cells p c⟩, .agg ⟨y.cells q d⟩]⟩ W (.bool (decide (x = y))) := by
 refine same_vc x.id x.kind x.text x.story x.ref x.lab.unt p x.lab.after.length c x.lab.appr x.lab.den y.id y.kind y.text y.story y.ref y.lab.unt q y.lab.after.length d y.lab.appr y.lab.den (Mem.start [] W) fun B B1 => ?_
 refine ⟨fun h1 => ⟨fun h2 => ⟨fun h3 => ⟨fun h4 => ⟨fun h5 => ?_, fun h5 => finPW (Blk.ne fun h => h5 h.2.2.2.2.1)⟩, fun h4 => finPW (Blk.ne fun h => h4 h.2.2.2.1)⟩, fun h3 => finPW (Blk.ne fun h => h3 h.2.2.1)⟩, fun h2 => finPW (Blk.ne fun h => h2 h.2.1)⟩, fun h1 => finPW (Blk.ne fun h => h1 h.1)⟩
 exact CallH.pw (fun W' hm' => labSame_c (hx.mono (lkW_kept hm')) (hy.mono (lkW_kept hm')) hf.2) ⟨_, rfl, rfl, finPW (by rw [Blk.eqLab h1 h2 h3 h4 h5])⟩
theorem eqBlks_loop {w0 : World} {p q : OA} {cp cq : Nat} {R : Ending → World → Prop} {a b : List Blk} (ha : BlksL (lkW w0) p a) (hb : BlksL (lkW w0) q b) (hl : a.length = b.length) (hm : a.length ≤ 9223372036854775807) (HR : ∀ L v, Fin R [] [] w0 v → Fin R L [] w0 v) :
  ∀ (g i : Nat), g + i = a.length → Fin R [] [] w0 (.bool (decide (a.drop i = b.drop i))) → eqBlks_c0 q b.length cq p a.length cp (a.length : Int) (i : Int) w0 R
 | 0, i, hg, H => by
  apply eqBlks_c0_vc
  refine no (by omega) (finEq H ?_)
  rw [List.drop_of_length_le (by omega), List.drop_of_length_le (by omega)]
  simp
 | g + 1, i, hg, H => by
  apply eqBlks_c0_vc
  have h1 : i < a.length := by omega
  have h2 : i < b.length := by omega
  obtain ⟨B1, o1, c1, rfl, e2, e3, p6, c6, e4, e5, e6⟩ := ha.get h1
  obtain ⟨B2, o2, c2, rfl, f2, f3, p7, c7, f4, f5, f6⟩ := hb.get h2
  simp only [drop_eq h1 h2] at H
  refine yes (by omega) ⟨B1, o1, rfl, by omega, c1, a[i].id, a[i].kind, a[i].text, a[i].story, a[i].ref, a[i].lab.unt, p6, a[i].lab.after.length, c6, a[i].lab.appr, a[i].lab.den, e2, ⟨by simpa using e4, by simpa using e3⟩, fun B3 =>
   ⟨B2, o2, rfl, by omega, c2, b[i].id, b[i].kind, b[i].text, b[i].story, b[i].ref, b[i].lab.unt, p7, b[i].lab.after.length, c7, b[i].lab.appr, b[i].lab.den, f2, ⟨by simpa using f4, by simpa using f3⟩, fun B4 => ?_⟩⟩
  refine CallH.pw (fun W' hm' => same_c (e5.mono (lkW_kept hm')) (f5.mono (lkW_kept hm')) e6) ⟨_, rfl, rfl, fun h => ?_, fun h => HR _ _ (finEq H ?_)⟩
  ·have h := of_decide_eq_true h
   rw [wi64 (by omega), show (i : Int) + 1 = ((i + 1 : Nat) : Int) by omega]
   refine eqBlks_loop ha hb hl hm HR g (i + 1) (by omega) (finEq H ?_)
   simp [h]
  ·have h := of_decide_eq_false h
   simp [h]
theorem sameL_c {p q : OA} {cp cq : Nat} {a b : List Blk} (ha : BlksL (lkW W) p a) (hb : BlksL (lkW W) q b) (hm : a.length ≤ 9223372036854775807) :
  PW TP 107 ⟨[.slice p a.length cp, .slice q b.length cq]⟩ W (.bool (decide (a = b))) := by
 refine sameL_vc p a.length cp q b.length cq (Mem.start [] W) (CallH.pw (v := .bool (decide (a = b))) (fun W' hm' => ?_) ⟨_, rfl, rfl, finPW rfl⟩)
 have ha := ha.mono (lkW_kept hm')
 have hb := hb.mono (lkW_kept hm')
 refine eqBlks_vc p a.length cp q b.length cq (Mem.start [] W') ⟨fun h => finPW ?_, fun h => eqBlks_loop ha hb (by omega) hm pwLoose a.length 0 (by omega) (finPW ?_)⟩
 ·rw [decide_eq_false]
  intro hab; subst hab; exact h rfl
 ·simp
set_option maxRecDepth 100000
abbrev yB7aa (x0 : Nat) : SHeap := [(x0, .cells #[PP x0, .slice none 0 0] 103)]
abbrev yB7ab (x0 : Nat) : SHeap := [(x0, .cells #[.pointer none, .slice none 0 0] 103)]
theorem ws0_vc (B : Nat) (s : BA) (hm : Mem (yB7ab B) S w0 W)
 (H :
 (s.size ≤ 9223372036854775807 ∧ s.size * 1 ≤ 140737488355328) ∧ ((s.size = 0 →
 ∀ t4 : Int, t4 = (s.size : Int) →
 Fin R (yB7aa B) S w0 (.tuple #[IV t4, .nilIface])) ∧
 (0 < s.size → ∀ (B1 cap : Nat) (r2 : List Value), s.size ≤ cap → ((bytesL s.data.toList) ++ r2).length = cap * 1 →
 ∀ t41 : Int, t41 = (s.size : Int) →
 Fin R [(B, .cells #[PP B, .slice (SO B1) s.size cap] 103), (B1, .cells ⟨((bytesL s.data.toList) ++ r2)⟩ 5)] S w0 (.tuple #[IV t41, .nilIface])))) :
 Calls TP 109 ⟨[PP B, .string s]⟩ W R:= by
 refine AtE.cs 19 Tryz.func109 hm (.ru 8 (.il 150 [PP B] 20 Tryz.func150 (.ru 5 (.ld 0 0 (.ru 6 (.ptrConv 0 (t := 103) (B := B) (off := 0) (c := ([.pointer none, .slice none 0 0] : List Value)) (E := 103) (fz := (0, 0)) (sz := 1) (by kernel_rfl) (by simp) (.ru 1 (.ptrBack 0 (u := 103) (B := B) (off := 0) (n := 2) (c := ([.pointer none, .slice none 0 0] : List Value)) (E := 103) (fz := (0, 0)) (by kernel_rfl) rfl (.ru 2 (.store 0 0 (T := 101) (v := PP B) (by kernel_rfl) (.ru 1 (.rk Tryz.func150 (.ru 7 (.ld 0 1 (.ru 1 (.appendS (T := 47) (U := 9) (E := 5) (z := .int .u8 0) (sz := 1) (bytes := 1) (x := .string s) s.size (bytesL s.data.toList) (by kernel_rfl) (srcStr (by kernel_rfl) _) H.1 (fun h0 => ?_) (fun h0 B1 cap r2 h1 h2 => ?_)))))))))))))))))
 ·replace H := H.2.1 h0
  refine .ru 2 (.store 0 1 (T := 47) (v := .slice none 0 0) (by kernel_rfl) (.ru 6 (.lI 4 H fun t4 H => (.ru 2 (.rt Tryz.func109 H)))))
 ·skip
  replace H := H.2.2 h0 B1 cap r2 h1 h2
  refine .ru 2 (.store 0 1 (T := 47) (v := .slice (SO B1) s.size cap) (by kernel_rfl) (.ru 6 (.lI 4 H fun t41 H => (.ru 2 (.rt Tryz.func109 H)))))
theorem ws1_vc (B : Nat) (s : BA) (hm : Mem (yB7aa B) S w0 W)
 (H :
 (s.size ≤ 9223372036854775807 ∧ s.size * 1 ≤ 140737488355328) ∧ ((s.size = 0 →
 ∀ t4 : Int, t4 = (s.size : Int) →
 Fin R (yB7aa B) S w0 (.tuple #[IV t4, .nilIface])) ∧
 (0 < s.size → ∀ (B1 cap : Nat) (r : List Value), s.size ≤ cap → ((bytesL s.data.toList) ++ r).length = cap * 1 →
 ∀ t41 : Int, t41 = (s.size : Int) →
 Fin R [(B, .cells #[PP B, .slice (SO B1) s.size cap] 103), (B1, .cells ⟨((bytesL s.data.toList) ++ r)⟩ 5)] S w0 (.tuple #[IV t41, .nilIface])))) :
 Calls TP 109 ⟨[PP B, .string s]⟩ W R:= by
 refine AtE.cs 19 Tryz.func109 hm (.ru 8 (.il 150 [PP B] 20 Tryz.func150 (.ru 5 (.ld 0 0 (.ru 8 (.ld 0 0 (.ru 1 (.neqSame (T := 101) (E := 103) (a := ⟨B, 0, none⟩) (by kernel_rfl) (.ru 3 (.rk Tryz.func150 (.ru 7 (.ld 0 1 (.ru 1 (.appendS (T := 47) (U := 9) (E := 5) (z := .int .u8 0) (sz := 1) (bytes := 1) (x := .string s) s.size (bytesL s.data.toList) (by kernel_rfl) (srcStr (by kernel_rfl) _) H.1 (fun h0 => ?_) (fun h0 B1 cap r h1 h2 => ?_)))))))))))))))
 ·replace H := H.2.1 h0
  refine .ru 2 (.store 0 1 (T := 47) (v := .slice none 0 0) (by kernel_rfl) (.ru 6 (.lI 4 H fun t4 H => (.ru 2 (.rt Tryz.func109 H)))))
 ·skip
  replace H := H.2.2 h0 B1 cap r h1 h2
  refine .ru 2 (.store 0 1 (T := 47) (v := .slice (SO B1) s.size cap) (by kernel_rfl) (.ru 6 (.lI 4 H fun t41 H => (.ru 2 (.rt Tryz.func109 H)))))
theorem ws2_vc (B : Nat) (s : BA) (Q n cap : Nat) (cs : List Value) (hm : Mem [(B, .cells #[PP B, .slice (SO Q) n (cap + 1)] 103), (Q, .cells ⟨cs⟩ 5)] S w0 W)
 (H :
 (n ≤ (cap + 1) ∧ (cs).length = (cap + 1) * 1) ∧ ((n + s.size) ≤ 9223372036854775807 ∧ (n + s.size) * 1 ≤ 140737488355328) ∧
 ∀ (B1 cap1 : Nat) (r : List Value), (n + s.size) ≤ cap1 → ((cs).take (n * 1) ++ (bytesL s.data.toList) ++ r).length = cap1 * 1 →
 ∀ t4 : Int, t4 = (s.size : Int) →
 Fin R [(B, .cells #[PP B, .slice (SO B1) (n + s.size) cap1] 103), (B1, .cells ⟨((cs).take (n * 1) ++ (bytesL s.data.toList) ++ r)⟩ 5)] S w0 (.tuple #[IV t4, .nilIface])) :
 Calls TP 109 ⟨[PP B, .string s]⟩ W R:= by
 refine AtE.cs 19 Tryz.func109 hm (.ru 8 (.il 150 [PP B] 20 Tryz.func150 (.ru 5 (.ld 0 0 (.ru 8 (.ld 0 0 (.ru 1 (.neqSame (T := 101) (E := 103) (a := ⟨B, 0, none⟩) (by kernel_rfl) (.ru 3 (.rk Tryz.func150 (.ru 7 (.ld 0 1 (.ru 1 (.appendOS 1 (T := 47) (U := 9) (E := 5) (z := .int .u8 0) (sz := 1) (bytes := 1) (len := n) (cap := (cap + 1)) (x := .string s) (cs := cs) s.size (bytesL s.data.toList) (by kernel_rfl) (srcStr (by kernel_rfl) _) H.1 H.2.1 (fun B1 cap1 r h1 h2 => ?_)))))))))))))))
 replace H := H.2.2 B1 cap1 r h1 h2
 refine .ru 2 (.store 0 1 (T := 47) (v := .slice (SO B1) (n + s.size) cap1) (by kernel_rfl) (.ru 6 (.lI 4 H fun t4 H => (.ru 2 (.rt Tryz.func109 H)))))
theorem bs0_vc (B : Nat) (hm : Mem (yB7ab B) S w0 W)
 (H :
 Fin R (yB7ab B) S w0 (.string (⟨#[]⟩))) :
 Calls TP 60 ⟨[PP B]⟩ W R:= by
 refine AtE.cs 14 Tryz.func60 hm (.ru 5 (.nm (KC Tryz.f60 6) [(0, PP B)] (yB7ab B) (.dr 10 (.pu (.pu (.pu (.ld 0 1 (.pu (.pu (.pu (.pu (.ld 0 1 (.pu (.dn (.ru 3 (.rt Tryz.func60 H))))))))))))))))
theorem bs1_vc (B : Nat) (hm : Mem (yB7aa B) S w0 W)
 (H :
 Fin R (yB7aa B) S w0 (.string (⟨#[]⟩))) :
 Calls TP 60 ⟨[PP B]⟩ W R:= by
 refine AtE.cs 14 Tryz.func60 hm (.ru 5 (.nm (KC Tryz.f60 6) [(0, PP B)] (yB7aa B) (.dr 10 (.pu (.pu (.pu (.ld 0 1 (.pu (.pu (.pu (.pu (.ld 0 1 (.pu (.dn (.ru 3 (.rt Tryz.func60 H))))))))))))))))
theorem bs2_vc (B Q n cap : Nat) (cs : List Value) (hm : Mem [(B, .cells #[PP B, .slice (SO Q) n (cap + 1)] 103), (Q, .cells ⟨cs⟩ 5)] S w0 W)
 (H :
 ∃ bs : List UInt8, ((cs).take n = bytesL bs ∧ bs.length = n ∧ 0 < n ∧ n ≤ 9223372036854775807) ∧
 ∀ t2 : BA, t2 = ⟨bs.toArray⟩ →
 Fin R [(B, .cells #[PP B, .slice (SO Q) n (cap + 1)] 103)] S w0 (.string t2)) :
 Calls TP 60 ⟨[PP B]⟩ W R:= by
 refine AtE.cs 14 Tryz.func60 hm (.ru 5 (.nm (KC Tryz.f60 6) [(0, PP B)] [(B, .cells #[PP B, .slice (SO Q) n (cap + 1)] 103), (Q, .cells ⟨cs⟩ 5)] (.dr 10 (.pu (.pu (.pu (.ld 0 1 (.pu (.pu (.pu (.pu (.ld 0 1 (.pu (.dn ?_))))))))))))))
 obtain ⟨bs, hb, H⟩ := H
 refine .unsafeStr 1 (B := Q) (E := 5) (pt := 158) (it := 3) (n := n) (c := cs) (l := bs) (by kernel_rfl) hb (.ru 1 (.letS 2 (n := ⟨bs.toArray⟩) (by kernel_rfl) (fun t2 ht2 => ?_)))
 replace H := H t2 ht2
 refine .ru 1 (.rt Tryz.func60 H)
theorem dkFin {L : SHeap} {v : Value} (h : K v L) : Fin (fun e W' => ∃ v L', e = .returned v ∧ Mem L' S W W' ∧ K v L') L S W v :=
 fun _ hm => ⟨v, L, rfl, hm, h⟩
def EffW (P : Program) (g : FuncId) (args : Array Value) (L0 : SHeap) (Pre : World → Prop) (K : Value → SHeap → Prop) : Prop :=
 ∀ W, Mem L0 (L0.map (·.1)) W W → Pre W → Calls P g args W fun e W' => ∃ v L', e = .returned v ∧ Mem L' (L0.map (·.1)) W W' ∧ K v L'
theorem CallH.effW {L : SHeap} {L0 L1 : SHeap} {Pre : World → Prop} (h : EffW P g args L0 Pre K) (hpre : ∀ W, Mem L S w0 W → Pre W) (hp : (L0 ++ L1).Perm L)
  (hK : ∀ v L', K v L' → ∃ L2, (L' ++ L1).Perm L2 ∧ K' v L2) : CallH P g args L S w0 K' := by
 intro W hm
 have h2 : EffC P g args L0 K → CallH P g args L S w0 K' := fun h => CallH.eff h hp hK
 have hm' : Mem (L0 ++ L1) S w0 W := hm.perm hp
 have hnd := hm'.nodup
 rw [List.map_append, List.nodup_append] at hnd
 obtain ⟨n0, n1, nd⟩ := hnd
 refine (h W ⟨n0, fun p hp => hm'.here p (List.mem_append_left _ hp), fun p hp => .inr (List.mem_map_of_mem hp), Kept.refl _ W⟩ (hpre W hm)).mono ?_
 rintro e W' ⟨v, L', rfl, hL, hk⟩
 obtain ⟨L2, hp2, hk2⟩ := hK v L' hk
 refine ⟨v, L2, rfl, Mem.perm (L := L' ++ L1) ⟨?_, ?_, ?_, ?_⟩ hp2.symm, hk2⟩
 ·rw [List.map_append, List.nodup_append]
  refine ⟨hL.nodup, n1, ?_⟩
  intro a ha b hb hab
  subst hab
  obtain ⟨p, hp, rfl⟩ := List.mem_map.1 ha
  obtain ⟨q, hq, hqe⟩ := List.mem_map.1 hb
  rcases hL.own p hp with h1 | h1
  ·have := hm'.lt (List.mem_append_right L0 hq)
   omega
  ·exact nd _ h1 _ hb rfl
 ·intro p hp
  rcases List.mem_append.1 hp with hp | hp
  ·exact hL.here p hp
  ·rw [hL.kept.block p.1 (hm'.lt (List.mem_append_right _ hp)) (fun h0 => nd _ h0 _ (List.mem_map_of_mem hp) rfl)]
   exact hm'.here p (List.mem_append_right _ hp)
 ·intro p hp
  rcases List.mem_append.1 hp with hp | hp
  ·rcases hL.own p hp with h1 | h1
   ·exact .inl (Nat.le_trans hm'.kept.size h1)
   ·obtain ⟨q, hq, hqe⟩ := List.mem_map.1 h1
    have := hm'.own q (List.mem_append_left _ hq)
    rw [hqe] at this; exact this
  ·exact hm'.own p (List.mem_append_right _ hp)
 ·refine ⟨hL.kept.os.trans hm'.kept.os, hL.kept.tape.trans hm'.kept.tape, hL.kept.output.trans hm'.kept.output, Nat.le_trans hm'.kept.size hL.kept.size, fun i hi hs => ?_⟩
  rw [hL.kept.block i (Nat.lt_of_lt_of_le hi hm'.kept.size) (fun h0 => ?_)]
  ·exact hm'.kept.block i hi hs
  ·obtain ⟨q, hq, hqe⟩ := List.mem_map.1 h0
   rcases hm'.own q (List.mem_append_left _ hq) with h1 | h1
   ·rw [hqe] at h1; omega
   ·rw [hqe] at h1; exact hs h1
abbrev bHdr (B : Nat) (p : Value) (v : Value) : Nat × Obj := (B, .cells #[p, v] 103)
def BRep (B : Nat) (s : List UInt8) (F : SHeap) : Prop :=
 (s = [] ∧ F = [bHdr B (.pointer none) (.slice none 0 0)]) ∨ (s = [] ∧ F = [bHdr B (.pointer (SO B)) (.slice none 0 0)]) ∨
 ∃ (Q cap : Nat) (cs : List Value), 0 < s.length ∧ s.length ≤ cap + 1 ∧ cs.length = (cap + 1) * 1 ∧ cs.take s.length = bytesL s ∧
  F = [bHdr B (.pointer (SO B)) (.slice (SO Q) s.length (cap + 1)), (Q, .cells ⟨cs⟩ 5)]
theorem BRep.new (B : Nat) : BRep B [] [bHdr B (.pointer none) (.slice none 0 0)] := .inl ⟨rfl, rfl⟩
theorem BRep.row {B Q cap : Nat} {s : List UInt8} {cs : List Value} (h0 : 0 < s.length) (h1 : s.length ≤ cap) (h2 : cs.length = cap * 1) (h3 : cs.take s.length = bytesL s) :
  BRep B s [bHdr B (.pointer (SO B)) (.slice (SO Q) s.length cap), (Q, .cells ⟨cs⟩ 5)] := by
 obtain ⟨c, rfl⟩ : ∃ c, cap = c + 1 := ⟨cap - 1, by omega⟩
 exact .inr (.inr ⟨Q, c, cs, h0, h1, h2, h3, rfl⟩)
theorem take_bytes (l : List UInt8) (r : List Value) : (bytesL l ++ r).take l.length = bytesL l := by
 rw [List.take_append_of_le_length (by rw [bytesL_len]; exact Nat.le_refl _), List.take_of_length_le (by rw [bytesL_len]; exact Nat.le_refl _)]
theorem write_e {B : Nat} {l : List UInt8} {s : BA} {F : SHeap} (h : BRep B l F) (hb : l.length + s.size ≤ 140737488355328) :
  EffC TP 109 ⟨[.pointer (SO B), .string s]⟩ F (fun v F' => v = .tuple #[.int .i64 (s.size : Int), .nilIface] ∧ BRep B (l ++ bts s) F') := by
 intro W hm
 have hbl : (bts s).length = s.size := bts_len s
 rcases h with ⟨rfl, rfl⟩ | ⟨rfl, rfl⟩ | ⟨Q, cap, cs, h0, h1, h2, h3, rfl⟩
 ·simp only [List.length_nil, Nat.zero_add] at hb
  refine ws0_vc B s hm ⟨by omega, fun hz => ?_, fun hp B1 cap r h1 h2 => ?_⟩
  ·rintro _ rfl
   exact dkFin ⟨rfl, .inr (.inl ⟨by rw [List.nil_append]; exact List.length_eq_zero_iff.1 (by omega), rfl⟩)⟩
  ·rintro _ rfl
   refine dkFin ⟨rfl, ?_⟩
   rw [List.nil_append, ← hbl]
   exact BRep.row (by omega) (by omega) h2 (take_bytes _ _)
 ·simp only [List.length_nil, Nat.zero_add] at hb
  refine ws1_vc B s hm ⟨by omega, fun hz => ?_, fun hp B1 cap r h1 h2 => ?_⟩
  ·rintro _ rfl
   exact dkFin ⟨rfl, .inr (.inl ⟨by rw [List.nil_append]; exact List.length_eq_zero_iff.1 (by omega), rfl⟩)⟩
  ·rintro _ rfl
   refine dkFin ⟨rfl, ?_⟩
   rw [List.nil_append, ← hbl]
   exact BRep.row (by omega) (by omega) h2 (take_bytes _ _)
 ·refine ws2_vc B s Q l.length cap cs hm ⟨⟨h1, h2⟩, by omega, fun B1 cap1 r q1 q2 => ?_⟩
  rintro _ rfl
  refine dkFin ⟨rfl, ?_⟩
  rw [Nat.mul_one, h3, ← bytesL_app] at q2 ⊢
  have e : l.length + s.size = (l ++ bts s).length := by rw [List.length_append, hbl]
  rw [e] at q1 ⊢
  exact BRep.row (by omega) q1 q2 (take_bytes _ _)
theorem string_e {B : Nat} {l : List UInt8} {F : SHeap} (h : BRep B l F) (hb : l.length ≤ 9223372036854775807) : EffC TP 60 ⟨[.pointer (SO B)]⟩ F (fun v F' => v = .string ⟨l.toArray⟩) := by
 intro W hm
 rcases h with ⟨rfl, rfl⟩ | ⟨rfl, rfl⟩ | ⟨Q, cap, cs, h0, h1, h2, h3, rfl⟩
 ·exact bs0_vc B hm (dkFin rfl)
 ·exact bs1_vc B hm (dkFin rfl)
 ·refine bs2_vc B Q l.length cap cs hm ⟨l, ⟨h3, rfl, h0, hb⟩, ?_⟩
  rintro _ rfl
  exact dkFin rfl
set_option maxRecDepth 100000
def putInts_c0 (out_b : Nat) (t8_p : OA) (t8_l t8_c : Nat) (t9 t10 : Int) (F1 : SHeap) (S : List Nat) (w0 : World) (R : Ending → World → Prop) : Prop :=
 AtE TP 182 23 (KC Tryz.f182 12) [(0, PP out_b), (8, .slice t8_p t8_l t8_c), (9, IV t9), (10, IV t10)] (F1) S w0 (nrm R)
theorem putInts_c0_vc (out_b : Nat) (t8_p : OA) (t8_l t8_c : Nat) (t9 t10 : Int) (F1 : SHeap)
 (H :
 Br (t10 < t9)
 (∃ t8_pb t8_po : Nat, t8_p = some ⟨t8_pb, t8_po, none⟩ ∧
 (0 ≤ t10 ∧ t10 < t8_l) ∧
 ∃ (cw : List Value) (m1 : Int), t8_pb ∉ S ∧ blkW w0 t8_pb = some cw ∧ cw[(t8_po + (Int.toNat t10))]? = some (IV m1) ∧
 CallH TP 48 ⟨[IV m1]⟩ (F1) S w0 (fun v L' => ∃ r1 r21, v = (.tuple #[.string r1, IV r21]) ∧ L' = F1 ∧
 CallH TP 109 ⟨[PP out_b, .string r1]⟩ (F1) S w0 (fun v L' => ∃ r31, ∃ (r41 : Value), ∃ F2, v = (.tuple #[IV r31, r41]) ∧ L' = F2 ∧
 putInts_c0 out_b (some ⟨t8_pb, t8_po, none⟩) t8_l t8_c t9 (IntKind.i64.wrap (t10 + (1 : Int))) F2 S w0 R)))
 (Fin R (F1) S w0 (.tuple #[]))) :
 putInts_c0 out_b t8_p t8_l t8_c t9 t10 F1 S w0 R:= by
 unfold putInts_c0
 refine .ru 5 (.sP 11 H ?_ ?_) <;> clear H <;> intro H
 ·refine .ru 6 ?_
  obtain ⟨t8_pb, t8_po, rfl, H⟩ := H
  refine .indexAddrL (E := 3) (b := t8_pb) (o := t8_po) (len := t8_l) (cap := t8_c) (sz := 1) (o' := (t8_po + (Int.toNat t10))) (kd := .i64) (i := t10) (by kernel_rfl) H.1 (by omega) ?_
  replace H := H.2
  obtain ⟨cw, m1, hs, hw, hx, H⟩ := H
  refine .loadW (b := t8_pb) (off := (t8_po + (Int.toNat t10))) (T := 3) (v := IV m1) (by kernel_rfl) hs hw (valAt_one hx (by kernel_rfl)) (.ru 5 (.cl H ?_))
  clear H
  rintro _ F1 ⟨r1, r21, rfl, rfl, H⟩
  refine .ru 9 (.cl H ?_)
  clear H
  rintro _ F2 ⟨r31, r41, _, rfl, rfl, H⟩
  refine .ru 7 (.tT [] 0 H)
 ·refine .ru 2 (.rt Tryz.func182 H)
theorem putInts_vc (B : Nat) (numbers_p : OA) (numbers_l numbers_c : Nat) (F : SHeap) (hm : Mem (F) S w0 W)
 (H :
 putInts_c0 B numbers_p numbers_l numbers_c (numbers_l : Int) (0 : Int) F S w0 R) :
 Calls TP 182 ⟨[PP B, .slice numbers_p numbers_l numbers_c]⟩ W R:= by
 refine AtE.cs 23 Tryz.func182 hm (.ru 8 (.tT [] 0 H))
abbrev encodeH0 (B3 : Nat) (m_0 m_1 : Int) (B2 : Nat) (m_2 : BA) (m_3 m_4 m_5 : Int) (m_6_p : OA) (m_6_l m_6_c : Nat) (m_7 m_8 : Int) (F2 : SHeap) : SHeap := ((B3, .cells #[IV m_0, IV m_1] 3) :: (B2, .cells #[IV m_0, IV m_1, .string m_2, IV m_3, IV m_4, IV m_5, .slice m_6_p m_6_l m_6_c, IV m_7, IV m_8] 149) :: F2)
abbrev encodeA0 (m_0 m_1 : Int) (m_2 : BA) (m_3 m_4 m_5 : Int) (m_6_p : OA) (m_6_l m_6_c : Nat) (m_7 m_8 : Int) : Array Value := #[IV m_0, IV m_1, .string m_2, IV m_3, IV m_4, IV m_5, .slice m_6_p m_6_l m_6_c, IV m_7, IV m_8]
def encode_c0 (out_b : Nat) (t16_p : OA) (t16_l t16_c : Nat) (t17 t18 : Int) (F1 : SHeap) (w0 : World) (R : Ending → World → Prop) : Prop :=
 AtE TP 169 63 (KC Tryz.f169 500) [(4, PP out_b), (16, .slice t16_p t16_l t16_c), (17, IV t17), (18, IV t18)] (F1) [] w0 (nrm R)
theorem encode_c0_vc (out_b : Nat) (t16_p : OA) (t16_l t16_c : Nat) (t17 t18 : Int) (F1 : SHeap)
 (H :
 Br (t18 < t17)
 (∃ t16_pb t16_po : Nat, t16_p = some ⟨t16_pb, t16_po, none⟩ ∧
 (0 ≤ t18 ∧ t18 < t16_l) ∧
 ∃ (cw : List Value) (m_0 : Int) (m_1 : Int) (m_2 : BA) (m_3 : Int) (m_4 : Int) (m_5 : Int) (m_6_p : OA) (m_6_l : Nat) (m_6_c : Nat) (m_7 : Int) (m_8 : Int), blkW w0 t16_pb = some cw ∧ ((cw.drop (t16_po + ((Int.toNat t18) * 9))).take 9 = [IV m_0, IV m_1, .string m_2, IV m_3, IV m_4, IV m_5, .slice m_6_p m_6_l m_6_c, IV m_7, IV m_8] ∧ (t16_po + ((Int.toNat t18) * 9)) + 9 ≤ cw.length) ∧
 ∀ B2 B3 : Nat,
 CallH TP 182 ⟨[PP out_b, .slice (SO B3) 2 2]⟩ ((B3, .cells #[IV m_0, IV m_1] 3) :: (B2, .cells (encodeA0 m_0 m_1 m_2 m_3 m_4 m_5 m_6_p m_6_l m_6_c m_7 m_8) 149) :: F1) [] w0 (fun v L' => ∃ F2, v = .tuple #[] ∧ L' = (encodeH0 B3 m_0 m_1 B2 m_2 m_3 m_4 m_5 m_6_p m_6_l m_6_c m_7 m_8 F2) ∧
 CallH TP 91 ⟨[.string m_2]⟩ (encodeH0 B3 m_0 m_1 B2 m_2 m_3 m_4 m_5 m_6_p m_6_l m_6_c m_7 m_8 F2) [] w0 (fun v L' => ∃ r21 r31, v = (.tuple #[.string r21, IV r31]) ∧ L' = (encodeH0 B3 m_0 m_1 B2 m_2 m_3 m_4 m_5 m_6_p m_6_l m_6_c m_7 m_8 F2) ∧
 CallH TP 109 ⟨[PP out_b, .string r21]⟩ (encodeH0 B3 m_0 m_1 B2 m_2 m_3 m_4 m_5 m_6_p m_6_l m_6_c m_7 m_8 F2) [] w0 (fun v L' => ∃ r41, ∃ (r51 : Value), ∃ F3, v = (.tuple #[IV r41, r51]) ∧ L' = ((B3, .cells #[IV m_0, IV m_1] 3) :: (B2, .cells (encodeA0 m_0 m_1 m_2 m_3 m_4 m_5 m_6_p m_6_l m_6_c m_7 m_8) 149) :: F3) ∧
 ∀ B4 : Nat,
 CallH TP 182 ⟨[PP out_b, .slice (SO B4) 4 4]⟩ ((B4, .cells #[IV m_3, IV m_4, IV m_5, IV (m_6_l : Int)] 3) :: (B3, .cells #[IV m_0, IV m_1] 3) :: (B2, .cells (encodeA0 m_0 m_1 m_2 m_3 m_4 m_5 m_6_p m_6_l m_6_c m_7 m_8) 149) :: F3) [] w0 (fun v L' => ∃ F4, v = .tuple #[] ∧ L' = ((B4, .cells #[IV m_3, IV m_4, IV m_5, IV (m_6_l : Int)] 3) :: (B3, .cells #[IV m_0, IV m_1] 3) :: (B2, .cells (encodeA0 m_0 m_1 m_2 m_3 m_4 m_5 m_6_p m_6_l m_6_c m_7 m_8) 149) :: F4) ∧
 CallH TP 182 ⟨[PP out_b, .slice m_6_p m_6_l m_6_c]⟩ ((B4, .cells #[IV m_3, IV m_4, IV m_5, IV (m_6_l : Int)] 3) :: (B3, .cells #[IV m_0, IV m_1] 3) :: (B2, .cells (encodeA0 m_0 m_1 m_2 m_3 m_4 m_5 m_6_p m_6_l m_6_c m_7 m_8) 149) :: F4) [] w0 (fun v L' => ∃ F5, v = .tuple #[] ∧ L' = ((B4, .cells #[IV m_3, IV m_4, IV m_5, IV (m_6_l : Int)] 3) :: (B3, .cells #[IV m_0, IV m_1] 3) :: (B2, .cells (encodeA0 m_0 m_1 m_2 m_3 m_4 m_5 m_6_p m_6_l m_6_c m_7 m_8) 149) :: F5) ∧
 ∀ B5 : Nat,
 CallH TP 182 ⟨[PP out_b, .slice (SO B5) 2 2]⟩ ((B5, .cells #[IV m_7, IV m_8] 3) :: (B4, .cells #[IV m_3, IV m_4, IV m_5, IV (m_6_l : Int)] 3) :: (B3, .cells #[IV m_0, IV m_1] 3) :: (B2, .cells (encodeA0 m_0 m_1 m_2 m_3 m_4 m_5 m_6_p m_6_l m_6_c m_7 m_8) 149) :: F5) [] w0 (fun v L' => ∃ F6, v = .tuple #[] ∧ L' = ((B5, .cells #[IV m_7, IV m_8] 3) :: (B4, .cells #[IV m_3, IV m_4, IV m_5, IV (m_6_l : Int)] 3) :: (B3, .cells #[IV m_0, IV m_1] 3) :: (B2, .cells (encodeA0 m_0 m_1 m_2 m_3 m_4 m_5 m_6_p m_6_l m_6_c m_7 m_8) 149) :: F6) ∧
 encode_c0 out_b (some ⟨t16_pb, t16_po, none⟩) t16_l t16_c t17 (IntKind.i64.wrap (t18 + (1 : Int))) F6 w0 R)))))))
 (CallH TP 60 ⟨[PP out_b]⟩ (F1) [] w0 (fun v L' => ∃ r61 F7, v = .string r61 ∧ L' = F7 ∧
 Fin R (F7) [] w0 (.tuple #[.string r61, IV 0])))) :
 encode_c0 out_b t16_p t16_l t16_c t17 t18 F1 w0 R:= by
 unfold encode_c0
 refine .ru 5 (.sP 19 H ?_ ?_) <;> clear H <;> intro H
 ·refine .ru 6 ?_
  obtain ⟨t16_pb, t16_po, rfl, H⟩ := H
  refine .indexAddrL (E := 149) (b := t16_pb) (o := t16_po) (len := t16_l) (cap := t16_c) (sz := 9) (o' := (t16_po + ((Int.toNat t18) * 9))) (kd := .i64) (i := t18) (by kernel_rfl) H.1 (by omega) ?_
  replace H := H.2
  obtain ⟨cw, m_0, m_1, m_2, m_3, m_4, m_5, m_6_p, m_6_l, m_6_c, m_7, m_8, hw, hx, H⟩ := H
  refine .loadW (b := t16_pb) (off := (t16_po + ((Int.toNat t18) * 9))) (T := 149) (v := .agg (encodeA0 m_0 m_1 m_2 m_3 m_4 m_5 m_6_p m_6_l m_6_c m_7 m_8)) (by kernel_rfl) List.not_mem_nil hw (valAt_agg hx.1 hx.2 (by kernel_rfl) (by kernel_rfl)) (.np (.cells #[IV 0, IV 0, .string (⟨#[]⟩), IV 0, IV 0, IV 0, .slice none 0 0, IV 0, IV 0] 149) fun B2 => ?_)
  replace H := H B2
  refine .front (.st 0 0 (.ru 4 (.ld 0 0 (.ru 1 (.ld 0 1 (.nw (fun B => .slice (SO B) 2 2) (.cells #[IV m_0, IV m_1] 3) fun B3 => ?_))))))
  replace H := H B3
  refine .front (.cl H ?_)
  clear H
  rintro _ _ ⟨F2, rfl, rfl, H⟩
  refine .ru 4 (.ld 1 2 (.cl H ?_))
  clear H
  rintro _ _ ⟨r21, r31, rfl, rfl, H⟩
  refine .ru 9 (.cl H ?_)
  clear H
  rintro _ _ ⟨r41, r51, F3, rfl, rfl, H⟩
  refine .ru 4 (.ld 1 3 (.ru 1 (.ld 1 4 (.ru 2 (.ld 1 5 (.ru 2 (.ld 1 6 (.ru 1 (.nw (fun B => .slice (SO B) 4 4) (.cells #[IV m_3, IV m_4, IV m_5, IV (m_6_l : Int)] 3) fun B4 => ?_)))))))))
  replace H := H B4
  refine .front (.cl H ?_)
  clear H
  rintro _ _ ⟨F4, rfl, rfl, H⟩
  refine .ru 5 (.ld 2 6 (.cl H ?_))
  clear H
  rintro _ _ ⟨F5, rfl, rfl, H⟩
  refine .ru 4 (.ld 2 7 (.ru 2 (.ld 2 8 (.nw (fun B => .slice (SO B) 2 2) (.cells #[IV m_7, IV m_8] 3) fun B5 => ?_))))
  replace H := H B5
  refine .front (.nm (KR Tryz.f169 512831 [7]) [(4, PP out_b), (16, .slice (some ⟨t16_pb, t16_po, none⟩) t16_l t16_c), (17, IV t17), (18, IV t18), (59, .slice (SO B5) 2 2)] ((B5, .cells #[IV m_7, IV m_8] 3) :: (B4, .cells #[IV m_3, IV m_4, IV m_5, IV (m_6_l : Int)] 3) :: (B3, .cells #[IV m_0, IV m_1] 3) :: (B2, .cells (encodeA0 m_0 m_1 m_2 m_3 m_4 m_5 m_6_p m_6_l m_6_c m_7 m_8) 149) :: F5) (.cl H ?_))
  clear H
  rintro _ _ ⟨F6, rfl, rfl, H⟩
  refine .ru 7 (.tT [] 4 H)
 ·refine .ru 4 (.cl H ?_)
  clear H
  rintro _ F7 ⟨r61, _, rfl, rfl, H⟩
  refine .ru 3 (.rt Tryz.func169 H)
theorem encode_vc (l_p : OA) (l_l l_c : Nat) (hm : Mem [] [] w0 W)
 (H :
 CallH TP 141 ⟨[.slice l_p l_l l_c]⟩ [] [] w0 (fun v L' => ∃ r1, v = .bool r1 ∧ L' = [] ∧
 Bb (r1)
 (∀ B B1 : Nat,
 CallH TP 182 ⟨[PP B, .slice (SO B1) 1 1]⟩ [(B, .cells #[.pointer none, .slice none 0 0] 103), (B1, .cells #[IV (l_l : Int)] 3)] [] w0 (fun v L' => ∃ F, v = .tuple #[] ∧ L' = ((B1, .cells #[IV (l_l : Int)] 3) :: F) ∧
 encode_c0 B l_p l_l l_c (l_l : Int) (0 : Int) F w0 R))
 (Fin R [] [] w0 (.tuple #[.string (⟨#[]⟩), IV 30])))) :
 Calls TP 169 ⟨[.slice l_p l_l l_c]⟩ W R:= by
 refine AtE.cs 63 Tryz.func169 hm (.ru 9 (.cl H ?_))
 rintro _ _ ⟨r1, rfl, rfl, H⟩
 refine .sB 10 H (fun H => ?_) fun H => ?_
 ·refine .ru 6 (.nH (.cells #[.pointer none, .slice none 0 0] 103) H fun B H => (.ru 5 (.nw (fun B => .slice (SO B) 1 1) (.cells #[IV (l_l : Int)] 3) fun B1 => ?_)))
  replace H := H B1
  refine .cl H ?_
  rintro _ _ ⟨F, rfl, rfl, H⟩
  refine .ru 10 (.tT [] 1 H)
 ·refine .ru 8 (.rt Tryz.func169 H)
abbrev ba (l : List UInt8) : BA := ⟨l.toArray⟩
theorem ba_size (a : List UInt8) : (ba a).size = a.length := by rw [← bts_len, bts_mk]
theorem encB_ba (n : Int) : encB n = ba (enc n) := bts_inj (by rw [encB_bts, bts_mk])
theorem encSB_ba (s : BA) : encSB s = ba (encS (bts s)) := bts_inj (by rw [encSB_bts, bts_mk])
theorem encS_len (t : List UInt8) : (encS t).length ≤ t.length + 10 := by
 unfold encS; rw [List.length_append]; have := enc_len t.length; omega
def encIs (l : List Int) : List UInt8 := l.flatMap enc
def Blk.enc (b : Blk) : List UInt8 :=
 Wire.enc b.id ++ (Wire.enc b.kind ++ (encS (bts b.text) ++ (Wire.enc b.story ++ (Wire.enc b.ref ++ (Wire.enc b.lab.unt ++ (Wire.enc b.lab.after.length ++ (encIs b.lab.after ++ (Wire.enc b.lab.appr ++ Wire.enc b.lab.den))))))))
def encBs (l : List Blk) : List UInt8 := l.flatMap Blk.enc
def encL (l : List Blk) : List UInt8 := Wire.enc (l.length : Int) ++ encBs l
def encAns (l : List Blk) : Value := if listOk l = true then .tuple #[.string (ba (encL l)), .int .i64 0] else .tuple #[.string ⟨#[]⟩, .int .i64 30]
theorem asc_spec : ∀ (l : List Int) (last : Int), ascOk last l = true → 0 ≤ last → last ≤ 64 → last + l.length ≤ 64 ∧ ∀ x ∈ l, last < x ∧ x ≤ 64
 | [], last, _, h0, h1 => ⟨by simpa using h1, by simp⟩
 | x :: r, last, h, h0, h1 => by
  simp only [ascOk, Bool.and_eq_true, decide_eq_true_eq] at h
  obtain ⟨⟨h2, h3⟩, h4⟩ := h
  obtain ⟨h5, h6⟩ := asc_spec r x h4 (by omega) h3
  refine ⟨by simp only [List.length_cons]; omega, fun y hy => ?_⟩
  rcases List.mem_cons.1 hy with rfl | hy
  ·omega
  ·have := h6 y hy; omega
structure Blk.Good (b : Blk) : Prop where
 id : 1 ≤ b.id ∧ b.id ≤ 1000
 kind : 1 ≤ b.kind ∧ b.kind ≤ 5
 text : b.text.size ≤ 300
 story : 0 ≤ b.story ∧ b.story ≤ 64
 ref : 0 ≤ b.ref ∧ b.ref ≤ 1000
 unt : 0 ≤ b.lab.unt ∧ b.lab.unt ≤ 1000000000
 appr : 0 ≤ b.lab.appr ∧ b.lab.appr ≤ 5
 den : 0 ≤ b.lab.den ∧ b.lab.den ≤ 15
 len : b.lab.after.length ≤ 64
 after : ∀ x ∈ b.lab.after, 0 < x ∧ x ≤ 64
theorem Blk.good {b : Blk} (h : b.ok = true) : b.Good := by
 simp only [Blk.ok, Bool.and_eq_true, decide_eq_true_eq] at h
 obtain ⟨hid, hl, hk⟩ := h
 simp only [Lab.ok, Bool.and_eq_true, decide_eq_true_eq] at hl
 obtain ⟨hl, ha⟩ := hl
 obtain ⟨h1, h2⟩ := asc_spec _ _ ha (by omega) (by omega)
 have hkk : (1 ≤ b.kind ∧ b.kind ≤ 5) ∧ b.text.size ≤ 300 ∧ (0 ≤ b.story ∧ b.story ≤ 64) ∧ 0 ≤ b.ref ∧ b.ref ≤ 1000 := by
  unfold Blk.kindOk at hk
  simp only [fillOk, txtOk, nameOk, Blk.noRef] at hk
  repeat' split at hk
  all_goals simp only [Bool.and_eq_true, decide_eq_true_eq, Bool.false_eq_true] at hk
  all_goals omega
 exact ⟨hid, hkk.1, hkk.2.1, hkk.2.2.1, hkk.2.2.2, by omega, by omega, by omega, by omega, h2⟩
theorem listGo_all : ∀ (l seen : List Blk), listGo seen l = true → ∀ b ∈ l, b.ok = true
 | [], _, _, _, hb => by cases hb
 | x :: r, seen, h, b, hb => by
  simp only [listGo, Bool.and_eq_true] at h
  rcases List.mem_cons.1 hb with rfl | hb
  ·exact h.1
  ·exact listGo_all r _ h.2.2 b hb
theorem listOk_all {l : List Blk} (h : listOk l = true) : l.length ≤ 24 ∧ ∀ b ∈ l, b.ok = true := by
 simp only [listOk, Bool.and_eq_true, decide_eq_true_eq] at h
 exact ⟨h.1, listGo_all l _ h.2⟩
theorem encIs_len (l : List Int) : (encIs l).length ≤ 10 * l.length := by
 induction l with
 | nil => simp [encIs]
 | cons x r ih => simp only [encIs, List.flatMap_cons, List.length_append, List.length_cons] at *; have := enc_len x; omega
theorem encBlk_len {b : Blk} (h : b.Good) : b.enc.length ≤ 1040 := by
 have h1 := encS_len (bts b.text)
 rw [bts_len] at h1
 have h2 := encIs_len b.lab.after
 have := h.text; have := h.len
 unfold Blk.enc
 simp only [List.length_append]
 have := enc_len b.id; have := enc_len b.kind; have := enc_len b.story; have := enc_len b.ref; have := enc_len b.lab.unt; have := enc_len (b.lab.after.length : Int); have := enc_len b.lab.appr; have := enc_len b.lab.den
 omega
theorem encBs_len : ∀ (l : List Blk), (∀ b ∈ l, b.ok = true) → (encBs l).length ≤ 1040 * l.length
 | [], _ => by simp [encBs]
 | b :: r, h => by
  have ih := encBs_len r (fun x hx => h x (by simp [hx]))
  have := encBlk_len (Blk.good (h b (by simp)))
  simp only [encBs, List.flatMap_cons, List.length_append, List.length_cons] at *
  omega
theorem encBs_take {l : List Blk} {i : Nat} (h : i < l.length) : encBs (l.take (i + 1)) = encBs (l.take i) ++ l[i].enc := by
 have e : l.take (i + 1) = l.take i ++ [l[i]] := by rw [List.take_add_one, List.getElem?_eq_getElem h]; rfl
 rw [e, encBs, List.flatMap_append, List.flatMap_cons, List.flatMap_nil, List.append_nil]; rfl
theorem encIs_take {l : List Int} {i : Nat} (h : i < l.length) : encIs (l.take (i + 1)) = encIs (l.take i) ++ Wire.enc l[i] := by
 have e : l.take (i + 1) = l.take i ++ [l[i]] := by rw [List.take_add_one, List.getElem?_eq_getElem h]; rfl
 rw [e, encIs, List.flatMap_append, List.flatMap_cons, List.flatMap_nil, List.append_nil]; rfl
theorem okI {n : Int} (h : -1000000000000 ≤ n ∧ n ≤ 1000000000000) : okInt n := by unfold okInt maxInt; omega
theorem putI {n : Int} (h : okInt n) : PureC TP 48 ⟨[.int .i64 n]⟩ (.tuple #[.string (ba (Wire.enc n)), .int .i64 0]) := by
 have := PutInt_c n
 rw [putAns, if_pos h, encB_ba] at this
 exact this
theorem putS {s : BA} (h : s.size ≤ 65536) : PureC TP 91 ⟨[.string s]⟩ (.tuple #[.string (ba (encS (bts s))), .int .i64 0]) := by
 have := PutString_c s
 rw [putSAns, if_pos h, encSB_ba] at this
 exact this
theorem CallH.effF {F : SHeap} (h : EffC P g args F K) (hK : ∀ v F', K v F' → K' v F') : CallH P g args F S w0 K' :=
 CallH.eff (L1 := []) h (by simp) fun v L' hk => ⟨L', by simp, hK v L' hk⟩
theorem CallH.effT {F : SHeap} (told : SHeap) (h : EffC P g args F K) (hK : ∀ v F', K v F' → K' v (told ++ F')) : CallH P g args (told ++ F) S w0 K' :=
 CallH.eff (L1 := told) h List.perm_append_comm fun v L' hk => ⟨told ++ L', List.perm_append_comm, hK v L' hk⟩
theorem CallH.effWT {F : SHeap} {Pre : World → Prop} (told : SHeap) (h : EffW P g args F Pre K) (hpre : ∀ W, Mem (told ++ F) S w0 W → Pre W) (hK : ∀ v F', K v F' → K' v (told ++ F')) : CallH P g args (told ++ F) S w0 K' :=
 CallH.effW (L1 := told) h hpre List.perm_append_comm fun v L' hk => ⟨told ++ L', List.perm_append_comm, hK v L' hk⟩
def lkX (S : List Nat) (w : World) : Lk := fun b c => b ∉ S ∧ blkW w b = some c
theorem lkX_of {told F : SHeap} (hm : Mem (told ++ F) [] w0 W) : ∀ b c, lkM told w0 b c → lkX (F.map (·.1)) W b c := by
 rintro b c (⟨t, fz, h⟩ | h)
 ·refine ⟨fun hb => ?_, ?_⟩
  ·have hnd := hm.nodup
   rw [List.map_append, List.nodup_append] at hnd
   exact hnd.2.2 b (List.mem_map_of_mem h) b hb rfl
  ·have := hm.here _ (List.mem_append_left F h)
   simp only at this
   simp [blkW, this]
 ·refine ⟨fun hb => ?_, lkW_kept hm b c h⟩
  obtain ⟨q, hq, rfl⟩ := List.mem_map.1 hb
  have h1 := hm.own q (List.mem_append_right told hq)
  simp only [List.not_mem_nil, or_false] at h1
  unfold lkW blkW at h
  rw [Array.getElem?_eq_none h1] at h
  cases h
theorem ints_told {told : SHeap} {B : Nat} {ns : List Int} {t : TypeId} (h : (B, Obj.cells ⟨ns.map (.int .i64)⟩ t) ∈ told) : IntsL (lkM told w0) (SO B) ns := by
 intro _
 refine ⟨B, 0, ns.map (.int .i64), rfl, .inl ⟨t, _, h⟩, fun i hi => ?_⟩
 rw [Nat.zero_add, List.getElem?_map, List.getElem?_eq_getElem hi]; rfl
theorem putInts_loop {w0 : World} {S : List Nat} {B : Nat} {p : OA} {c : Nat} {ns : List Int} (hp : IntsL (lkX S w0) p ns) (hok : ∀ x ∈ ns, okInt x) (hn : ns.length ≤ 1000000) {l : List UInt8} (hl : l.length ≤ 1000000000) :
  ∀ (g i : Nat) (F : SHeap), g + i = ns.length → BRep B (l ++ encIs (ns.take i)) F →
   putInts_c0 B p ns.length c (ns.length : Int) (i : Int) F S w0 (fun e W' => ∃ v L', e = .returned v ∧ Mem L' S w0 W' ∧ v = .tuple #[] ∧ BRep B (l ++ encIs ns) L')
 | 0, i, F, hg, hF => by
  apply putInts_c0_vc
  refine no (by omega) (dkFin ⟨rfl, ?_⟩)
  rw [List.take_of_length_le (by omega)] at hF
  exact hF
 | g + 1, i, F, hg, hF => by
  apply putInts_c0_vc
  have hi : i < ns.length := by omega
  obtain ⟨b, o, cc, rfl, e2, e3⟩ := hp.get hi
  refine yes (by omega) ⟨b, o, rfl, by omega, cc, ns[i], e2.1, e2.2, by simpa using e3, ?_⟩
  refine CallH.pure (putI (hok _ (List.getElem_mem hi))) ⟨_, _, rfl, rfl, ?_⟩
  have h1 := encIs_len (ns.take i)
  rw [List.length_take] at h1
  have h2 := enc_len ns[i]
  refine CallH.effF (write_e hF (by rw [List.length_append, ba_size]; omega)) fun v F' ⟨hv, hF'⟩ => ⟨_, _, F', hv, rfl, ?_⟩
  rw [wi64 (by omega), show (i : Int) + 1 = ((i + 1 : Nat) : Int) by omega]
  refine putInts_loop hp hok hn hl g (i + 1) F' (by omega) ?_
  rw [encIs_take hi, ← List.append_assoc]
  rwa [bts_mk] at hF'
theorem putInts_e {B : Nat} {p : OA} {c : Nat} {ns : List Int} (hok : ∀ x ∈ ns, okInt x) (hn : ns.length ≤ 1000000) {l : List UInt8} (hl : l.length ≤ 1000000000) {F : SHeap} (hF : BRep B l F) :
  EffW TP 182 ⟨[.pointer (SO B), .slice p ns.length c]⟩ F (fun W => IntsL (lkX (F.map (·.1)) W) p ns) (fun v F' => v = .tuple #[] ∧ BRep B (l ++ encIs ns) F') := by
 intro W hm hp
 refine putInts_vc B p ns.length c F hm (putInts_loop hp hok hn hl ns.length 0 F (by omega) ?_)
 simpa [encIs] using hF
theorem enc_parts (b : Blk) (p : List UInt8) : p ++ encIs [b.id, b.kind] ++ encS (bts b.text) ++ encIs [b.story, b.ref, b.lab.unt, (b.lab.after.length : Int)] ++ encIs b.lab.after ++ encIs [b.lab.appr, b.lab.den] = p ++ b.enc := by
 simp [Blk.enc, encIs]
theorem encode_loop {w0 : World} {B : Nat} {p : OA} {c : Nat} {l : List Blk} (hl : BlksL (lkW w0) p l) (hok : listOk l = true) :
  ∀ (g i : Nat) (F : SHeap), g + i = l.length → BRep B (Wire.enc (l.length : Int) ++ encBs (l.take i)) F →
   encode_c0 B p l.length c (l.length : Int) (i : Int) F w0 (fun e W' => e = .returned (encAns l) ∧ Below w0.heap.size w0 W')
 | 0, i, F, hg, hF => by
  apply encode_c0_vc
  rw [List.take_of_length_le (by omega)] at hF
  have h1 := encBs_len l (listOk_all hok).2
  have h2 := enc_len (l.length : Int)
  have h3 := (listOk_all hok).1
  refine no (by omega) (CallH.effF (string_e hF (by rw [List.length_append]; omega)) fun v F' hv => ⟨_, F', hv, rfl, finPW ?_⟩)
  rw [encAns, if_pos hok]; rfl
 | g + 1, i, F, hg, hF => by
  apply encode_c0_vc
  have hi : i < l.length := by omega
  obtain ⟨B1, o1, c1, rfl, e2, e3, p6, c6, e4, e5, e6⟩ := hl.get hi
  have hall := listOk_all hok
  have hgd := Blk.good (hall.2 _ (List.getElem_mem hi))
  have k1 := encBs_len (l.take i) (fun b hb => hall.2 b (List.mem_of_mem_take hb))
  rw [List.length_take] at k1
  have k2 := enc_len (l.length : Int)
  have k3 := hall.1
  have i1 := hgd.id; have i2 := hgd.kind; have i3 := hgd.text; have i4 := hgd.story; have i5 := hgd.ref; have i6 := hgd.unt; have i7 := hgd.appr; have i8 := hgd.den; have i9 := hgd.len
  refine yes (by omega) ⟨B1, o1, rfl, by omega, c1, l[i].id, l[i].kind, l[i].text, l[i].story, l[i].ref, l[i].lab.unt, p6, l[i].lab.after.length, c6, l[i].lab.appr, l[i].lab.den, e2, ⟨by simpa using e4, by simpa using e3⟩, fun B2 B3 => ?_⟩
  have m1 := encIs_len [l[i].id, l[i].kind]
  have m2 := encS_len (bts l[i].text); rw [bts_len] at m2
  have m3 := encIs_len [l[i].story, l[i].ref, l[i].lab.unt, (l[i].lab.after.length : Int)]
  have m4 := encIs_len l[i].lab.after
  simp only [List.length_cons, List.length_nil] at m1 m3
  refine CallH.effWT [_, _] (putInts_e (ns := [l[i].id, l[i].kind]) (fun x hx => ?_) (by simp) (by rw [List.length_append]; omega) hF) (fun W' hm' => (ints_told (told := [_, _]) (ns := [l[i].id, l[i].kind]) (t := 3) (by simp)).mono (lkX_of hm')) fun v F2 ⟨hv, hF2⟩ => ⟨F2, hv, rfl, ?_⟩
  ·rcases List.mem_cons.1 hx with rfl | hx
   ·exact okI (by omega)
   ·rw [List.mem_singleton.1 hx]; exact okI (by omega)
  refine CallH.pure (putS (by omega)) ⟨_, _, rfl, rfl, ?_⟩
  refine CallH.effT [_, _] (write_e hF2 (by simp only [List.length_append, ba_size]; omega)) fun v F3 ⟨hv, hF3⟩ => ⟨_, _, F3, hv, rfl, fun B4 => ?_⟩
  rw [bts_mk] at hF3
  refine CallH.effWT [_, _, _] (putInts_e (ns := [l[i].story, l[i].ref, l[i].lab.unt, (l[i].lab.after.length : Int)]) (fun x hx => ?_) (by simp) (by simp only [List.length_append]; omega) hF3) (fun W' hm' => (ints_told (told := [_, _, _]) (ns := [l[i].story, l[i].ref, l[i].lab.unt, (l[i].lab.after.length : Int)]) (t := 3) (by simp)).mono (lkX_of hm')) fun v F4 ⟨hv, hF4⟩ => ⟨F4, hv, rfl, ?_⟩
  ·simp only [List.mem_cons, List.not_mem_nil, or_false] at hx
   rcases hx with rfl | rfl | rfl | rfl <;> exact okI (by omega)
  refine CallH.effWT [_, _, _] (putInts_e (ns := l[i].lab.after) (fun x hx => ?_) (by omega) (by simp only [List.length_append]; omega) hF4) (fun W' hm' => (e5.mono lkM_old).mono (lkX_of hm')) fun v F5 ⟨hv, hF5⟩ => ⟨F5, hv, rfl, fun B5 => ?_⟩
  ·have := hgd.after x hx; exact okI (by omega)
  refine CallH.effWT [_, _, _, _] (putInts_e (ns := [l[i].lab.appr, l[i].lab.den]) (fun x hx => ?_) (by simp) (by simp only [List.length_append]; omega) hF5) (fun W' hm' => (ints_told (told := [_, _, _, _]) (ns := [l[i].lab.appr, l[i].lab.den]) (t := 3) (by simp)).mono (lkX_of hm')) fun v F6 ⟨hv, hF6⟩ => ⟨F6, hv, rfl, ?_⟩
  ·rcases List.mem_cons.1 hx with rfl | hx
   ·exact okI (by omega)
   ·rw [List.mem_singleton.1 hx]; exact okI (by omega)
  rw [wi64 (by omega), show (i : Int) + 1 = ((i + 1 : Nat) : Int) by omega]
  refine encode_loop hl hok g (i + 1) F6 (by omega) ?_
  rw [encBs_take hi, ← List.append_assoc, ← enc_parts]
  exact hF6
theorem encode_c {p : OA} {c : Nat} {l : List Blk} (hl : BlksL (lkW W) p l) (hc : l.length ≤ c) : PW TP 169 ⟨[.slice p l.length c]⟩ W (encAns l) := by
 refine encode_vc p l.length c (Mem.start [] W) (CallH.pw (fun W' hm' => validL_c (hl.mono (lkW_kept hm')) hc) ⟨_, rfl, rfl, fun h B B1 => ?_, fun h => finPW ?_⟩)
 ·have h3 := (listOk_all h).1
  refine CallH.effW (L0 := [bHdr B (.pointer none) (.slice none 0 0)]) (L1 := [(B1, .cells #[.int .i64 (l.length : Int)] 3)]) (putInts_e (ns := [(l.length : Int)]) (l := []) (fun x hx => ?_) (by simp) (by simp) (BRep.new B)) (fun W' hm' => (ints_told (told := [(B1, .cells #[.int .i64 (l.length : Int)] 3)]) (ns := [(l.length : Int)]) (t := 3) (by simp)).mono (lkX_of (hm'.perm (List.perm_append_comm (l₁ := [(B1, Obj.cells #[.int .i64 (l.length : Int)] 3)]) (l₂ := [bHdr B (.pointer none) (.slice none 0 0)]))))) (List.Perm.refl _) fun v F ⟨hv, hF⟩ => ⟨_, List.perm_append_comm, F, hv, rfl, ?_⟩
  ·rw [List.mem_singleton.1 hx]; exact okI (by omega)
  ·refine encode_loop hl h l.length 0 F (by omega) ?_
   simpa [encIs, encBs] using hF
 ·rw [encAns, if_neg (by rw [h]; simp)]
abbrev RS := Nat × Int
def rdI (s : List UInt8) (st : RS) : Int × RS :=
 if st.2 = 0 then match rdInt (s.drop st.1) with
  | none => (0, (st.1, 10))
  | some (n, k) => (n, (st.1 + k, 0))
 else (0, st)
def rdT (s : List UInt8) (st : RS) : BA × RS :=
 if st.2 = 0 then match rdStr (s.drop st.1) with
  | none => (⟨#[]⟩, (st.1, 10))
  | some (t, k) => (⟨t.toArray⟩, (st.1 + k, 0))
 else (⟨#[]⟩, st)
def rdMany {α : Type} (f : RS → α × RS) : Nat → RS → List α × RS
 | 0, st => ([], st)
 | n + 1, st => if st.2 = 0 then ((f st).1 :: (rdMany f n (f st).2).1, (rdMany f n (f st).2).2) else ([], st)
def rdCount (s : List UInt8) (most : Int) (st : RS) : Int × RS :=
 if (rdI s st).2.2 = 0 ∧ ((rdI s st).1 < 0 ∨ most < (rdI s st).1) then ((rdI s st).1, ((rdI s st).2.1, 30)) else rdI s st
def rdList {α : Type} (f : RS → α × RS) (s : List UInt8) (most : Int) (st : RS) : List α × RS := rdMany f (rdCount s most st).1.toNat (rdCount s most st).2
def rdB1 (s : List UInt8) (st : RS) := rdI s st
def rdB2 (s : List UInt8) (st : RS) := rdI s (rdB1 s st).2
def rdB3 (s : List UInt8) (st : RS) := rdT s (rdB2 s st).2
def rdB4 (s : List UInt8) (st : RS) := rdI s (rdB3 s st).2
def rdB5 (s : List UInt8) (st : RS) := rdI s (rdB4 s st).2
def rdB6 (s : List UInt8) (st : RS) := rdI s (rdB5 s st).2
def rdB7 (s : List UInt8) (st : RS) := rdList (rdI s) s 64 (rdB6 s st).2
def rdB8 (s : List UInt8) (st : RS) := rdI s (rdB7 s st).2
def rdB9 (s : List UInt8) (st : RS) := rdI s (rdB8 s st).2
def rdBlk (s : List UInt8) (st : RS) : Blk × RS :=
 (⟨(rdB1 s st).1, (rdB2 s st).1, (rdB3 s st).1, (rdB4 s st).1, (rdB5 s st).1, ⟨(rdB6 s st).1, (rdB7 s st).1, (rdB8 s st).1, (rdB9 s st).1⟩⟩, (rdB9 s st).2)
def decRun (s : List UInt8) : List Blk × RS := rdList (rdBlk s) s 24 (0, 0)
def decSpec (s : List UInt8) : List Blk × Int :=
 if ¬ (decRun s).2.2 = 0 then ([], (decRun s).2.2) else if (decRun s).2.1 < s.length then ([], 10) else if listOk (decRun s).1 = true then ((decRun s).1, 0) else ([], 30)
theorem rdStr_inv' {l t : List UInt8} {k : Nat} (h : rdStr l = some (t, k)) : k ≤ l.length ∧ t.length ≤ 65536 := by
 unfold rdStr at h
 split at h
 ·cases h
 ·next n j hr =>
  split at h
  ·next hc =>
   have := (rdInt_inv hr).2.1
   simp only [Option.some.injEq, Prod.mk.injEq] at h
   obtain ⟨rfl, rfl⟩ := h
   refine ⟨by omega, ?_⟩
   rw [List.length_take]; omega
  ·cases h
theorem rdI_le {s : List UInt8} {st : RS} (h : st.1 ≤ s.length) : (rdI s st).2.1 ≤ s.length := by
 unfold rdI
 split
 ·split
  ·exact h
  ·next n k hr =>
   have := (rdInt_inv hr).2.1
   rw [List.length_drop] at this
   simp only; omega
 ·exact h
theorem rdT_le {s : List UInt8} {st : RS} (h : st.1 ≤ s.length) : (rdT s st).2.1 ≤ s.length ∧ (rdT s st).1.size ≤ 65536 := by
 unfold rdT
 split
 ·split
  ·exact ⟨h, (show (0 : Nat) ≤ 65536 by decide)⟩
  ·next n k hr =>
   have := rdStr_inv' hr
   rw [List.length_drop] at this
   exact ⟨by simp only; omega, by rw [ba_size]; exact this.2⟩
 ·exact ⟨h, (show (0 : Nat) ≤ 65536 by decide)⟩
theorem rdMany_le {α : Type} {f : RS → α × RS} {s : List UInt8} (hf : ∀ st, st.1 ≤ s.length → (f st).2.1 ≤ s.length) : ∀ (n : Nat) (st : RS), st.1 ≤ s.length → (rdMany f n st).2.1 ≤ s.length ∧ (rdMany f n st).1.length ≤ n
 | 0, st, h => ⟨h, Nat.le_refl _⟩
 | n + 1, st, h => by
  unfold rdMany
  split
  ·have := rdMany_le hf n (f st).2 (hf st h)
   exact ⟨this.1, by simp only [List.length_cons]; omega⟩
  ·exact ⟨h, by simp⟩
theorem rdMany_err {α : Type} {f : RS → α × RS} {n : Nat} {st : RS} (h : ¬ st.2 = 0) : rdMany f n st = ([], st) := by
 cases n with
 | zero => rfl
 | succ n => rw [rdMany, if_neg h]
theorem rdCount_le {s : List UInt8} {most : Int} {st : RS} (h : st.1 ≤ s.length) : (rdCount s most st).2.1 ≤ s.length := by
 unfold rdCount
 split
 ·exact rdI_le h
 ·exact rdI_le h
theorem rdCount_ok {s : List UInt8} {most : Int} {st : RS} (h : (rdCount s most st).2.2 = 0) : 0 ≤ (rdCount s most st).1 ∧ (rdCount s most st).1 ≤ most := by
 unfold rdCount at *
 split at h
 ·simp at h
 ·next hn =>
  rw [if_neg hn]
  omega
theorem rdList_le {α : Type} {f : RS → α × RS} {s : List UInt8} {most : Nat} (hf : ∀ st, st.1 ≤ s.length → (f st).2.1 ≤ s.length) {st : RS} (h : st.1 ≤ s.length) : (rdList f s most st).2.1 ≤ s.length ∧ (rdList f s most st).1.length ≤ most := by
 unfold rdList
 have := rdMany_le hf (rdCount s most st).1.toNat (rdCount s most st).2 (rdCount_le h)
 refine ⟨this.1, ?_⟩
 by_cases he : (rdCount s most st).2.2 = 0
 ·have := rdCount_ok he
  omega
 ·rw [rdMany_err he]; simp
theorem rdB_le {s : List UInt8} {st : RS} (h : st.1 ≤ s.length) : (rdB1 s st).2.1 ≤ s.length ∧ (rdB2 s st).2.1 ≤ s.length ∧ (rdB3 s st).2.1 ≤ s.length ∧ (rdB4 s st).2.1 ≤ s.length ∧ (rdB5 s st).2.1 ≤ s.length ∧ (rdB6 s st).2.1 ≤ s.length ∧ (rdB7 s st).2.1 ≤ s.length ∧ (rdB8 s st).2.1 ≤ s.length ∧ (rdB9 s st).2.1 ≤ s.length := by
 have h1 := rdI_le h
 have h2 := rdI_le (s := s) h1
 have h3 := (rdT_le (s := s) h2).1
 have h4 := rdI_le (s := s) h3
 have h5 := rdI_le (s := s) h4
 have h6 := rdI_le (s := s) h5
 have h7 := (rdList_le (f := rdI s) (most := 64) (fun st => rdI_le) h6).1
 have h8 := rdI_le (s := s) h7
 have h9 := rdI_le (s := s) h8
 exact ⟨h1, h2, h3, h4, h5, h6, h7, h8, h9⟩
theorem rdBlk_le {s : List UInt8} {st : RS} (h : st.1 ≤ s.length) : (rdBlk s st).2.1 ≤ s.length := (rdB_le h).2.2.2.2.2.2.2.2
theorem rdBlk_fits {s : List UInt8} {st : RS} (h : st.1 ≤ s.length) : (rdBlk s st).1.Fits := by
 obtain ⟨h1, h2, h3, h4, h5, h6, h7, h8, h9⟩ := rdB_le h
 refine ⟨?_, ?_⟩
 ·have := (rdT_le (s := s) h2).2
  show (rdB3 s st).1.size ≤ _
  unfold rdB3; omega
 ·have := (rdList_le (f := rdI s) (most := 64) (fun st => rdI_le) h6).2
  show (rdB7 s st).1.length ≤ _
  exact Nat.le_trans this (by decide)
theorem drop_next {s x r : List UInt8} {a : Nat} (h : s.drop a = x ++ r) : s.drop (a + x.length) = r := by
 rw [← List.drop_drop, h, List.drop_left]
theorem rdI_fwd {s r : List UInt8} {a : Nat} {n : Int} (hn : okInt n) (h : s.drop a = Wire.enc n ++ r) : rdI s (a, 0) = (n, (a + (Wire.enc n).length, 0)) := by
 simp only [rdI, if_pos]
 rw [h, rdInt_enc hn]
theorem rdT_fwd {s r : List UInt8} {a : Nat} {t : BA} (ht : t.size ≤ 65536) (h : s.drop a = encS (bts t) ++ r) : rdT s (a, 0) = (t, (a + (encS (bts t)).length, 0)) := by
 simp only [rdT, if_pos]
 rw [h, rdStr_enc (by rw [bts_len]; exact ht)]
theorem rdMany_fwd {α : Type} {f : RS → α × RS} {e : α → List UInt8} {s : List UInt8} : ∀ (l : List α) (a : Nat) (r : List UInt8), (∀ x ∈ l, ∀ a r, s.drop a = e x ++ r → f (a, 0) = (x, (a + (e x).length, 0))) → s.drop a = l.flatMap e ++ r →
  rdMany f l.length (a, 0) = (l, (a + (l.flatMap e).length, 0))
 | [], a, r, hf, h => rfl
 | x :: t, a, r, hf, h => by
  rw [List.flatMap_cons, List.append_assoc] at h
  have h1 := hf x List.mem_cons_self a _ h
  have h2 := rdMany_fwd t (a + (e x).length) r (fun y hy => hf y (List.mem_cons_of_mem _ hy)) (drop_next h)
  rw [List.length_cons, rdMany, if_pos rfl, h1, h2, List.flatMap_cons, List.length_append, Nat.add_assoc]
theorem rdList_fwd {α : Type} {f : RS → α × RS} {e : α → List UInt8} {s : List UInt8} {l : List α} {a most : Nat} {r : List UInt8} (hl : l.length ≤ most) (hm : most ≤ 65536) (hf : ∀ x ∈ l, ∀ a r, s.drop a = e x ++ r → f (a, 0) = (x, (a + (e x).length, 0)))
  (h : s.drop a = Wire.enc (l.length : Int) ++ (l.flatMap e ++ r)) : rdList f s most (a, 0) = (l, (a + ((Wire.enc (l.length : Int)).length + (l.flatMap e).length), 0)) := by
 have h1 := rdI_fwd (okI (by omega)) h
 have h2 : rdCount s most (a, 0) = ((l.length : Int), (a + (Wire.enc (l.length : Int)).length, 0)) := by
  rw [rdCount, h1, if_neg (by simp only; omega)]
 rw [rdList, h2]
 simp only [Int.toNat_natCast]
 rw [rdMany_fwd l _ r hf (drop_next h), Nat.add_assoc]
theorem rdBlk_fwd {s r : List UInt8} {a : Nat} {b : Blk} (hb : b.Good) (h : s.drop a = b.enc ++ r) : rdBlk s (a, 0) = (b, (a + b.enc.length, 0)) := by
 have i1 := hb.id; have i2 := hb.kind; have i3 := hb.text; have i4 := hb.story; have i5 := hb.ref; have i6 := hb.unt; have i7 := hb.appr; have i8 := hb.den; have i9 := hb.len
 unfold Blk.enc at h
 simp only [List.append_assoc] at h
 have h1 := rdI_fwd (okI (by omega)) h; have d1 := drop_next h
 have h2 := rdI_fwd (okI (by omega)) d1; have d2 := drop_next d1
 have h3 := rdT_fwd (by omega) d2; have d3 := drop_next d2
 have h4 := rdI_fwd (okI (by omega)) d3; have d4 := drop_next d3
 have h5 := rdI_fwd (okI (by omega)) d4; have d5 := drop_next d4
 have h6 := rdI_fwd (okI (by omega)) d5; have d6 := drop_next d5
 have h7 := rdList_fwd (f := rdI s) (e := Wire.enc) (most := 64) (l := b.lab.after) (by omega) (by omega) (fun x hx a r h => rdI_fwd (okI (by have := hb.after x hx; omega)) h) d6
 have d7 := drop_next (drop_next d6)
 rw [Nat.add_assoc] at d7
 have h8 := rdI_fwd (okI (by omega)) d7; have d8 := drop_next d7
 have h9 := rdI_fwd (okI (by omega)) d8
 have q1 : rdB1 s (a, 0) = _ := h1
 have q2 : rdB2 s (a, 0) = _ := (congrArg (fun x : (Int) × RS => rdI s x.2) q1).trans h2
 have q3 : rdB3 s (a, 0) = _ := (congrArg (fun x : (Int) × RS => rdT s x.2) q2).trans h3
 have q4 : rdB4 s (a, 0) = _ := (congrArg (fun x : (BA) × RS => rdI s x.2) q3).trans h4
 have q5 : rdB5 s (a, 0) = _ := (congrArg (fun x : (Int) × RS => rdI s x.2) q4).trans h5
 have q6 : rdB6 s (a, 0) = _ := (congrArg (fun x : (Int) × RS => rdI s x.2) q5).trans h6
 have q7 : rdB7 s (a, 0) = _ := (congrArg (fun x : (Int) × RS => rdList (rdI s) s 64 x.2) q6).trans h7
 have q8 : rdB8 s (a, 0) = _ := (congrArg (fun x : (List Int) × RS => rdI s x.2) q7).trans h8
 have q9 : rdB9 s (a, 0) = _ := (congrArg (fun x : (Int) × RS => rdI s x.2) q8).trans h9
 rw [rdBlk, q1, q2, q3, q4, q5, q6, q7, q8, q9]
 simp only [Prod.mk.injEq, and_true, true_and]
 unfold Blk.enc
 simp only [List.length_append]
 have : encIs b.lab.after = b.lab.after.flatMap Wire.enc := rfl
 omega
theorem decRun_fwd {l : List Blk} (h : listOk l = true) (r : List UInt8) : decRun (encL l ++ r) = (l, ((encL l).length, 0)) := by
 obtain ⟨h1, h2⟩ := listOk_all h
 have := rdList_fwd (f := rdBlk (encL l ++ r)) (e := Blk.enc) (s := encL l ++ r) (a := 0) (l := l) (most := 24) (r := r) h1 (by omega) (fun b hb a r h => rdBlk_fwd (Blk.good (h2 b hb)) h) (by rw [List.drop_zero, encL, encBs, List.append_assoc])
 rw [decRun]
 refine this.trans ?_
 rw [Nat.zero_add, encL, List.length_append]; rfl
theorem dec_enc {l : List Blk} (h : listOk l = true) : decSpec (encL l) = (l, 0) := by
 have := decRun_fwd h []
 rw [List.append_nil] at this
 rw [decSpec, this, if_neg (by simp), if_neg (by simp), if_pos h]
theorem rdI_inv {s : List UInt8} {st : RS} (h : (rdI s st).2.2 = 0) : st.2 = 0 ∧ okInt (rdI s st).1 ∧ s.drop st.1 = Wire.enc (rdI s st).1 ++ s.drop (rdI s st).2.1 := by
 unfold rdI at *
 split at h
 ·next he =>
  split at h
  ·simp at h
  ·next n k hr =>
   rw [if_pos he]
   have h1 := rdInt_split hr
   rw [List.drop_drop] at h1
   exact ⟨he, (rdInt_inv hr).1, h1⟩
 ·next he => exact absurd h he
theorem rdT_inv {s : List UInt8} {st : RS} (h : (rdT s st).2.2 = 0) : st.2 = 0 ∧ s.drop st.1 = encS (bts (rdT s st).1) ++ s.drop (rdT s st).2.1 := by
 unfold rdT at *
 split at h
 ·next he =>
  split at h
  ·simp at h
  ·next n k hr =>
   rw [if_pos he]
   have h1 := rdStr_split hr
   rw [List.drop_drop] at h1
   refine ⟨he, ?_⟩
   simp only [bts_mk]
   exact h1
 ·next he => exact absurd h he
theorem rdMany_inv {α : Type} {f : RS → α × RS} {e : α → List UInt8} {s : List UInt8} (hf : ∀ st, (f st).2.2 = 0 → st.2 = 0 ∧ s.drop st.1 = e (f st).1 ++ s.drop (f st).2.1) : ∀ (n : Nat) (st : RS), (rdMany f n st).2.2 = 0 →
  st.2 = 0 ∧ (rdMany f n st).1.length = n ∧ s.drop st.1 = (rdMany f n st).1.flatMap e ++ s.drop (rdMany f n st).2.1
 | 0, st, h => ⟨h, rfl, rfl⟩
 | n + 1, st, h => by
  unfold rdMany at *
  split at h
  ·next he =>
   rw [if_pos he]
   have h1 := rdMany_inv hf n (f st).2 h
   have h2 := hf st h1.1
   refine ⟨he, by simp only [List.length_cons]; rw [h1.2.1], ?_⟩
   simp only [List.flatMap_cons]
   rw [List.append_assoc, ← h1.2.2]
   exact h2.2
  ·next he => exact absurd h he
theorem rdList_inv {α : Type} {f : RS → α × RS} {e : α → List UInt8} {s : List UInt8} {most : Int} (hf : ∀ st, (f st).2.2 = 0 → st.2 = 0 ∧ s.drop st.1 = e (f st).1 ++ s.drop (f st).2.1) {st : RS} (h : (rdList f s most st).2.2 = 0) :
  st.2 = 0 ∧ s.drop st.1 = Wire.enc ((rdList f s most st).1.length : Int) ++ ((rdList f s most st).1.flatMap e ++ s.drop (rdList f s most st).2.1) := by
 unfold rdList at *
 have h1 := rdMany_inv hf _ _ h
 have h2 := rdCount_ok h1.1
 have h3 : rdCount s most st = rdI s st := by
  unfold rdCount at h1 ⊢
  split
  ·next hc => rw [if_pos hc] at h1; simp at h1
  ·rfl
 rw [h3] at h1 h2 ⊢
 have h4 := rdI_inv h1.1
 refine ⟨h4.1, ?_⟩
 rw [h1.2.1, Int.toNat_of_nonneg h2.1, ← h1.2.2]
 exact h4.2.2
theorem rdBlk_inv {s : List UInt8} {st : RS} (h : (rdBlk s st).2.2 = 0) : st.2 = 0 ∧ s.drop st.1 = (rdBlk s st).1.enc ++ s.drop (rdBlk s st).2.1 := by
 have h9 : (rdI s (rdB8 s st).2).2.2 = 0 := h
 have k9 := rdI_inv h9
 have k8 := rdI_inv (s := s) (st := (rdB7 s st).2) k9.1
 have k7 := rdList_inv (e := Wire.enc) (f := rdI s) (most := 64) (fun st h => ⟨(rdI_inv h).1, (rdI_inv h).2.2⟩) (st := (rdB6 s st).2) k8.1
 have k6 := rdI_inv (s := s) (st := (rdB5 s st).2) k7.1
 have k5 := rdI_inv (s := s) (st := (rdB4 s st).2) k6.1
 have k4 := rdI_inv (s := s) (st := (rdB3 s st).2) k5.1
 have k3 := rdT_inv (s := s) (st := (rdB2 s st).2) k4.1
 have k2 := rdI_inv (s := s) (st := (rdB1 s st).2) k3.1
 have k1 := rdI_inv (s := s) (st := st) k2.1
 refine ⟨k1.1, ?_⟩
 have e1 : s.drop st.1 = Wire.enc (rdB1 s st).1 ++ s.drop (rdB1 s st).2.1 := k1.2.2
 have e2 : s.drop (rdB1 s st).2.1 = Wire.enc (rdB2 s st).1 ++ s.drop (rdB2 s st).2.1 := k2.2.2
 have e3 : s.drop (rdB2 s st).2.1 = encS (bts (rdB3 s st).1) ++ s.drop (rdB3 s st).2.1 := k3.2
 have e4 : s.drop (rdB3 s st).2.1 = Wire.enc (rdB4 s st).1 ++ s.drop (rdB4 s st).2.1 := k4.2.2
 have e5 : s.drop (rdB4 s st).2.1 = Wire.enc (rdB5 s st).1 ++ s.drop (rdB5 s st).2.1 := k5.2.2
 have e6 : s.drop (rdB5 s st).2.1 = Wire.enc (rdB6 s st).1 ++ s.drop (rdB6 s st).2.1 := k6.2.2
 have e7 : s.drop (rdB6 s st).2.1 = Wire.enc ((rdB7 s st).1.length : Int) ++ ((rdB7 s st).1.flatMap Wire.enc ++ s.drop (rdB7 s st).2.1) := k7.2
 have e8 : s.drop (rdB7 s st).2.1 = Wire.enc (rdB8 s st).1 ++ s.drop (rdB8 s st).2.1 := k8.2.2
 have e9 : s.drop (rdB8 s st).2.1 = Wire.enc (rdB9 s st).1 ++ s.drop (rdB9 s st).2.1 := k9.2.2
 rw [e1, e2, e3, e4, e5, e6, e7, e8, e9]
 unfold Blk.enc rdBlk
 simp only [List.append_assoc]; rfl
theorem decRun_inv {s : List UInt8} (h : (decRun s).2.2 = 0) : s = encL (decRun s).1 ++ s.drop (decRun s).2.1 := by
 have := (rdList_inv (e := Blk.enc) (f := rdBlk s) (s := s) (most := 24) (fun st h => rdBlk_inv h) (st := (0, 0)) h).2
 rw [List.drop_zero] at this
 rw [encL, encBs, List.append_assoc]
 exact this
theorem enc_dec {s : List UInt8} {l : List Blk} (h : decSpec s = (l, 0)) : listOk l = true ∧ encL l = s := by
 unfold decSpec at h
 split at h
 ·next h1 =>
  simp only [Prod.mk.injEq] at h
  exact absurd h.2 h1
 ·next h1 =>
  split at h
  ·simp at h
  ·next h2 =>
   split at h
   ·next h3 =>
    simp only [Prod.mk.injEq, and_true] at h
    subst h
    have h4 := decRun_inv (Decidable.not_not.1 h1)
    rw [List.drop_of_length_le (by omega), List.append_nil] at h4
    exact ⟨h3, h4.symm⟩
   ·simp at h
theorem rdI_err {s : List UInt8} {st : RS} (h : ¬ st.2 = 0) : (rdI s st).2 = st := by rw [rdI, if_neg h]
theorem rdT_err {s : List UInt8} {st : RS} (h : ¬ st.2 = 0) : (rdT s st).2 = st := by rw [rdT, if_neg h]
theorem decode_len (s : List UInt8) : (decSpec s).1.length ≤ 24 := by
 have h := (rdList_le (f := rdBlk s) (s := s) (most := 24) (fun _ => rdBlk_le) (st := (0, 0)) (Nat.zero_le _)).2
 have h2 : (decRun s).1.length ≤ 24 := h
 unfold decSpec
 split
 ·exact Nat.zero_le _
 ·split
  ·exact Nat.zero_le _
  ·split
   ·exact h2
   ·exact Nat.zero_le _
abbrev e0 : BA := ⟨#[]⟩
def Lab.zero : Lab := ⟨0, [], 0, 0⟩
def Fct.zero : Fct := ⟨0, 0, 0, 0, e0, 0, 0, e0, e0, [], [], Lab.zero, 0, 0, 0, e0, e0, 0, 0, 0⟩
inductive Fld where
 | n | time | kind | story | lang | rev | base | title | author | topics | blocks | label | editor | block | sentence | text | name | partner | cls | unt
deriving DecidableEq
inductive FTy where
 | int | str | topics | blocks | label
deriving DecidableEq
def Fld.ty : Fld → FTy
 | .n | .time | .kind | .story | .rev | .base | .editor | .block | .sentence | .partner | .cls | .unt => .int
 | .lang | .title | .author | .text | .name => .str
 | .topics => .topics
 | .blocks => .blocks
 | .label => .label
def Fld.off : Fld → Nat
 | .n => 0 | .time => 1 | .kind => 2 | .story => 3 | .lang => 4 | .rev => 5 | .base => 6 | .title => 7 | .author => 8 | .topics => 9 | .blocks => 10 | .label => 11
 | .editor => 15 | .block => 16 | .sentence => 17 | .text => 18 | .name => 19 | .partner => 20 | .cls => 21 | .unt => 22
abbrev FTy.T : FTy → Type
 | .int => Int
 | .str => BA
 | .topics => List BA
 | .blocks => List Blk
 | .label => Lab
def Fct.get (f : Fct) : (x : Fld) → x.ty.T
 | .n => f.n | .time => f.time | .kind => f.kind | .story => f.story | .lang => f.lang | .rev => f.rev | .base => f.base | .title => f.title | .author => f.author
 | .topics => f.topics | .blocks => f.blocks | .label => f.lab | .editor => f.editor | .block => f.block | .sentence => f.sentence | .text => f.text | .name => f.name | .partner => f.partner | .cls => f.cls | .unt => f.unt
def Fct.set (f : Fct) : (x : Fld) → x.ty.T → Fct
 | .n, v => { f with n := v } | .time, v => { f with time := v } | .kind, v => { f with kind := v } | .story, v => { f with story := v } | .lang, v => { f with lang := v }
 | .rev, v => { f with rev := v } | .base, v => { f with base := v } | .title, v => { f with title := v } | .author, v => { f with author := v } | .topics, v => { f with topics := v }
 | .blocks, v => { f with blocks := v } | .label, v => { f with lab := v } | .editor, v => { f with editor := v } | .block, v => { f with block := v } | .sentence, v => { f with sentence := v }
 | .text, v => { f with text := v } | .name, v => { f with name := v } | .partner, v => { f with partner := v } | .cls, v => { f with cls := v } | .unt, v => { f with unt := v }
theorem Fct.get_set (f : Fct) (x : Fld) (v : x.ty.T) : (f.set x v).get x = v := by cases x <;> rfl
theorem Fct.get_set_ne (f : Fct) {x y : Fld} (h : x ≠ y) (v : x.ty.T) : (f.set x v).get y = f.get y := by
 cases x <;> cases y <;> first | rfl | exact absurd rfl h
theorem Fct.ext_get {f g : Fct} (h : ∀ x, f.get x = g.get x) : f = g := by
 have h0 := h .n; have h1 := h .time; have h2 := h .kind; have h3 := h .story; have h4 := h .lang; have h5 := h .rev; have h6 := h .base; have h7 := h .title; have h8 := h .author
 have h9 := h .topics; have h10 := h .blocks; have h11 := h .label; have h12 := h .editor; have h13 := h .block; have h14 := h .sentence; have h15 := h .text; have h16 := h .name; have h17 := h .partner; have h18 := h .cls; have h19 := h .unt
 cases f; cases g
 simp only [Fct.get] at *
 subst h0 h1 h2 h3 h4 h5 h6 h7 h8 h9 h10 h11 h12 h13 h14 h15 h16 h17 h18 h19
 rfl
def kfields (k : Int) : List Fld :=
 if k = 1 then [.story, .lang, .rev, .base, .title, .author, .topics, .blocks, .label]
 else if k = 2 then [.story, .editor]
 else if k = 3 then [.story, .label]
 else if k = 4 then [.story, .lang, .block, .sentence, .text]
 else if k = 5 then [.story, .text]
 else if k = 6 then [.story]
 else if k = 7 then [.name, .text]
 else if k = 8 then [.partner, .cls, .unt]
 else if k = 9 then [.partner, .unt]
 else if k = 10 then [.story]
 else []
theorem kfields_facts (k : Int) : (kfields k).Nodup ∧ Fld.n ∉ kfields k ∧ Fld.time ∉ kfields k ∧ Fld.kind ∉ kfields k := by
 unfold kfields
 repeat' split
 all_goals decide
def Fct.bare (n time kind : Int) : Fct := { Fct.zero with n := n, time := time, kind := kind }
def Fct.used (f : Fct) : Fct := (kfields f.kind).foldl (fun g x => g.set x (f.get x)) (Fct.bare f.n f.time f.kind)
def srcB (b : Int) : Bool := decide (b = 10) || txtB b
def srcOk (s : BA) : Bool := decide (s.size ≤ 1000) && scan s srcB 0
def tLe (a b : BA) : Bool := Op.bytesLess a.toList b.toList || (a.toList == b.toList)
def tAfter : Option BA → BA → Bool
 | none, _ => true
 | some a, t => !tLe t a
def topicsGo : Option BA → List BA → Bool
 | _, [] => true
 | last, t :: r => nameOk t && (tAfter last t && topicsGo (some t) r)
def topicsOk (l : List BA) : Bool := decide (l.length ≤ 4) && topicsGo none l
def Fct.rvOk (f : Fct) : Bool := nameOk f.lang && (decide (1 ≤ f.rev ∧ f.rev ≤ 100) && (decide (0 ≤ f.base ∧ f.base ≤ f.rev - 1) && (fillOk f.title && (nameOk f.author && (topicsOk f.topics && (listOk f.blocks && f.lab.ok))))))
def Fct.coOk (f : Fct) : Bool := nameOk f.lang && (decide (1 ≤ f.block ∧ f.block ≤ 1000) && (decide (0 ≤ f.sentence ∧ f.sentence ≤ 299) && fillOk f.text))
def Fct.stOk (f : Fct) : Bool := decide (1 ≤ f.story ∧ f.story ≤ 64)
def Fct.paOk (f : Fct) : Bool := decide (1 ≤ f.partner ∧ f.partner ≤ 8 ∧ 0 ≤ f.unt ∧ f.unt ≤ 1000000000)
def Fct.vals (f : Fct) : Bool :=
 if f.kind = 1 then f.stOk && f.rvOk
 else if f.kind = 2 then f.stOk && decide (1 ≤ f.editor ∧ f.editor ≤ 5)
 else if f.kind = 3 then f.stOk && f.lab.ok
 else if f.kind = 4 then f.stOk && f.coOk
 else if f.kind = 5 then f.stOk && fillOk f.text
 else if f.kind = 6 then f.stOk
 else if f.kind = 7 then nameOk f.name && srcOk f.text
 else if f.kind = 8 then f.paOk && decide (0 ≤ f.cls ∧ f.cls ≤ 3)
 else if f.kind = 9 then f.paOk
 else if f.kind = 10 then f.stOk
 else false
def Fct.ok (f : Fct) : Bool := decide (0 ≤ f.n ∧ f.n ≤ 500 ∧ 0 ≤ f.time ∧ f.time ≤ 1000000000) && (f.vals && decide (f = f.used))
def putV : (t : FTy) → t.T → List UInt8
 | .int, n => Wire.enc n
 | .str, s => encS (bts s)
 | .topics, l => Wire.enc (l.length : Int) ++ l.flatMap fun s : BA => encS (bts s)
 | .blocks, l => encS (encL l)
 | .label, l => Wire.enc l.unt ++ (Wire.enc (l.after.length : Int) ++ (l.after.flatMap Wire.enc ++ (Wire.enc l.appr ++ Wire.enc l.den)))
def Fct.put (f : Fct) (x : Fld) : List UInt8 := putV x.ty (f.get x)
def Fct.head (f : Fct) : List UInt8 := Wire.enc f.n ++ (Wire.enc f.time ++ Wire.enc f.kind)
def encF (f : Fct) : List UInt8 := f.head ++ (kfields f.kind).flatMap f.put
def vOk : (t : FTy) → t.T → Prop
 | .int, n => okInt n
 | .str, s => s.size ≤ 65536
 | .topics, (l : List BA) => l.length ≤ 4 ∧ ∀ s ∈ l, s.size ≤ 65536
 | .blocks, l => listOk l = true
 | .label, l => okInt l.unt ∧ l.after.length ≤ 64 ∧ (∀ x ∈ l.after, okInt x) ∧ okInt l.appr ∧ okInt l.den
def fcnt (s : List UInt8) (most : Int) (st : RS) : Int × RS :=
 if (rdI s st).2.2 = 0 ∧ ((rdI s st).1 < 0 ∨ most < (rdI s st).1) then ((rdI s st).1, ((rdI s st).2.1, 50)) else rdI s st
def flist {α : Type} (f : RS → α × RS) (s : List UInt8) (most : Int) (st : RS) : List α × RS := rdMany f (fcnt s most st).1.toNat (fcnt s most st).2
def rdBlks (s : List UInt8) (st : RS) : List Blk × RS :=
 if (rdT s st).2.2 = 0 then (if (decSpec (bts (rdT s st).1)).2 = 0 then ((decSpec (bts (rdT s st).1)).1, (rdT s st).2) else ([], ((rdT s st).2.1, 50))) else ([], (rdT s st).2)
def rdL1 (s : List UInt8) (st : RS) := rdI s st
def rdL2 (s : List UInt8) (st : RS) := flist (rdI s) s 64 (rdL1 s st).2
def rdL3 (s : List UInt8) (st : RS) := rdI s (rdL2 s st).2
def rdL4 (s : List UInt8) (st : RS) := rdI s (rdL3 s st).2
def rdLab (s : List UInt8) (st : RS) : Lab × RS := (⟨(rdL1 s st).1, (rdL2 s st).1, (rdL3 s st).1, (rdL4 s st).1⟩, (rdL4 s st).2)
def rdV (s : List UInt8) : (t : FTy) → RS → t.T × RS
 | .int, st => rdI s st
 | .str, st => rdT s st
 | .topics, st => flist (rdT s) s 4 st
 | .blocks, st => rdBlks s st
 | .label, st => rdLab s st
def rdFld (s : List UInt8) (r : Fct × RS) (x : Fld) : Fct × RS := (r.1.set x (rdV s x.ty r.2).1, (rdV s x.ty r.2).2)
def rdH1 (s : List UInt8) := rdI s (0, 0)
def rdH2 (s : List UInt8) := rdI s (rdH1 s).2
def rdH3 (s : List UInt8) := rdI s (rdH2 s).2
def rdKind (s : List UInt8) : RS := if (rdH3 s).2.2 = 0 ∧ kfields (rdH3 s).1 = [] then ((rdH3 s).2.1, 50) else (rdH3 s).2
def decFRun (s : List UInt8) : Fct × RS := (kfields (rdH3 s).1).foldl (rdFld s) (Fct.bare (rdH1 s).1 (rdH2 s).1 (rdH3 s).1, rdKind s)
def decF (s : List UInt8) : Fct × Int :=
 if ¬ (decFRun s).2.2 = 0 then (Fct.zero, (decFRun s).2.2) else if (decFRun s).2.1 < s.length then (Fct.zero, 10) else if (decFRun s).1.ok = true then ((decFRun s).1, 0) else (Fct.zero, 50)
theorem encL_le {l : List Blk} (h : listOk l = true) : (encL l).length ≤ 30000 := by
 have h1 := encBs_len l (listOk_all h).2
 have h2 := (listOk_all h).1
 have h3 := enc_len (l.length : Int)
 rw [encL, List.length_append]; omega
theorem flist_fwd {α : Type} {f : RS → α × RS} {e : α → List UInt8} {s : List UInt8} {l : List α} {a most : Nat} {r : List UInt8} (hl : l.length ≤ most) (hm : most ≤ 65536) (hf : ∀ x ∈ l, ∀ a r, s.drop a = e x ++ r → f (a, 0) = (x, (a + (e x).length, 0)))
  (h : s.drop a = Wire.enc (l.length : Int) ++ (l.flatMap e ++ r)) : flist f s most (a, 0) = (l, (a + ((Wire.enc (l.length : Int)).length + (l.flatMap e).length), 0)) := by
 have h1 := rdI_fwd (okI (by omega)) h
 have h2 : fcnt s most (a, 0) = ((l.length : Int), (a + (Wire.enc (l.length : Int)).length, 0)) := by
  rw [fcnt, h1, if_neg (by simp only; omega)]
 rw [flist, h2]
 simp only [Int.toNat_natCast]
 rw [rdMany_fwd l _ r hf (drop_next h), Nat.add_assoc]
theorem rdV_fwd {s r : List UInt8} {a : Nat} : ∀ {t : FTy} {v : t.T}, vOk t v → s.drop a = putV t v ++ r → rdV s t (a, 0) = (v, (a + (putV t v).length, 0))
 | .int, n, hn, h => rdI_fwd hn h
 | .str, v, hv, h => rdT_fwd hv h
 | .topics, l, hl, h => by
  have h' : s.drop a = Wire.enc (l.length : Int) ++ ((l.flatMap fun s : BA => encS (bts s)) ++ r) := by rw [← List.append_assoc]; exact h
  have := flist_fwd (f := rdT s) (e := fun s : BA => encS (bts s)) (most := 4) hl.1 (by omega) (fun x hx a r h => rdT_fwd (hl.2 x hx) h) h'
  refine this.trans ?_
  simp only [putV, List.length_append]
 | .blocks, l, hl, h => by
  have h1 : rdT s (a, 0) = (ba (encL l), (a + (encS (encL l)).length, 0)) := by
   have := rdT_fwd (s := s) (r := r) (a := a) (t := ba (encL l)) (by rw [ba_size]; have := encL_le hl; omega) (by rw [bts_mk]; exact h)
   rw [bts_mk] at this
   exact this
  show rdBlks s (a, 0) = _
  rw [rdBlks, h1, if_pos rfl, bts_mk, dec_enc hl, if_pos rfl]
  rfl
 | .label, l, ⟨h1, h2, h3, h4, h5⟩, h => by
  have h : s.drop a = Wire.enc l.unt ++ (Wire.enc (l.after.length : Int) ++ (l.after.flatMap Wire.enc ++ (Wire.enc l.appr ++ (Wire.enc l.den ++ r)))) := by rw [h]; simp only [putV, List.append_assoc]
  have k1 := rdI_fwd h1 h; have d1 := drop_next h
  have k2 := flist_fwd (f := rdI s) (e := Wire.enc) (most := 64) h2 (by omega) (fun x hx a r h => rdI_fwd (h3 x hx) h) d1
  have d2 := drop_next (drop_next d1)
  rw [Nat.add_assoc] at d2
  have k3 := rdI_fwd h4 d2; have d3 := drop_next d2
  have k4 := rdI_fwd h5 d3
  have q1 : rdL1 s (a, 0) = _ := k1
  have q2 : rdL2 s (a, 0) = _ := (congrArg (fun x : (Int) × RS => flist (rdI s) s 64 x.2) q1).trans k2
  have q3 : rdL3 s (a, 0) = _ := (congrArg (fun x : (List Int) × RS => rdI s x.2) q2).trans k3
  have q4 : rdL4 s (a, 0) = _ := (congrArg (fun x : (Int) × RS => rdI s x.2) q3).trans k4
  show rdLab s (a, 0) = _
  rw [rdLab, q1, q2, q3, q4]
  simp only [Prod.mk.injEq, and_true, putV, List.length_append]
  refine ⟨trivial, by omega⟩
theorem fold_fwd {s : List UInt8} {f : Fct} : ∀ (l : List Fld) (g : Fct) (a : Nat) (r : List UInt8), (∀ x ∈ l, vOk x.ty (f.get x)) → s.drop a = l.flatMap f.put ++ r →
  l.foldl (rdFld s) (g, (a, 0)) = (l.foldl (fun g x => g.set x (f.get x)) g, (a + (l.flatMap f.put).length, 0))
 | [], g, a, r, _, h => rfl
 | x :: l, g, a, r, hv, h => by
  rw [List.flatMap_cons, List.append_assoc] at h
  have h1 := rdV_fwd (hv x List.mem_cons_self) h
  have h2 : rdFld s (g, (a, 0)) x = (g.set x (f.get x), (a + (f.put x).length, 0)) := by rw [rdFld, h1]; rfl
  rw [List.foldl_cons, h2, fold_fwd l _ _ r (fun y hy => hv y (List.mem_cons_of_mem _ hy)) (drop_next h), List.flatMap_cons, List.length_append, Nat.add_assoc]
  rfl
theorem Lab.ok_vOk {l : Lab} (h : l.ok = true) : vOk .label l := by
 simp only [Lab.ok, Bool.and_eq_true, decide_eq_true_eq] at h
 obtain ⟨hl, ha⟩ := h
 obtain ⟨h1, h2⟩ := asc_spec _ _ ha (by omega) (by omega)
 exact ⟨okI (by omega), by omega, fun x hx => okI (by have := h2 x hx; omega), okI (by omega), okI (by omega)⟩
theorem nameOk_sz {s : BA} (h : nameOk s = true) : s.size ≤ 20 := by
 simp only [nameOk, Bool.and_eq_true, decide_eq_true_eq] at h; omega
theorem fillOk_sz {s : BA} (h : fillOk s = true) : s.size ≤ 300 := by
 simp only [fillOk, txtOk, Bool.and_eq_true, decide_eq_true_eq] at h; omega
theorem srcOk_sz {s : BA} (h : srcOk s = true) : s.size ≤ 1000 := by
 simp only [srcOk, Bool.and_eq_true, decide_eq_true_eq] at h; omega
theorem topicsGo_all : ∀ (l : List BA) (last : Option BA), topicsGo last l = true → ∀ s ∈ l, nameOk s = true
 | [], _, _, _, hb => by cases hb
 | t :: r, last, h, s, hs => by
  simp only [topicsGo, Bool.and_eq_true] at h
  rcases List.mem_cons.1 hs with rfl | hs
  ·exact h.1
  ·exact topicsGo_all r (some t) h.2.2 s hs
theorem topicsOk_all {l : List BA} (h : topicsOk l = true) : l.length ≤ 4 ∧ ∀ s ∈ l, nameOk s = true := by
 simp only [topicsOk, Bool.and_eq_true, decide_eq_true_eq] at h
 exact ⟨h.1, topicsGo_all l none h.2⟩
theorem vals_kind {f : Fct} (h : f.vals = true) : 1 ≤ f.kind ∧ f.kind ≤ 10 := by
 unfold Fct.vals at h
 repeat' split at h
 all_goals first | omega | simp at h
theorem kfields_pos {k : Int} (h : 1 ≤ k ∧ k ≤ 10) : kfields k ≠ [] := by
 unfold kfields
 repeat' split
 all_goals first | omega | simp
theorem vals_vOk {f : Fct} (h : f.vals = true) : ∀ x ∈ kfields f.kind, vOk x.ty (f.get x) := by
 have hk := vals_kind h
 have hk : f.kind = 1 ∨ f.kind = 2 ∨ f.kind = 3 ∨ f.kind = 4 ∨ f.kind = 5 ∨ f.kind = 6 ∨ f.kind = 7 ∨ f.kind = 8 ∨ f.kind = 9 ∨ f.kind = 10 := by omega
 have I : ∀ {n : Int}, (0 ≤ n ∧ n ≤ 1000000000) → okInt n := fun h => okI (by omega)
 have N : ∀ {s : BA}, nameOk s = true → s.size ≤ 65536 := fun h => by have := nameOk_sz h; omega
 have F : ∀ {s : BA}, fillOk s = true → s.size ≤ 65536 := fun h => by have := fillOk_sz h; omega
 rcases hk with hk | hk | hk | hk | hk | hk | hk | hk | hk | hk
 ·have e : kfields f.kind = [.story, .lang, .rev, .base, .title, .author, .topics, .blocks, .label] := by rw [hk]; rfl
  have e2 : f.vals = (f.stOk && f.rvOk) := by unfold Fct.vals; rw [if_pos hk]
  rw [e2] at h
  simp only [Fct.stOk, Fct.rvOk, Bool.and_eq_true, decide_eq_true_eq] at h
  obtain ⟨h1, h2, h3, h4, h5, h6, h7, h8, h9⟩ := h
  have h10 := topicsOk_all h7
  rw [e]
  simp only [List.forall_mem_cons]
  exact ⟨I (by simp only [Fct.get]; omega), N h2, I (by simp only [Fct.get]; omega), I (by simp only [Fct.get]; omega), F h5, N h6, ⟨h10.1, fun s hs => N (h10.2 s hs)⟩, h8, Lab.ok_vOk h9, by simp⟩
 ·have e : kfields f.kind = [.story, .editor] := by rw [hk]; rfl
  have e2 : f.vals = (f.stOk && decide (1 ≤ f.editor ∧ f.editor ≤ 5)) := by unfold Fct.vals; simp only [hk, reduceIte, Int.reduceEq]
  rw [e2] at h
  simp only [Fct.stOk, Bool.and_eq_true, decide_eq_true_eq] at h
  rw [e]
  simp only [List.forall_mem_cons]
  exact ⟨I (by simp only [Fct.get]; omega), I (by simp only [Fct.get]; omega), by simp⟩
 ·have e : kfields f.kind = [.story, .label] := by rw [hk]; rfl
  have e2 : f.vals = (f.stOk && f.lab.ok) := by unfold Fct.vals; simp only [hk, reduceIte, Int.reduceEq]
  rw [e2] at h
  simp only [Fct.stOk, Bool.and_eq_true, decide_eq_true_eq] at h
  rw [e]
  simp only [List.forall_mem_cons]
  exact ⟨I (by simp only [Fct.get]; omega), Lab.ok_vOk h.2, by simp⟩
 ·have e : kfields f.kind = [.story, .lang, .block, .sentence, .text] := by rw [hk]; rfl
  have e2 : f.vals = (f.stOk && f.coOk) := by unfold Fct.vals; simp only [hk, reduceIte, Int.reduceEq]
  rw [e2] at h
  simp only [Fct.stOk, Fct.coOk, Bool.and_eq_true, decide_eq_true_eq] at h
  obtain ⟨h1, h2, h3, h4, h5⟩ := h
  rw [e]
  simp only [List.forall_mem_cons]
  exact ⟨I (by simp only [Fct.get]; omega), N h2, I (by simp only [Fct.get]; omega), I (by simp only [Fct.get]; omega), F h5, by simp⟩
 ·have e : kfields f.kind = [.story, .text] := by rw [hk]; rfl
  have e2 : f.vals = (f.stOk && fillOk f.text) := by unfold Fct.vals; simp only [hk, reduceIte, Int.reduceEq]
  rw [e2] at h
  simp only [Fct.stOk, Bool.and_eq_true, decide_eq_true_eq] at h
  rw [e]
  simp only [List.forall_mem_cons]
  exact ⟨I (by simp only [Fct.get]; omega), F h.2, by simp⟩
 ·have e : kfields f.kind = [.story] := by rw [hk]; rfl
  have e2 : f.vals = f.stOk := by unfold Fct.vals; simp only [hk, reduceIte, Int.reduceEq]
  rw [e2] at h
  simp only [Fct.stOk, decide_eq_true_eq] at h
  rw [e]
  simp only [List.forall_mem_cons]
  exact ⟨I (by simp only [Fct.get]; omega), by simp⟩
 ·have e : kfields f.kind = [.name, .text] := by rw [hk]; rfl
  have e2 : f.vals = (nameOk f.name && srcOk f.text) := by unfold Fct.vals; simp only [hk, reduceIte, Int.reduceEq]
  rw [e2] at h
  simp only [Bool.and_eq_true] at h
  rw [e]
  simp only [List.forall_mem_cons]
  exact ⟨N h.1, Nat.le_trans (srcOk_sz h.2) (by decide), by simp⟩
 ·have e : kfields f.kind = [.partner, .cls, .unt] := by rw [hk]; rfl
  have e2 : f.vals = (f.paOk && decide (0 ≤ f.cls ∧ f.cls ≤ 3)) := by unfold Fct.vals; simp only [hk, reduceIte, Int.reduceEq]
  rw [e2] at h
  simp only [Fct.paOk, Bool.and_eq_true, decide_eq_true_eq] at h
  rw [e]
  simp only [List.forall_mem_cons]
  exact ⟨I (by simp only [Fct.get]; omega), I (by simp only [Fct.get]; omega), I (by simp only [Fct.get]; omega), by simp⟩
 ·have e : kfields f.kind = [.partner, .unt] := by rw [hk]; rfl
  have e2 : f.vals = f.paOk := by unfold Fct.vals; simp only [hk, reduceIte, Int.reduceEq]
  rw [e2] at h
  simp only [Fct.paOk, decide_eq_true_eq] at h
  rw [e]
  simp only [List.forall_mem_cons]
  exact ⟨I (by simp only [Fct.get]; omega), I (by simp only [Fct.get]; omega), by simp⟩
 ·have e : kfields f.kind = [.story] := by rw [hk]; rfl
  have e2 : f.vals = f.stOk := by unfold Fct.vals; simp only [hk, reduceIte, Int.reduceEq]
  rw [e2] at h
  simp only [Fct.stOk, decide_eq_true_eq] at h
  rw [e]
  simp only [List.forall_mem_cons]
  exact ⟨I (by simp only [Fct.get]; omega), by simp⟩
structure Fct.Good (f : Fct) : Prop where
 n : 0 ≤ f.n ∧ f.n ≤ 500
 time : 0 ≤ f.time ∧ f.time ≤ 1000000000
 kind : 1 ≤ f.kind ∧ f.kind ≤ 10
 vals : f.vals = true
 fields : ∀ x ∈ kfields f.kind, vOk x.ty (f.get x)
 used : f = f.used
theorem Fct.good {f : Fct} (h : f.ok = true) : f.Good := by
 simp only [Fct.ok, Bool.and_eq_true, decide_eq_true_eq] at h
 obtain ⟨h1, h2, h3⟩ := h
 exact ⟨by omega, by omega, vals_kind h2, h2, vals_vOk h2, h3⟩
theorem decFRun_fwd {f : Fct} (h : f.ok = true) (r : List UInt8) : decFRun (encF f ++ r) = (f, ((encF f).length, 0)) := by
 have g := Fct.good h
 have hn := g.n; have ht := g.time; have hk := g.kind
 generalize hs : encF f ++ r = s
 have h0 : s.drop 0 = Wire.enc f.n ++ (Wire.enc f.time ++ (Wire.enc f.kind ++ ((kfields f.kind).flatMap f.put ++ r))) := by
  rw [← hs, List.drop_zero, encF, Fct.head]; simp only [List.append_assoc]
 have h1 := rdI_fwd (okI (by omega)) h0; have d1 := drop_next h0
 have h2 := rdI_fwd (okI (by omega)) d1; have d2 := drop_next d1
 have h3 := rdI_fwd (okI (by omega)) d2; have d3 := drop_next d2
 have q1 : rdH1 s = _ := h1
 have q2 : rdH2 s = _ := (congrArg (fun x : Int × RS => rdI s x.2) q1).trans h2
 have q3 : rdH3 s = _ := (congrArg (fun x : Int × RS => rdI s x.2) q2).trans h3
 have h4 := fold_fwd (f := f) (kfields f.kind) (Fct.bare f.n f.time f.kind) _ r g.fields d3
 rw [decFRun, rdKind, q1, q2, q3]
 simp only
 rw [if_neg (fun hh => kfields_pos hk hh.2), h4]
 have hu : (kfields f.kind).foldl (fun g x => g.set x (f.get x)) (Fct.bare f.n f.time f.kind) = f := g.used.symm
 rw [hu]
 simp only [encF, Fct.head, List.length_append, Prod.mk.injEq, true_and, and_true]
 omega
theorem decF_enc {f : Fct} (h : f.ok = true) : decF (encF f) = (f, 0) := by
 have := decFRun_fwd h []
 rw [List.append_nil] at this
 rw [decF, this, if_neg (by simp), if_neg (by simp), if_pos h]
theorem flist_inv {α : Type} {f : RS → α × RS} {e : α → List UInt8} {s : List UInt8} {most : Int} (hf : ∀ st, (f st).2.2 = 0 → st.2 = 0 ∧ s.drop st.1 = e (f st).1 ++ s.drop (f st).2.1) {st : RS} (h : (flist f s most st).2.2 = 0) :
  st.2 = 0 ∧ s.drop st.1 = Wire.enc ((flist f s most st).1.length : Int) ++ ((flist f s most st).1.flatMap e ++ s.drop (flist f s most st).2.1) := by
 unfold flist at *
 have h1 := rdMany_inv hf _ _ h
 have h2 : 0 ≤ (fcnt s most st).1 ∧ fcnt s most st = rdI s st := by
  have := h1.1
  unfold fcnt at this ⊢
  split at this
  ·simp at this
  ·next hc =>
   rw [if_neg hc]
   refine ⟨?_, rfl⟩
   apply Decidable.byContradiction
   intro h0
   exact hc ⟨this, .inl (by omega)⟩
 have h3 := h2.2
 rw [h3] at h1 h2 ⊢
 have h4 := rdI_inv h1.1
 refine ⟨h4.1, ?_⟩
 rw [h1.2.1, Int.toNat_of_nonneg h2.1, ← h1.2.2]
 exact h4.2.2
theorem rdV_inv {s : List UInt8} : ∀ {t : FTy} {st : RS}, (rdV s t st).2.2 = 0 → st.2 = 0 ∧ s.drop st.1 = putV t (rdV s t st).1 ++ s.drop (rdV s t st).2.1
 | .int, st, h => ⟨(rdI_inv h).1, (rdI_inv h).2.2⟩
 | .str, st, h => rdT_inv h
 | .topics, st, h => by
  have := flist_inv (f := rdT s) (e := fun t : BA => encS (bts t)) (s := s) (fun st h => rdT_inv h) (st := st) h
  refine ⟨this.1, this.2.trans ?_⟩
  rw [← List.append_assoc]; rfl
 | .blocks, st, h => by
  have h : (rdBlks s st).2.2 = 0 := h
  show st.2 = 0 ∧ s.drop st.1 = putV .blocks (rdBlks s st).1 ++ s.drop (rdBlks s st).2.1
  by_cases h1 : (rdT s st).2.2 = 0
  ·by_cases h2 : (decSpec (bts (rdT s st).1)).2 = 0
   ·have h3 := rdT_inv h1
    have h4 := enc_dec (s := bts (rdT s st).1) (l := (decSpec (bts (rdT s st).1)).1) (Prod.ext rfl h2)
    rw [rdBlks, if_pos h1, if_pos h2]
    refine ⟨h3.1, ?_⟩
    show s.drop st.1 = encS (encL _) ++ _
    rw [h4.2]
    exact h3.2
   ·rw [rdBlks, if_pos h1, if_neg h2] at h
    simp at h
  ·rw [rdBlks, if_neg h1] at h
   exact absurd h h1
 | .label, st, h => by
  have h4 : (rdI s (rdL3 s st).2).2.2 = 0 := h
  have k4 := rdI_inv h4
  have k3 := rdI_inv (s := s) (st := (rdL2 s st).2) k4.1
  have k2 := flist_inv (e := Wire.enc) (f := rdI s) (most := 64) (fun st h => ⟨(rdI_inv h).1, (rdI_inv h).2.2⟩) (st := (rdL1 s st).2) k3.1
  have k1 := rdI_inv (s := s) (st := st) k2.1
  refine ⟨k1.1, ?_⟩
  have e1 : s.drop st.1 = Wire.enc (rdL1 s st).1 ++ s.drop (rdL1 s st).2.1 := k1.2.2
  have e2 : s.drop (rdL1 s st).2.1 = Wire.enc ((rdL2 s st).1.length : Int) ++ ((rdL2 s st).1.flatMap Wire.enc ++ s.drop (rdL2 s st).2.1) := k2.2
  have e3 : s.drop (rdL2 s st).2.1 = Wire.enc (rdL3 s st).1 ++ s.drop (rdL3 s st).2.1 := k3.2.2
  have e4 : s.drop (rdL3 s st).2.1 = Wire.enc (rdL4 s st).1 ++ s.drop (rdL4 s st).2.1 := k4.2.2
  rw [e1, e2, e3, e4]
  show _ = (Wire.enc (rdL1 s st).1 ++ (Wire.enc ((rdL2 s st).1.length : Int) ++ ((rdL2 s st).1.flatMap Wire.enc ++ (Wire.enc (rdL3 s st).1 ++ Wire.enc (rdL4 s st).1)))) ++ s.drop (rdL4 s st).2.1
  simp only [List.append_assoc]
theorem fold_keep {s : List UInt8} {y : Fld} : ∀ (l : List Fld) (r : Fct × RS), y ∉ l → (l.foldl (rdFld s) r).1.get y = r.1.get y
 | [], r, _ => rfl
 | x :: l, r, h => by
  rw [List.foldl_cons, fold_keep l _ (fun hh => h (List.mem_cons_of_mem _ hh)), rdFld]
  exact Fct.get_set_ne _ (fun hh => h (by rw [hh]; exact List.mem_cons_self)) _
theorem fold_inv {s : List UInt8} : ∀ (l : List Fld) (r : Fct × RS), l.Nodup → (l.foldl (rdFld s) r).2.2 = 0 → r.2.2 = 0 ∧ s.drop r.2.1 = l.flatMap (l.foldl (rdFld s) r).1.put ++ s.drop (l.foldl (rdFld s) r).2.1
 | [], r, _, h => ⟨h, rfl⟩
 | x :: l, r, hd, h => by
  rw [List.nodup_cons] at hd
  rw [List.foldl_cons] at h ⊢
  have h1 := fold_inv l (rdFld s r x) hd.2 h
  have h2 := rdV_inv (s := s) (t := x.ty) (st := r.2) h1.1
  refine ⟨h2.1, ?_⟩
  have h3 : (l.foldl (rdFld s) (rdFld s r x)).1.put x = putV x.ty (rdV s x.ty r.2).1 := by
   unfold Fct.put
   rw [fold_keep l _ hd.1, rdFld, Fct.get_set]
  rw [List.flatMap_cons, h3, List.append_assoc, ← h1.2]
  exact h2.2
theorem decFRun_inv {s : List UInt8} (h : (decFRun s).2.2 = 0) : s = encF (decFRun s).1 ++ s.drop (decFRun s).2.1 := by
 have hf := kfields_facts (rdH3 s).1
 have h1 := fold_inv (s := s) (kfields (rdH3 s).1) (Fct.bare (rdH1 s).1 (rdH2 s).1 (rdH3 s).1, rdKind s) hf.1 h
 have hk : rdKind s = (rdH3 s).2 := by
  have := h1.1
  unfold rdKind at this ⊢
  simp only at this
  split
  ·next hc => rw [if_pos hc] at this; simp at this
  ·rfl
 have h2 : (rdH3 s).2.2 = 0 := by rw [← hk]; exact h1.1
 have k3 := rdI_inv (s := s) (st := (rdH2 s).2) h2
 have k2 := rdI_inv (s := s) (st := (rdH1 s).2) k3.1
 have k1 := rdI_inv (s := s) (st := (0, 0)) k2.1
 have n1 : (decFRun s).1.n = (rdH1 s).1 := fold_keep (s := s) (y := .n) (kfields (rdH3 s).1) (Fct.bare (rdH1 s).1 (rdH2 s).1 (rdH3 s).1, rdKind s) hf.2.1
 have n2 : (decFRun s).1.time = (rdH2 s).1 := fold_keep (s := s) (y := .time) (kfields (rdH3 s).1) (Fct.bare (rdH1 s).1 (rdH2 s).1 (rdH3 s).1, rdKind s) hf.2.2.1
 have n3 : (decFRun s).1.kind = (rdH3 s).1 := fold_keep (s := s) (y := .kind) (kfields (rdH3 s).1) (Fct.bare (rdH1 s).1 (rdH2 s).1 (rdH3 s).1, rdKind s) hf.2.2.2
 have e1 : s = Wire.enc (rdH1 s).1 ++ s.drop (rdH1 s).2.1 := by have := k1.2.2; rwa [List.drop_zero] at this
 have e2 : s.drop (rdH1 s).2.1 = Wire.enc (rdH2 s).1 ++ s.drop (rdH2 s).2.1 := k2.2.2
 have e3 : s.drop (rdH2 s).2.1 = Wire.enc (rdH3 s).1 ++ s.drop (rdH3 s).2.1 := k3.2.2
 have e4 : s.drop (rdH3 s).2.1 = (kfields (rdH3 s).1).flatMap (decFRun s).1.put ++ s.drop (decFRun s).2.1 := by rw [← hk]; exact h1.2
 rw [encF, Fct.head, n1, n2, n3]
 simp only [List.append_assoc]
 rw [← e4, ← e3, ← e2]
 exact e1
theorem enc_decF {s : List UInt8} {f : Fct} (h : decF s = (f, 0)) : f.ok = true ∧ encF f = s := by
 unfold decF at h
 split at h
 ·next h1 =>
  simp only [Prod.mk.injEq] at h
  exact absurd h.2 h1
 ·next h1 =>
  split at h
  ·simp at h
  ·next h2 =>
   split at h
   ·next h3 =>
    simp only [Prod.mk.injEq, and_true] at h
    subst h
    have h4 := decFRun_inv (Decidable.not_not.1 h1)
    rw [List.drop_of_length_le (by omega), List.append_nil] at h4
    exact ⟨h3, h4.symm⟩
   ·simp at h
theorem decF_err (s : List UInt8) : ((decF s).2 = 0 ∧ (decF s).1.ok = true) ∨ ((decF s).1 = Fct.zero ∧ (decF s).2 ≠ 0) := by
 unfold decF
 split
 ·next h => exact .inr ⟨rfl, h⟩
 ·split
  ·exact .inr ⟨rfl, by simp⟩
  ·split
   ·next h => exact .inl ⟨rfl, h⟩
   ·exact .inr ⟨rfl, by simp⟩
theorem fcnt_err {s : List UInt8} {m : Int} {st : RS} (h : ¬ st.2 = 0) : (fcnt s m st).2 = st := by
 rw [fcnt, if_neg (fun h0 => h (by rw [rdI_err h] at h0; exact h0.1)), rdI_err h]
theorem flist_err {α : Type} {f : RS → α × RS} {s : List UInt8} {m : Int} {st : RS} (h : ¬ st.2 = 0) : (flist f s m st).2 = st := by
 rw [flist, rdMany_err (by rw [fcnt_err h]; exact h), fcnt_err h]
theorem rdV_err {s : List UInt8} : ∀ {t : FTy} {st : RS}, ¬ st.2 = 0 → (rdV s t st).2 = st
 | .int, st, h => rdI_err h
 | .str, st, h => rdT_err h
 | .topics, st, h => flist_err h
 | .blocks, st, h => by
  show (rdBlks s st).2 = st
  rw [rdBlks, if_neg (by rw [rdT_err h]; exact h)]
  exact rdT_err h
 | .label, st, h => by
  have e1 : (rdL1 s st).2 = st := rdI_err h
  have e2 : (rdL2 s st).2 = st := by rw [rdL2, e1]; exact flist_err h
  have e3 : (rdL3 s st).2 = st := by rw [rdL3, e2]; exact rdI_err h
  show (rdL4 s st).2 = st
  rw [rdL4, e3]; exact rdI_err h
theorem fold_err {s : List UInt8} : ∀ (l : List Fld) (r : Fct × RS), ¬ r.2.2 = 0 → (l.foldl (rdFld s) r).2 = r.2
 | [], r, _ => rfl
 | x :: l, r, h => by
  have h1 : (rdFld s r x).2 = r.2 := rdV_err h
  rw [List.foldl_cons, fold_err l _ (by rw [h1]; exact h), h1]
theorem fcnt_le {s : List UInt8} {m : Int} {st : RS} (h : st.1 ≤ s.length) : (fcnt s m st).2.1 ≤ s.length := by
 unfold fcnt
 split
 ·exact rdI_le h
 ·exact rdI_le h
theorem fcnt_ok {s : List UInt8} {m : Int} {st : RS} (h : (fcnt s m st).2.2 = 0) : 0 ≤ (fcnt s m st).1 ∧ (fcnt s m st).1 ≤ m := by
 unfold fcnt at *
 split at h
 ·simp at h
 ·next hn => rw [if_neg hn]; omega
theorem flist_le {α : Type} {f : RS → α × RS} {s : List UInt8} {m : Nat} (hf : ∀ st, st.1 ≤ s.length → (f st).2.1 ≤ s.length) {st : RS} (h : st.1 ≤ s.length) : (flist f s m st).2.1 ≤ s.length ∧ (flist f s m st).1.length ≤ m := by
 unfold flist
 have := rdMany_le hf (fcnt s m st).1.toNat (fcnt s m st).2 (fcnt_le h)
 refine ⟨this.1, ?_⟩
 by_cases he : (fcnt s m st).2.2 = 0
 ·have := fcnt_ok he
  omega
 ·rw [rdMany_err he]; simp
theorem rdBlks_le {s : List UInt8} {st : RS} (h : st.1 ≤ s.length) : (rdBlks s st).2.1 ≤ s.length := by
 unfold rdBlks
 split
 ·split
  ·exact (rdT_le h).1
  ·exact (rdT_le h).1
 ·exact (rdT_le h).1
theorem rdLab_le {s : List UInt8} {st : RS} (h : st.1 ≤ s.length) : (rdL1 s st).2.1 ≤ s.length ∧ (rdL2 s st).2.1 ≤ s.length ∧ (rdL3 s st).2.1 ≤ s.length ∧ (rdL4 s st).2.1 ≤ s.length := by
 have h1 : (rdL1 s st).2.1 ≤ s.length := rdI_le h
 have h2 : (rdL2 s st).2.1 ≤ s.length := (flist_le (f := rdI s) (m := 64) (fun st => rdI_le) h1).1
 have h3 : (rdL3 s st).2.1 ≤ s.length := rdI_le h2
 exact ⟨h1, h2, h3, rdI_le h3⟩
theorem rdV_le {s : List UInt8} : ∀ {t : FTy} {st : RS}, st.1 ≤ s.length → (rdV s t st).2.1 ≤ s.length
 | .int, st, h => rdI_le h
 | .str, st, h => (rdT_le h).1
 | .topics, st, h => (flist_le (f := rdT s) (m := 4) (fun st h => (rdT_le h).1) h).1
 | .blocks, st, h => rdBlks_le h
 | .label, st, h => (rdLab_le h).2.2.2
theorem rdH_le (s : List UInt8) : (rdH1 s).2.1 ≤ s.length ∧ (rdH2 s).2.1 ≤ s.length ∧ (rdH3 s).2.1 ≤ s.length := by
 have h1 : (rdH1 s).2.1 ≤ s.length := rdI_le (Nat.zero_le _)
 have h2 : (rdH2 s).2.1 ≤ s.length := rdI_le h1
 exact ⟨h1, h2, rdI_le h2⟩
set_option maxRecDepth 100000
def consN_c0 (s1 : BA) (i : Int) (w0 : World) (R : Ending → World → Prop) : Prop :=
 AtE TP 143 28 (KC Tryz.f143 116) [(0, .string s1), (3, .func (.func 145) #[] #[]), (9, IV i)] [] [] w0 (nrm R)
theorem consN_c0_vc (s1 : BA) (i : Int)
 (H :
 Br (i < (s1.size : Int))
 ((0 ≤ i ∧ i < s1.size) ∧
 Br ((97 : Int) ≤ (bat s1 i))
 (Br ((bat s1 i) ≤ (122 : Int))
 (∀ i1 : Int, i1 = (IntKind.i64.wrap (i + (1 : Int))) →
 consN_c0 s1 i1 w0 R)
 (Br ((48 : Int) ≤ (bat s1 i))
 (Br ((bat s1 i) ≤ (57 : Int))
 (∀ i2 : Int, i2 = (IntKind.i64.wrap (i + (1 : Int))) →
 consN_c0 s1 i2 w0 R)
 (Bn ((bat s1 i) = (45 : Int))
 (Fin R [] [] w0 (.bool false))
 (∀ i3 : Int, i3 = (IntKind.i64.wrap (i + (1 : Int))) →
 consN_c0 s1 i3 w0 R)))
 (Bn ((bat s1 i) = (45 : Int))
 (Fin R [] [] w0 (.bool false))
 (∀ i4 : Int, i4 = (IntKind.i64.wrap (i + (1 : Int))) →
 consN_c0 s1 i4 w0 R))))
 (Br ((48 : Int) ≤ (bat s1 i))
 (Br ((bat s1 i) ≤ (57 : Int))
 (∀ i5 : Int, i5 = (IntKind.i64.wrap (i + (1 : Int))) →
 consN_c0 s1 i5 w0 R)
 (Bn ((bat s1 i) = (45 : Int))
 (Fin R [] [] w0 (.bool false))
 (∀ i6 : Int, i6 = (IntKind.i64.wrap (i + (1 : Int))) →
 consN_c0 s1 i6 w0 R)))
 (Bn ((bat s1 i) = (45 : Int))
 (Fin R [] [] w0 (.bool false))
 (∀ i7 : Int, i7 = (IntKind.i64.wrap (i + (1 : Int))) →
 consN_c0 s1 i7 w0 R))))
 (Fin R [] [] w0 (.bool true))) :
 consN_c0 s1 i w0 R:= by
 unfold consN_c0
 refine .ru 8 (.sP 19 H (fun H => ?_) fun H => ?_)
 ·refine .ru 9 (.indexS (s := s1) (kd := .i64) (i := i) (by kernel_rfl) H.1 ?_)
  replace H := H.2
  refine .nm (KR Tryz.f143 1864 [4,5]) [(0, .string s1), (3, .func (.func 145) #[] #[]), (9, IV i), (22, .func (.func 145) #[] #[]), (25, .int .u8 (bat s1 i))] [] (.il 145 [.int .u8 (bat s1 i)] 21 Tryz.func145 (.ru 9 (.sP 5 H (fun H => ?_) fun H => ?_)))
  ·refine .ru 4 (.sP 9 H (fun H => ?_) fun H => ?_)
   ·refine .ru 13 (.rk Tryz.func145 (.ru 9 (.lI 9 H fun i1 H => (.ru 2 (.ct [] H)))))
   ·refine .ru 3 (.sP 12 H (fun H => ?_) fun H => ?_)
    ·refine .ru 5 (.sP 17 H (fun H => ?_) fun H => ?_)
     ·refine .ru 5 (.rk Tryz.func145 (.ru 9 (.lI 9 H fun i2 H => (.ru 2 (.ct [] H)))))
     ·refine .ru 5 (.rk Tryz.func145 (.ru 2 (.sN 27 H (fun H => ?_) fun H => ?_)))
      ·refine .ru 5 (.rt Tryz.func143 H)
      ·refine .ru 7 (.lI 9 H fun i3 H => (.ru 2 (.ct [] H)))
    ·refine .ru 10 (.rk Tryz.func145 (.ru 2 (.sN 27 H (fun H => ?_) fun H => ?_)))
     ·refine .ru 5 (.rt Tryz.func143 H)
     ·refine .ru 7 (.lI 9 H fun i4 H => (.ru 2 (.ct [] H)))
  ·refine .ru 7 (.sP 12 H (fun H => ?_) fun H => ?_)
   ·refine .ru 5 (.sP 17 H (fun H => ?_) fun H => ?_)
    ·refine .ru 5 (.rk Tryz.func145 (.ru 9 (.lI 9 H fun i5 H => (.ru 2 (.ct [] H)))))
    ·refine .ru 5 (.rk Tryz.func145 (.ru 2 (.sN 27 H (fun H => ?_) fun H => ?_)))
     ·refine .ru 5 (.rt Tryz.func143 H)
     ·refine .ru 7 (.lI 9 H fun i6 H => (.ru 2 (.ct [] H)))
   ·refine .ru 10 (.rk Tryz.func145 (.ru 2 (.sN 27 H (fun H => ?_) fun H => ?_)))
    ·refine .ru 5 (.rt Tryz.func143 H)
    ·refine .ru 7 (.lI 9 H fun i7 H => (.ru 2 (.ct [] H)))
 ·refine .ru 6 (.rt Tryz.func143 H)
theorem consN_vc (s : BA) (least most : Int) (hm : Mem [] [] w0 W)
 (H :
 Br (least ≤ (s.size : Int))
 (Bn ((s.size : Int) ≤ most)
 (Fin R [] [] w0 (.bool false))
 (consN_c0 s (0 : Int) w0 R))
 (Fin R [] [] w0 (.bool false))) :
 Calls TP 143 ⟨[.string s, IV least, IV most, .func (.func 145) #[] #[]]⟩ W R:= by
 refine AtE.cs 28 Tryz.func143 hm (.ru 11 (.il 64 [IV (s.size : Int), IV least, IV most] 15 Tryz.func64 (.ru 10 (.sP 10 H (fun H => ?_) fun H => ?_))))
 ·refine .ru 6 (.rk Tryz.func64 (.ru 2 (.sN 15 H (fun H => ?_) fun H => ?_)))
  ·refine .ru 5 (.rt Tryz.func143 H)
  ·refine .ru 9 (.ct [] H)
 ·refine .ru 6 (.rk Tryz.func64 (.ru 7 (.rt Tryz.func143 H)))
def consT_c0 (s1 : BA) (i : Int) (w0 : World) (R : Ending → World → Prop) : Prop :=
 AtE TP 143 28 (KC Tryz.f143 116) [(0, .string s1), (3, .func (.func 144) #[] #[]), (9, IV i)] [] [] w0 (nrm R)
theorem consT_c0_vc (s1 : BA) (i : Int)
 (H :
 Br (i < (s1.size : Int))
 ((0 ≤ i ∧ i < s1.size) ∧
 Br ((32 : Int) ≤ (bat s1 i))
 (Bn ((bat s1 i) ≤ (126 : Int))
 (Fin R [] [] w0 (.bool false))
 (∀ i1 : Int, i1 = (IntKind.i64.wrap (i + (1 : Int))) →
 consT_c0 s1 i1 w0 R))
 (Fin R [] [] w0 (.bool false)))
 (Fin R [] [] w0 (.bool true))) :
 consT_c0 s1 i w0 R:= by
 unfold consT_c0
 refine .ru 8 (.sP 19 H (fun H => ?_) fun H => ?_)
 ·refine .ru 9 (.indexS (s := s1) (kd := .i64) (i := i) (by kernel_rfl) H.1 ?_)
  replace H := H.2
  refine .nm (KR Tryz.f143 1864 [4,5]) [(0, .string s1), (3, .func (.func 144) #[] #[]), (9, IV i), (22, .func (.func 144) #[] #[]), (25, .int .u8 (bat s1 i))] [] (.il 144 [.int .u8 (bat s1 i)] 9 Tryz.func144 (.ru 9 (.sP 5 H (fun H => ?_) fun H => ?_)))
  ·refine .ru 5 (.rk Tryz.func144 (.ru 2 (.sN 27 H (fun H => ?_) fun H => ?_)))
   ·refine .ru 5 (.rt Tryz.func143 H)
   ·refine .ru 7 (.lI 9 H fun i1 H => (.ru 2 (.ct [] H)))
  ·refine .ru 5 (.rk Tryz.func144 (.ru 7 (.rt Tryz.func143 H)))
 ·refine .ru 6 (.rt Tryz.func143 H)
theorem consT_vc (s : BA) (least most : Int) (hm : Mem [] [] w0 W)
 (H :
 Br (least ≤ (s.size : Int))
 (Bn ((s.size : Int) ≤ most)
 (Fin R [] [] w0 (.bool false))
 (consT_c0 s (0 : Int) w0 R))
 (Fin R [] [] w0 (.bool false))) :
 Calls TP 143 ⟨[.string s, IV least, IV most, .func (.func 144) #[] #[]]⟩ W R:= by
 refine AtE.cs 28 Tryz.func143 hm (.ru 11 (.il 64 [IV (s.size : Int), IV least, IV most] 15 Tryz.func64 (.ru 10 (.sP 10 H (fun H => ?_) fun H => ?_))))
 ·refine .ru 6 (.rk Tryz.func64 (.ru 2 (.sN 15 H (fun H => ?_) fun H => ?_)))
  ·refine .ru 5 (.rt Tryz.func143 H)
  ·refine .ru 9 (.ct [] H)
 ·refine .ru 6 (.rk Tryz.func64 (.ru 7 (.rt Tryz.func143 H)))
def consS_c0 (s1 : BA) (i : Int) (w0 : World) (R : Ending → World → Prop) : Prop :=
 AtE TP 143 28 (KC Tryz.f143 116) [(0, .string s1), (3, .func (.func 146) #[] #[]), (9, IV i)] [] [] w0 (nrm R)
theorem consS_c0_vc (s1 : BA) (i : Int)
 (H :
 Br (i < (s1.size : Int))
 ((0 ≤ i ∧ i < s1.size) ∧
 Br ((bat s1 i) = (10 : Int))
 (∀ i1 : Int, i1 = (IntKind.i64.wrap (i + (1 : Int))) →
 consS_c0 s1 i1 w0 R)
 (Br ((32 : Int) ≤ (bat s1 i))
 (Bn ((bat s1 i) ≤ (126 : Int))
 (Fin R [] [] w0 (.bool false))
 (∀ i2 : Int, i2 = (IntKind.i64.wrap (i + (1 : Int))) →
 consS_c0 s1 i2 w0 R))
 (Fin R [] [] w0 (.bool false))))
 (Fin R [] [] w0 (.bool true))) :
 consS_c0 s1 i w0 R:= by
 unfold consS_c0
 refine .ru 8 (.sP 19 H (fun H => ?_) fun H => ?_)
 ·refine .ru 9 (.indexS (s := s1) (kd := .i64) (i := i) (by kernel_rfl) H.1 ?_)
  replace H := H.2
  refine .nm (KR Tryz.f143 1864 [4,5]) [(0, .string s1), (3, .func (.func 146) #[] #[]), (9, IV i), (22, .func (.func 146) #[] #[]), (25, .int .u8 (bat s1 i))] [] (.il 146 [.int .u8 (bat s1 i)] 9 Tryz.func146 (.ru 9 (.sP 5 H (fun H => ?_) fun H => ?_)))
  ·refine .ru 5 (.rk Tryz.func146 (.ru 9 (.lI 9 H fun i1 H => (.ru 2 (.ct [] H)))))
  ·refine .ru 1 (.nm (KR Tryz.f146 6 [4,5,6]) [(5, .bool false), (6, .int .u8 (bat s1 i))] [] (.il 144 [.int .u8 (bat s1 i)] 9 Tryz.func144 (.ru 9 (.sP 5 H (fun H => ?_) fun H => ?_))))
   ·refine .ru 5 (.rk Tryz.func144 (.ru 3 (.rk Tryz.func146 (.ru 2 (.sN 27 H (fun H => ?_) fun H => ?_)))))
    ·refine .ru 5 (.rt Tryz.func143 H)
    ·refine .ru 7 (.lI 9 H fun i2 H => (.ru 2 (.ct [] H)))
   ·refine .ru 5 (.rk Tryz.func144 (.ru 3 (.rk Tryz.func146 (.ru 7 (.rt Tryz.func143 H)))))
 ·refine .ru 6 (.rt Tryz.func143 H)
theorem consS_vc (s : BA) (least most : Int) (hm : Mem [] [] w0 W)
 (H :
 Br (least ≤ (s.size : Int))
 (Bn ((s.size : Int) ≤ most)
 (Fin R [] [] w0 (.bool false))
 (consS_c0 s (0 : Int) w0 R))
 (Fin R [] [] w0 (.bool false))) :
 Calls TP 143 ⟨[.string s, IV least, IV most, .func (.func 146) #[] #[]]⟩ W R:= by
 refine AtE.cs 28 Tryz.func143 hm (.ru 11 (.il 64 [IV (s.size : Int), IV least, IV most] 15 Tryz.func64 (.ru 10 (.sP 10 H (fun H => ?_) fun H => ?_))))
 ·refine .ru 6 (.rk Tryz.func64 (.ru 2 (.sN 15 H (fun H => ?_) fun H => ?_)))
  ·refine .ru 5 (.rt Tryz.func143 H)
  ·refine .ru 9 (.ct [] H)
 ·refine .ru 6 (.rk Tryz.func64 (.ru 7 (.rt Tryz.func143 H)))
theorem fName_vc (s : BA) (hm : Mem [] [] w0 W)
 (H :
 CallH TP 143 ⟨[.string s, IV 1, IV 20, .func (.func 145) #[] #[]]⟩ [] [] w0 (fun v L' => ∃ r1, v = .bool r1 ∧ L' = [] ∧
 Fin R [] [] w0 (.bool r1))) :
 Calls TP 104 ⟨[.string s]⟩ W R:= by
 refine AtE.cs 5 Tryz.func104 hm (.ru 7 (.cl H ?_))
 rintro _ _ ⟨r1, rfl, rfl, H⟩
 refine .ru 2 (.rt Tryz.func104 H)
theorem fText_vc (s : BA) (hm : Mem [] [] w0 W)
 (H :
 CallH TP 143 ⟨[.string s, IV 1, IV 300, .func (.func 144) #[] #[]]⟩ [] [] w0 (fun v L' => ∃ r1, v = .bool r1 ∧ L' = [] ∧
 Fin R [] [] w0 (.bool r1))) :
 Calls TP 103 ⟨[.string s]⟩ W R:= by
 refine AtE.cs 5 Tryz.func103 hm (.ru 7 (.cl H ?_))
 rintro _ _ ⟨r1, rfl, rfl, H⟩
 refine .ru 2 (.rt Tryz.func103 H)
theorem fSource_vc (s : BA) (hm : Mem [] [] w0 W)
 (H :
 CallH TP 143 ⟨[.string s, IV 0, IV 1000, .func (.func 146) #[] #[]]⟩ [] [] w0 (fun v L' => ∃ r1, v = .bool r1 ∧ L' = [] ∧
 Fin R [] [] w0 (.bool r1))) :
 Calls TP 105 ⟨[.string s]⟩ W R:= by
 refine AtE.cs 5 Tryz.func105 hm (.ru 7 (.cl H ?_))
 rintro _ _ ⟨r1, rfl, rfl, H⟩
 refine .ru 2 (.rt Tryz.func105 H)
def areTopics_c0 (l_p : OA) (l_l l_c : Nat) (t10 : Int) (w0 : World) (R : Ending → World → Prop) : Prop :=
 AtE TP 140 32 (KC Tryz.f140 116) [(0, .slice l_p l_l l_c), (8, .slice l_p l_l l_c), (9, IV (l_l : Int)), (10, IV t10)] [] [] w0 (nrm R)
theorem areTopics_c0_vc (l_p : OA) (l_l l_c : Nat) (t10 : Int)
 (H :
 Br (t10 < (l_l : Int))
 (∃ l_pb l_po : Nat, l_p = some ⟨l_pb, l_po, none⟩ ∧ (0 ≤ t10 ∧ t10 < l_l) ∧
 ∃ (cw : List Value) (m1 : BA), blkW w0 l_pb = some cw ∧ cw[(l_po + (Int.toNat t10))]? = some (.string m1) ∧
 CallH TP 104 ⟨[.string m1]⟩ [] [] w0 (fun v L' => ∃ r1, v = .bool r1 ∧ L' = [] ∧
 Bb (r1)
 (Br ((0 : Int) < t10)
 (∃ l_pb1 l_po1 : Nat, l_p = some ⟨l_pb1, l_po1, none⟩ ∧ (0 ≤ (IntKind.i64.wrap (t10 - (1 : Int))) ∧ (IntKind.i64.wrap (t10 - (1 : Int))) < l_l) ∧
 ∃ (cw1 : List Value) (m21 : BA), blkW w0 l_pb1 = some cw1 ∧ cw1[(l_po1 + (Int.toNat (IntKind.i64.wrap (t10 - (1 : Int)))))]? = some (.string m21) ∧
 Bb (((Op.bytesLess m1.toList m21.toList) || (m1.toList == m21.toList)))
 (Fin R [] [] w0 (.bool false))
 (areTopics_c0 l_p l_l l_c (IntKind.i64.wrap (t10 + (1 : Int))) w0 R))
 (areTopics_c0 l_p l_l l_c (IntKind.i64.wrap (t10 + (1 : Int))) w0 R))
 (Fin R [] [] w0 (.bool false))))
 (Fin R [] [] w0 (.bool true))) :
 areTopics_c0 l_p l_l l_c t10 w0 R:= by
 unfold areTopics_c0
 refine .ru 5 (.sP 11 H (fun H => ?_) fun H => ?_)
 ·refine .ru 7 ?_
  obtain ⟨l_pb, l_po, hp, H⟩ := H
  refine .indexAddrP (E := 9) (p := l_p) (b := l_pb) (o := l_po) (len := l_l) (cap := l_c) (sz := 1) (o' := (l_po + (Int.toNat t10))) (kd := .i64) (i := t10) hp (by kernel_rfl) H.1 (by omega) ?_
  replace H := H.2
  obtain ⟨cw, m1, hw, hx, H⟩ := H
  refine .loadW (b := l_pb) (off := (l_po + (Int.toNat t10))) (T := 9) (v := .string m1) (by kernel_rfl) List.not_mem_nil hw (valAt_one hx (by kernel_rfl)) (.ru 6 (.cl H ?_))
  rintro _ _ ⟨r1, rfl, rfl, H⟩
  refine .sB 16 H (fun H => ?_) fun H => ?_
  ·refine .ru 5 (.sP 21 H (fun H => ?_) fun H => ?_)
   ·refine .ru 4 ?_
    obtain ⟨l_pb1, l_po1, hp, H⟩ := H
    refine .indexAddrP (E := 9) (p := l_p) (b := l_pb1) (o := l_po1) (len := l_l) (cap := l_c) (sz := 1) (o' := (l_po1 + (Int.toNat (IntKind.i64.wrap (t10 - (1 : Int)))))) (kd := .i64) (i := (IntKind.i64.wrap (t10 - (1 : Int)))) hp (by kernel_rfl) H.1 (by omega) ?_
    replace H := H.2
    obtain ⟨cw1, m21, hw, hx, H⟩ := H
    refine .loadW (b := l_pb1) (off := (l_po1 + (Int.toNat (IntKind.i64.wrap (t10 - (1 : Int)))))) (T := 9) (v := .string m21) (by kernel_rfl) List.not_mem_nil hw (valAt_one hx (by kernel_rfl)) (.ru 4 (.sB 30 H (fun H => ?_) fun H => ?_))
    ·refine .ru 5 (.rt Tryz.func140 H)
    ·refine .ru 8 (.ct [] H)
   ·refine .ru 18 (.ct [] H)
  ·refine .ru 20 (.rt Tryz.func140 H)
 ·refine .ru 6 (.rt Tryz.func140 H)
theorem areTopics_vc (l_p : OA) (l_l l_c : Nat) (hm : Mem [] [] w0 W)
 (H :
 Br ((4 : Int) < (l_l : Int))
 (Fin R [] [] w0 (.bool false))
 (areTopics_c0 l_p l_l l_c (0 : Int) w0 R)) :
 Calls TP 140 ⟨[.slice l_p l_l l_c]⟩ W R:= by
 refine AtE.cs 32 Tryz.func140 hm (.ru 11 (.sP 7 H (fun H => ?_) fun H => ?_))
 ·refine .ru 5 (.rt Tryz.func140 H)
 ·refine .ru 11 (.ct [] H)
def eqStrs_c0 (s1_p : OA) (s1_l s1_c : Nat) (s2_p : OA) (s2_l s2_c : Nat) (t13 : Int) (w0 : World) (R : Ending → World → Prop) : Prop :=
 AtE TP 106 26 (KC Tryz.f106 116) [(0, .slice s1_p s1_l s1_c), (1, .slice s2_p s2_l s2_c), (12, IV (s1_l : Int)), (13, IV t13)] [] [] w0 (nrm R)
theorem eqStrs_c0_vc (s1_p : OA) (s1_l s1_c : Nat) (s2_p : OA) (s2_l s2_c : Nat) (t13 : Int)
 (H :
 Br (t13 < (s1_l : Int))
 (∃ s1_pb s1_po : Nat, s1_p = some ⟨s1_pb, s1_po, none⟩ ∧ (0 ≤ t13 ∧ t13 < s1_l) ∧
 ∃ (cw : List Value) (m1 : BA), blkW w0 s1_pb = some cw ∧ cw[(s1_po + (Int.toNat t13))]? = some (.string m1) ∧
 ∃ s2_pb s2_po : Nat, s2_p = some ⟨s2_pb, s2_po, none⟩ ∧ (0 ≤ t13 ∧ t13 < s2_l) ∧
 ∃ (cw1 : List Value) (m21 : BA), blkW w0 s2_pb = some cw1 ∧ cw1[(s2_po + (Int.toNat t13))]? = some (.string m21) ∧
 ((¬ m1 = m21) →
 Fin R [] [] w0 (.bool false)) ∧
 ((m1 = m21) →
 eqStrs_c0 s1_p s1_l s1_c s2_p s2_l s2_c (IntKind.i64.wrap (t13 + (1 : Int))) w0 R))
 (Fin R [] [] w0 (.bool true))) :
 eqStrs_c0 s1_p s1_l s1_c s2_p s2_l s2_c t13 w0 R:= by
 unfold eqStrs_c0
 refine .ru 5 (.sP 14 H (fun H => ?_) fun H => ?_)
 ·refine .ru 10 (.nm (KC Tryz.f106 7474) [(0, .slice s1_p s1_l s1_c), (1, .slice s2_p s2_l s2_c), (5, IV t13), (12, IV (s1_l : Int)), (13, IV t13)] [] (.dr 9 (.pu (.pu ?_))))
  obtain ⟨s1_pb, s1_po, hp, H⟩ := H
  refine .indexAddrP (E := 9) (p := s1_p) (b := s1_pb) (o := s1_po) (len := s1_l) (cap := s1_c) (sz := 1) (o' := (s1_po + (Int.toNat t13))) (kd := .i64) (i := t13) hp (by kernel_rfl) H.1 (by omega) ?_
  replace H := H.2
  obtain ⟨cw, m1, hw, hx, H⟩ := H
  refine .loadW (b := s1_pb) (off := (s1_po + (Int.toNat t13))) (T := 9) (v := .string m1) (by kernel_rfl) List.not_mem_nil hw (valAt_one hx (by kernel_rfl)) (.pu (.pu ?_))
  obtain ⟨s2_pb, s2_po, hp, H⟩ := H
  refine .indexAddrP (E := 9) (p := s2_p) (b := s2_pb) (o := s2_po) (len := s2_l) (cap := s2_c) (sz := 1) (o' := (s2_po + (Int.toNat t13))) (kd := .i64) (i := t13) hp (by kernel_rfl) H.1 (by omega) ?_
  replace H := H.2
  obtain ⟨cw1, m21, hw, hx, H⟩ := H
  refine .loadW (b := s2_pb) (off := (s2_po + (Int.toNat t13))) (T := 9) (v := .string m21) (by kernel_rfl) List.not_mem_nil hw (valAt_one hx (by kernel_rfl)) (.pu (.dn (.ru 1 (.splitT 24 (x := m1) (y := m21) (by kernel_rfl) (fun h3' => ?_) (fun h3' => ?_)))))
  ·replace H := H.1 h3'
   refine .ru 5 (.rt Tryz.func106 H)
  ·replace H := H.2 h3'
   refine .ru 8 (.ct [] H)
 ·refine .ru 6 (.rt Tryz.func106 H)
theorem eqStrs_vc (s1_p : OA) (s1_l s1_c : Nat) (s2_p : OA) (s2_l s2_c : Nat) (hm : Mem [] [] w0 W)
 (H :
 Bn ((s1_l : Int) = (s2_l : Int))
 (Fin R [] [] w0 (.bool false))
 (eqStrs_c0 s1_p s1_l s1_c s2_p s2_l s2_c (0 : Int) w0 R)) :
 Calls TP 106 ⟨[.slice s1_p s1_l s1_c, .slice s2_p s2_l s2_c]⟩ W R:= by
 refine AtE.cs 26 Tryz.func106 hm (.ru 13 (.sN 10 H (fun H => ?_) fun H => ?_))
 ·refine .ru 5 (.rt Tryz.func106 H)
 ·refine .ru 11 (.ct [] H)
set_option maxRecDepth 100000
abbrev isRevH0 (B : Nat) (f : Fct) (ftp : OA) (ftc : Nat) (fbp : OA) (fbc : Nat) (fap : OA) (fac : Nat) : SHeap := [(B, .cells ⟨f.cells ftp ftc fbp fbc fap fac⟩ 38)]
abbrev isRevA0 (f : Fct) (ftp : OA) (ftc : Nat) (fbp : OA) (fbc : Nat) (fap : OA) (fac : Nat) : Array Value := ⟨f.cells ftp ftc fbp fbc fap fac⟩
theorem isRev_vc (f : Fct) (ftp : OA) (ftc : Nat) (fbp : OA) (fbc : Nat) (fap : OA) (fac : Nat) (hm : Mem [] [] w0 W)
 (H :
 ∀ B : Nat,
 CallH TP 104 ⟨[.string f.lang]⟩ (isRevH0 B f ftp ftc fbp fbc fap fac) [] w0 (fun v L' => ∃ r1, v = .bool r1 ∧ L' = (isRevH0 B f ftp ftc fbp fbc fap fac) ∧
 Bb (r1)
 (Br ((1 : Int) ≤ f.rev)
 (Br (f.rev ≤ 100)
 (Br ((0 : Int) ≤ f.base)
 (Br (f.base ≤ (IntKind.i64.wrap (f.rev - (1 : Int))))
 (CallH TP 103 ⟨[.string f.title]⟩ (isRevH0 B f ftp ftc fbp fbc fap fac) [] w0 (fun v L' => ∃ r41, v = .bool r41 ∧ L' = (isRevH0 B f ftp ftc fbp fbc fap fac) ∧
 Bb (r41)
 (CallH TP 104 ⟨[.string f.author]⟩ (isRevH0 B f ftp ftc fbp fbc fap fac) [] w0 (fun v L' => ∃ r51, v = .bool r51 ∧ L' = (isRevH0 B f ftp ftc fbp fbc fap fac) ∧
 Bb (r51)
 (CallH TP 140 ⟨[.slice ftp f.topics.length ftc]⟩ (isRevH0 B f ftp ftc fbp fbc fap fac) [] w0 (fun v L' => ∃ r61, v = .bool r61 ∧ L' = (isRevH0 B f ftp ftc fbp fbc fap fac) ∧
 Bb (r61)
 (CallH TP 141 ⟨[.slice fbp f.blocks.length fbc]⟩ (isRevH0 B f ftp ftc fbp fbc fap fac) [] w0 (fun v L' => ∃ r71, v = .bool r71 ∧ L' = (isRevH0 B f ftp ftc fbp fbc fap fac) ∧
 Bb (r71)
 (CallH TP 101 ⟨[.agg #[IV f.lab.unt, .slice fap f.lab.after.length fac, IV f.lab.appr, IV f.lab.den]]⟩ (isRevH0 B f ftp ftc fbp fbc fap fac) [] w0 (fun v L' => ∃ r81, v = .bool r81 ∧ L' = (isRevH0 B f ftp ftc fbp fbc fap fac) ∧
 Fin R (isRevH0 B f ftp ftc fbp fbc fap fac) [] w0 (.bool r81)))
 (Fin R (isRevH0 B f ftp ftc fbp fbc fap fac) [] w0 (.bool false))))
 (Fin R (isRevH0 B f ftp ftc fbp fbc fap fac) [] w0 (.bool false))))
 (Fin R (isRevH0 B f ftp ftc fbp fbc fap fac) [] w0 (.bool false))))
 (Fin R (isRevH0 B f ftp ftc fbp fbc fap fac) [] w0 (.bool false))))
 (Fin R (isRevH0 B f ftp ftc fbp fbc fap fac) [] w0 (.bool false)))
 (Fin R (isRevH0 B f ftp ftc fbp fbc fap fac) [] w0 (.bool false)))
 (Fin R (isRevH0 B f ftp ftc fbp fbc fap fac) [] w0 (.bool false)))
 (Fin R (isRevH0 B f ftp ftc fbp fbc fap fac) [] w0 (.bool false)))
 (Fin R (isRevH0 B f ftp ftc fbp fbc fap fac) [] w0 (.bool false)))) :
 Calls TP 100 ⟨[.agg (isRevA0 f ftp ftc fbp fbc fap fac)]⟩ W R:= by
 refine AtE.cs 44 Tryz.func100 hm (.ru 2 (.nH (.cells (isRevA0 f ftp ftc fbp fbc fap fac) 38) H fun B H => (.ru 5 (.ld 0 4 (.cl H ?_)))))
 rintro _ _ ⟨r1, rfl, rfl, H⟩
 refine .ru 1 (.sB 6 H (fun H => ?_) fun H => ?_)
 ·refine .ru 1 (.ld 0 5 (.nm (KR Tryz.f100 6 [6,7,8,9,10,11,12,13,14,15,16,17,18,19,20,21,22,23,24,25,26,27,28,29,30,31,32,33,34,35,36,37,38,39,40,41]) [(1, PP B), (6, .bool true), (8, IV f.rev)] (isRevH0 B f ftp ftc fbp fbc fap fac) (.il 64 [IV f.rev, IV 1, IV 100] 15 Tryz.func64 (.ru 10 (.sP 10 H (fun H => ?_) fun H => ?_)))))
  ·refine .ru 6 (.rk Tryz.func64 (.ru 2 (.sP 11 H (fun H => ?_) fun H => ?_)))
   ·refine .ru 1 (.ld 0 6 (.ru 1 (.ld 0 5 (.ru 1 (.nm (KR Tryz.f100 6 [14,15,16,17,18,19,20,21,22,23,24,25,26,27,28,29,30,31,32,33,34,35,36,37,38,39,40,41]) [(1, PP B), (11, .bool true), (13, IV f.base), (16, IV (IntKind.i64.wrap (f.rev - (1 : Int))))] (isRevH0 B f ftp ftc fbp fbc fap fac) (.il 64 [IV f.base, IV 0, IV (IntKind.i64.wrap (f.rev - (1 : Int)))] 15 Tryz.func64 (.ru 10 (.sP 10 H (fun H => ?_) fun H => ?_))))))))
    ·refine .ru 6 (.rk Tryz.func64 (.ru 2 (.sP 19 H (fun H => ?_) fun H => ?_)))
     ·refine .ru 1 (.ld 0 7 (.cl H ?_))
      rintro _ _ ⟨r41, rfl, rfl, H⟩
      refine .ru 2 (.sB 24 H (fun H => ?_) fun H => ?_)
      ·refine .ru 1 (.ld 0 8 (.cl H ?_))
       rintro _ _ ⟨r51, rfl, rfl, H⟩
       refine .ru 2 (.sB 29 H (fun H => ?_) fun H => ?_)
       ·refine .ru 1 (.ld 0 9 (.cl H ?_))
        rintro _ _ ⟨r61, rfl, rfl, H⟩
        refine .ru 2 (.sB 34 H (fun H => ?_) fun H => ?_)
        ·refine .ru 1 (.ld 0 10 (.cl H ?_))
         rintro _ _ ⟨r71, rfl, rfl, H⟩
         refine .ru 2 (.sB 39 H (fun H => ?_) fun H => ?_)
         ·refine .ru 1 (.ld 0 11 (.cl H ?_))
          rintro _ _ ⟨r81, rfl, rfl, H⟩
          refine .ru 3 (.rt Tryz.func100 H)
         ·refine .ru 6 (.rt Tryz.func100 H)
        ·refine .ru 11 (.rt Tryz.func100 H)
       ·refine .ru 16 (.rt Tryz.func100 H)
      ·refine .ru 21 (.rt Tryz.func100 H)
     ·refine .ru 26 (.rt Tryz.func100 H)
    ·refine .ru 6 (.rk Tryz.func64 (.ru 28 (.rt Tryz.func100 H)))
   ·refine .ru 34 (.rt Tryz.func100 H)
  ·refine .ru 6 (.rk Tryz.func64 (.ru 36 (.rt Tryz.func100 H)))
 ·refine .ru 39 (.rt Tryz.func100 H)
abbrev isCorH0 (B : Nat) (f : Fct) (ftp : OA) (ftc : Nat) (fbp : OA) (fbc : Nat) (fap : OA) (fac : Nat) : SHeap := [(B, .cells ⟨f.cells ftp ftc fbp fbc fap fac⟩ 38)]
abbrev isCorA0 (f : Fct) (ftp : OA) (ftc : Nat) (fbp : OA) (fbc : Nat) (fap : OA) (fac : Nat) : Array Value := ⟨f.cells ftp ftc fbp fbc fap fac⟩
theorem isCor_vc (f : Fct) (ftp : OA) (ftc : Nat) (fbp : OA) (fbc : Nat) (fap : OA) (fac : Nat) (hm : Mem [] [] w0 W)
 (H :
 ∀ B : Nat,
 CallH TP 104 ⟨[.string f.lang]⟩ (isCorH0 B f ftp ftc fbp fbc fap fac) [] w0 (fun v L' => ∃ r1, v = .bool r1 ∧ L' = (isCorH0 B f ftp ftc fbp fbc fap fac) ∧
 Bb (r1)
 (Br ((1 : Int) ≤ f.block)
 (Br (f.block ≤ 1000)
 (Br ((0 : Int) ≤ f.sentence)
 (Br (f.sentence ≤ 299)
 (CallH TP 103 ⟨[.string f.text]⟩ (isCorH0 B f ftp ftc fbp fbc fap fac) [] w0 (fun v L' => ∃ r41, v = .bool r41 ∧ L' = (isCorH0 B f ftp ftc fbp fbc fap fac) ∧
 Fin R (isCorH0 B f ftp ftc fbp fbc fap fac) [] w0 (.bool r41)))
 (Fin R (isCorH0 B f ftp ftc fbp fbc fap fac) [] w0 (.bool false)))
 (Fin R (isCorH0 B f ftp ftc fbp fbc fap fac) [] w0 (.bool false)))
 (Fin R (isCorH0 B f ftp ftc fbp fbc fap fac) [] w0 (.bool false)))
 (Fin R (isCorH0 B f ftp ftc fbp fbc fap fac) [] w0 (.bool false)))
 (Fin R (isCorH0 B f ftp ftc fbp fbc fap fac) [] w0 (.bool false)))) :
 Calls TP 102 ⟨[.agg (isCorA0 f ftp ftc fbp fbc fap fac)]⟩ W R:= by
 refine AtE.cs 21 Tryz.func102 hm (.ru 2 (.nH (.cells (isCorA0 f ftp ftc fbp fbc fap fac) 38) H fun B H => (.ru 5 (.ld 0 4 (.cl H ?_)))))
 rintro _ _ ⟨r1, rfl, rfl, H⟩
 refine .ru 1 (.sB 6 H (fun H => ?_) fun H => ?_)
 ·refine .ru 1 (.ld 0 16 (.nm (KR Tryz.f102 6 [6,7,8,9,10,11,12,13,14,15,16,17,18]) [(1, PP B), (6, .bool true), (8, IV f.block)] (isCorH0 B f ftp ftc fbp fbc fap fac) (.il 64 [IV f.block, IV 1, IV 1000] 15 Tryz.func64 (.ru 10 (.sP 10 H (fun H => ?_) fun H => ?_)))))
  ·refine .ru 6 (.rk Tryz.func64 (.ru 2 (.sP 11 H (fun H => ?_) fun H => ?_)))
   ·refine .ru 1 (.ld 0 17 (.nm (KR Tryz.f102 6 [11,12,13,14,15,16,17,18]) [(1, PP B), (11, .bool true), (13, IV f.sentence)] (isCorH0 B f ftp ftc fbp fbc fap fac) (.il 64 [IV f.sentence, IV 0, IV 299] 15 Tryz.func64 (.ru 10 (.sP 10 H (fun H => ?_) fun H => ?_)))))
    ·refine .ru 6 (.rk Tryz.func64 (.ru 2 (.sP 16 H (fun H => ?_) fun H => ?_)))
     ·refine .ru 1 (.ld 0 18 (.cl H ?_))
      rintro _ _ ⟨r41, rfl, rfl, H⟩
      refine .ru 3 (.rt Tryz.func102 H)
     ·refine .ru 6 (.rt Tryz.func102 H)
    ·refine .ru 6 (.rk Tryz.func64 (.ru 8 (.rt Tryz.func102 H)))
   ·refine .ru 11 (.rt Tryz.func102 H)
  ·refine .ru 6 (.rk Tryz.func64 (.ru 13 (.rt Tryz.func102 H)))
 ·refine .ru 16 (.rt Tryz.func102 H)
abbrev fSameH0 (B : Nat) (x : Fct) (xtp : OA) (xtc : Nat) (xbp : OA) (xbc : Nat) (xap : OA) (xac B1 : Nat) (y : Fct) (ytp : OA) (ytc : Nat) (ybp : OA) (ybc : Nat) (yap : OA) (yac : Nat) : SHeap := [(B, .cells ⟨x.cells xtp xtc xbp xbc xap xac⟩ 38), (B1, .cells ⟨y.cells ytp ytc ybp ybc yap yac⟩ 38)]
abbrev fSameA0 (x : Fct) (xtp : OA) (xtc : Nat) (xbp : OA) (xbc : Nat) (xap : OA) (xac : Nat) : Array Value := ⟨x.cells xtp xtc xbp xbc xap xac⟩
abbrev fSameA1 (y : Fct) (ytp : OA) (ytc : Nat) (ybp : OA) (ybc : Nat) (yap : OA) (yac : Nat) : Array Value := ⟨y.cells ytp ytc ybp ybc yap yac⟩
theorem fSame_vc (x : Fct) (xtp : OA) (xtc : Nat) (xbp : OA) (xbc : Nat) (xap : OA) (xac : Nat) (y : Fct) (ytp : OA) (ytc : Nat) (ybp : OA) (ybc : Nat) (yap : OA) (yac : Nat) (hm : Mem [] [] w0 W)
 (H :
 ∀ B B1 : Nat,
 Br (x.n = y.n)
 (Br (x.time = y.time)
 (Br (x.kind = y.kind)
 (Br (x.story = y.story)
 (((x.lang = y.lang) →
 Br (x.rev = y.rev)
 (Br (x.base = y.base)
 (((x.title = y.title) →
 ((x.author = y.author) →
 CallH TP 106 ⟨[.slice xtp x.topics.length xtc, .slice ytp y.topics.length ytc]⟩ (fSameH0 B x xtp xtc xbp xbc xap xac B1 y ytp ytc ybp ybc yap yac) [] w0 (fun v L' => ∃ r1, v = .bool r1 ∧ L' = (fSameH0 B x xtp xtc xbp xbc xap xac B1 y ytp ytc ybp ybc yap yac) ∧
 Bb (r1)
 (CallH TP 107 ⟨[.slice xbp x.blocks.length xbc, .slice ybp y.blocks.length ybc]⟩ (fSameH0 B x xtp xtc xbp xbc xap xac B1 y ytp ytc ybp ybc yap yac) [] w0 (fun v L' => ∃ r21, v = .bool r21 ∧ L' = (fSameH0 B x xtp xtc xbp xbc xap xac B1 y ytp ytc ybp ybc yap yac) ∧
 Bb (r21)
 (CallH TP 108 ⟨[.agg #[IV x.lab.unt, .slice xap x.lab.after.length xac, IV x.lab.appr, IV x.lab.den], .agg #[IV y.lab.unt, .slice yap y.lab.after.length yac, IV y.lab.appr, IV y.lab.den]]⟩ (fSameH0 B x xtp xtc xbp xbc xap xac B1 y ytp ytc ybp ybc yap yac) [] w0 (fun v L' => ∃ r31, v = .bool r31 ∧ L' = (fSameH0 B x xtp xtc xbp xbc xap xac B1 y ytp ytc ybp ybc yap yac) ∧
 Bb (r31)
 (Br (x.editor = y.editor)
 (Br (x.block = y.block)
 (Br (x.sentence = y.sentence)
 (((x.text = y.text) →
 ((x.name = y.name) →
 Br (x.partner = y.partner)
 (Br (x.cls = y.cls)
 (Fin R (fSameH0 B x xtp xtc xbp xbc xap xac B1 y ytp ytc ybp ybc yap yac) [] w0 (.bool (decide (x.unt = y.unt))))
 (Fin R (fSameH0 B x xtp xtc xbp xbc xap xac B1 y ytp ytc ybp ybc yap yac) [] w0 (.bool false)))
 (Fin R (fSameH0 B x xtp xtc xbp xbc xap xac B1 y ytp ytc ybp ybc yap yac) [] w0 (.bool false))) ∧
 ((¬ x.name = y.name) →
 Fin R (fSameH0 B x xtp xtc xbp xbc xap xac B1 y ytp ytc ybp ybc yap yac) [] w0 (.bool false))) ∧
 ((¬ x.text = y.text) →
 Fin R (fSameH0 B x xtp xtc xbp xbc xap xac B1 y ytp ytc ybp ybc yap yac) [] w0 (.bool false)))
 (Fin R (fSameH0 B x xtp xtc xbp xbc xap xac B1 y ytp ytc ybp ybc yap yac) [] w0 (.bool false)))
 (Fin R (fSameH0 B x xtp xtc xbp xbc xap xac B1 y ytp ytc ybp ybc yap yac) [] w0 (.bool false)))
 (Fin R (fSameH0 B x xtp xtc xbp xbc xap xac B1 y ytp ytc ybp ybc yap yac) [] w0 (.bool false)))
 (Fin R (fSameH0 B x xtp xtc xbp xbc xap xac B1 y ytp ytc ybp ybc yap yac) [] w0 (.bool false))))
 (Fin R (fSameH0 B x xtp xtc xbp xbc xap xac B1 y ytp ytc ybp ybc yap yac) [] w0 (.bool false))))
 (Fin R (fSameH0 B x xtp xtc xbp xbc xap xac B1 y ytp ytc ybp ybc yap yac) [] w0 (.bool false)))) ∧
 ((¬ x.author = y.author) →
 Fin R (fSameH0 B x xtp xtc xbp xbc xap xac B1 y ytp ytc ybp ybc yap yac) [] w0 (.bool false))) ∧
 ((¬ x.title = y.title) →
 Fin R (fSameH0 B x xtp xtc xbp xbc xap xac B1 y ytp ytc ybp ybc yap yac) [] w0 (.bool false)))
 (Fin R (fSameH0 B x xtp xtc xbp xbc xap xac B1 y ytp ytc ybp ybc yap yac) [] w0 (.bool false)))
 (Fin R (fSameH0 B x xtp xtc xbp xbc xap xac B1 y ytp ytc ybp ybc yap yac) [] w0 (.bool false))) ∧
 ((¬ x.lang = y.lang) →
 Fin R (fSameH0 B x xtp xtc xbp xbc xap xac B1 y ytp ytc ybp ybc yap yac) [] w0 (.bool false)))
 (Fin R (fSameH0 B x xtp xtc xbp xbc xap xac B1 y ytp ytc ybp ybc yap yac) [] w0 (.bool false)))
 (Fin R (fSameH0 B x xtp xtc xbp xbc xap xac B1 y ytp ytc ybp ybc yap yac) [] w0 (.bool false)))
 (Fin R (fSameH0 B x xtp xtc xbp xbc xap xac B1 y ytp ytc ybp ybc yap yac) [] w0 (.bool false)))
 (Fin R (fSameH0 B x xtp xtc xbp xbc xap xac B1 y ytp ytc ybp ybc yap yac) [] w0 (.bool false))) :
 Calls TP 66 ⟨[.agg (fSameA0 x xtp xtc xbp xbc xap xac), .agg (fSameA1 y ytp ytc ybp ybc yap yac)]⟩ W R:= by
 refine AtE.cs 143 Tryz.func66 hm (.ru 2 (.nH (.cells (fSameA0 x xtp xtc xbp xbc xap xac) 38) H fun B H => (.nH (.cells (fSameA1 y ytp ytc ybp ybc yap yac) 38) H fun B1 H => (.ru 5 (.ld 0 0 (.ru 1 (.ld 1 0 (.ru 2 (.sP 10 H (fun H => ?_) fun H => ?_)))))))))
 ·refine .ru 1 (.ld 0 1 (.ru 1 (.ld 1 1 (.ru 3 (.sP 17 H (fun H => ?_) fun H => ?_)))))
  ·refine .ru 1 (.ld 0 2 (.ru 1 (.ld 1 2 (.ru 3 (.sP 24 H (fun H => ?_) fun H => ?_)))))
   ·refine .ru 1 (.ld 0 3 (.ru 1 (.ld 1 3 (.ru 3 (.sP 31 H (fun H => ?_) fun H => ?_)))))
    ·refine .ru 1 (.ld 0 4 (.ru 1 (.ld 1 4 (.ru 3 (.splitS 38 (x := x.lang) (y := y.lang) (by kernel_rfl) (fun h5' => ?_) (fun h5' => ?_))))))
     ·replace H := H.1 h5'
      refine .ru 1 (.ld 0 5 (.ru 1 (.ld 1 5 (.ru 3 (.sP 45 H (fun H => ?_) fun H => ?_)))))
      ·refine .ru 1 (.ld 0 6 (.ru 1 (.ld 1 6 (.ru 3 (.sP 52 H (fun H => ?_) fun H => ?_)))))
       ·refine .ru 1 (.ld 0 7 (.nm (KR Tryz.f66 6 [50,51,52,53,54,55,56,57,58,59,60,61,62,63,64,65,66,67,68,69,70,71,72,73,74,75,76,77,78,79,80,81,82,83,84,85,86,87,88,89,90,91,92,93,94,95,96,97,98,99,100,101,102,103,104,105,106,107,108,109,110,111,112,113,114,115,116,117,118,119,120,121,122,123,124,125,126,127,128,129,130,131,132,133,134,135,136,137,138]) [(2, PP B), (3, PP B1), (52, .bool true), (54, .string x.title)] (fSameH0 B x xtp xtc xbp xbc xap xac B1 y ytp ytc ybp ybc yap yac) (.ru 1 (.ld 1 7 (.ru 3 (.splitS 59 (x := x.title) (y := y.title) (by kernel_rfl) (fun h8' => ?_) (fun h8' => ?_)))))))
        ·replace H := H.1 h8'
         refine .ru 1 (.ld 0 8 (.ru 1 (.ld 1 8 (.ru 3 (.splitS 66 (x := x.author) (y := y.author) (by kernel_rfl) (fun h9' => ?_) (fun h9' => ?_))))))
         ·replace H := H.1 h9'
          refine .ru 1 (.ld 0 9 (.ru 1 (.ld 1 9 (.cl H ?_))))
          rintro _ _ ⟨r1, rfl, rfl, H⟩
          refine .ru 2 (.sB 73 H (fun H => ?_) fun H => ?_)
          ·refine .ru 1 (.ld 0 10 (.ru 1 (.ld 1 10 (.cl H ?_))))
           rintro _ _ ⟨r21, rfl, rfl, H⟩
           refine .ru 2 (.sB 80 H (fun H => ?_) fun H => ?_)
           ·refine .ru 1 (.ld 0 11 (.ru 1 (.ld 1 11 (.cl H ?_))))
            rintro _ _ ⟨r31, rfl, rfl, H⟩
            refine .ru 2 (.sB 87 H (fun H => ?_) fun H => ?_)
            ·refine .ru 1 (.ld 0 15 (.ru 1 (.ld 1 15 (.ru 3 (.sP 94 H (fun H => ?_) fun H => ?_)))))
             ·refine .ru 1 (.ld 0 16 (.ru 1 (.ld 1 16 (.ru 3 (.sP 101 H (fun H => ?_) fun H => ?_)))))
              ·refine .ru 1 (.ld 0 17 (.nm (KR Tryz.f66 6 [99,100,101,102,103,104,105,106,107,108,109,110,111,112,113,114,115,116,117,118,119,120,121,122,123,124,125,126,127,128,129,130,131,132,133,134,135,136,137,138]) [(2, PP B), (3, PP B1), (101, .bool true), (103, IV x.sentence)] (fSameH0 B x xtp xtc xbp xbc xap xac B1 y ytp ytc ybp ybc yap yac) (.ru 1 (.ld 1 17 (.ru 3 (.sP 108 H (fun H => ?_) fun H => ?_))))))
               ·refine .ru 1 (.ld 0 18 (.ru 1 (.ld 1 18 (.ru 3 (.splitS 115 (x := x.text) (y := y.text) (by kernel_rfl) (fun h16' => ?_) (fun h16' => ?_))))))
                ·replace H := H.1 h16'
                 refine .ru 1 (.ld 0 19 (.ru 1 (.ld 1 19 (.ru 3 (.splitS 122 (x := x.name) (y := y.name) (by kernel_rfl) (fun h17' => ?_) (fun h17' => ?_))))))
                 ·replace H := H.1 h17'
                  refine .ru 1 (.ld 0 20 (.ru 1 (.ld 1 20 (.ru 3 (.sP 129 H (fun H => ?_) fun H => ?_)))))
                  ·refine .ru 1 (.ld 0 21 (.ru 1 (.ld 1 21 (.ru 3 (.sP 136 H (fun H => ?_) fun H => ?_)))))
                   ·refine .ru 1 (.ld 0 22 (.ru 1 (.ld 1 22 (.ru 4 (.rt Tryz.func66 H)))))
                   ·refine .ru 8 (.rt Tryz.func66 H)
                  ·refine .ru 15 (.rt Tryz.func66 H)
                 ·replace H := H.2 h17'
                  refine .ru 22 (.rt Tryz.func66 H)
                ·replace H := H.2 h16'
                 refine .ru 29 (.rt Tryz.func66 H)
               ·refine .ru 36 (.rt Tryz.func66 H)
              ·refine .ru 43 (.rt Tryz.func66 H)
             ·refine .ru 50 (.rt Tryz.func66 H)
            ·refine .ru 57 (.rt Tryz.func66 H)
           ·refine .ru 64 (.rt Tryz.func66 H)
          ·refine .ru 71 (.rt Tryz.func66 H)
         ·replace H := H.2 h9'
          refine .ru 78 (.rt Tryz.func66 H)
        ·replace H := H.2 h8'
         refine .ru 85 (.rt Tryz.func66 H)
       ·refine .ru 92 (.rt Tryz.func66 H)
      ·refine .ru 99 (.rt Tryz.func66 H)
     ·replace H := H.2 h5'
      refine .ru 106 (.rt Tryz.func66 H)
    ·refine .ru 113 (.rt Tryz.func66 H)
   ·refine .ru 120 (.rt Tryz.func66 H)
  ·refine .ru 127 (.rt Tryz.func66 H)
 ·refine .ru 134 (.rt Tryz.func66 H)
end Go.Eng
