/- A part of the proof. -/
import Derived.Test.YtfobdgoklnhebaaGreatDoorChecked
import Derived.RangeFuncNested
import Derived.RangeFuncFrom
import Derived.RangeFuncBound
import Derived.RangeFuncCalls
import Derived.RangeFuncLeaves
import Derived.Shelf.Abstract
import Derived.Shelf.RegionOpen
import Derived.WalkKit
import Derived.OwnWalkIn
import Derived.TacticsInMore
import Derived.LoopNIn
import Derived.LoopIn
import Derived.Outline
import Derived.Laws.BytesString
import Derived.Lib.Hide
import Derived.Test.YtfobdgoklnhebaaGreatDoorSurB
set_option linter.unusedVariables false
set_option linter.unusedSimpArgs false
set_option maxRecDepth 100000
namespace Go.Eng
open Go Go.RowKit Go.Proofs
variable {P : Program} {R : Ending → World → Prop} {S : List Nat} {w0 W : World} {lk : Lk} {tp bp ap : OA} {tc bc ac : Nat} {K K' : Value → SHeap → Prop} {args : Array Value} {g : FuncId}
noncomputable abbrev TP : Program := Tryz.prog
noncomputable abbrev VP (S : List Nat) (w0 : World) (R : Ending → World → Prop) (t : VC ⟨TP, S, w0, R⟩) : Prop := t.pr
abbrev sZ : Value := .string ⟨#[]⟩
abbrev zV1aa : Array Value := #[.int .u8 0, .int .u8 0, .int .u8 0, .int .u8 0, .int .u8 0, .int .u8 0, .int .u8 0, .int .u8 0, .int .u8 0, .int .u8 0]
theorem String_vc (c : BA) (e : Int) (hm : Mem [] [] w0 W) (H : VP [] w0 R (.cl 10 83 [.string c, IV e] [] <| .x3 fun a b d => .rt (.tuple #[IV a, IV b, IV d]) [] <| .I 14 18 (d = 0) (.re 8 (.tuple #[sZ, IV 0, IV d]) []) <| .P 8 22 (a < 0) (.re 19 (.tuple #[sZ, IV 0, IV 10]) []) <| .P 4 26 (65536 < a) (.re 15 (.tuple #[sZ, IV 0, IV 10]) []) <| .P 8 33 ((IntKind.i64.wrap ((c.size : Int) - b)) < a) (.re 7 (.tuple #[sZ, IV 0, IV 10]) []) <| .r 9 <| .ss c b (IntKind.i64.wrap (b + a)) <| .ls 4 4 (c.extract (Int.toNat b) (Int.toNat (IntKind.i64.wrap (b + a)))) fun f => .li 1 5 (IntKind.i64.wrap (b + a)) fun g => .re 2 (.tuple #[.string f, IV g, IV 0]) [])) : Calls TP 122 ⟨[.string c, IV e]⟩ W R := VC.cs Tryz.func122 hm _ H
noncomputable def Int_c0 (b : BA) (a d c : Int) : Cut := ⟨TP, [], 83, 62, (KC Tryz.f83 244), [(0, .string b), (1, IV a), (7, .int .u64 d), (8, IV c)], []⟩
theorem Int_c0_vc (f : BA) (b h a : Int) (H : VP [] w0 R (.P 6 20 (a < 63) (.P 12 26 (b = (f.size : Int)) (.re 7 (.tuple #[IV 0, IV 0, IV 10]) []) <| .r 6 <| .ix f b <| .r 1 <| .zli (kd := .u8) 9 (bat f b) fun d => .li 6 1 (IntKind.i64.wrap (b + 1)) fun c => .r 8 <| .sl .u64 .i64 (IntKind.u64.wrap (d.tmod 128)) a <| .r 2 <| .zli (kd := .u64) 7 (ior .u64 h (IntKind.u64.wrap ((IntKind.u64.wrap (d.tmod 128)) * 2 ^ (min (Int.toNat a) 64)))) fun g => .P 7 40 (128 ≤ d) (.li 6 8 (IntKind.i64.wrap (a + 7)) fun i => .ct 2 [] (Int_c0 f c g i)) <| .li 8 10 (IntKind.i64.wrap (IntKind.u64.wrap (g.tdiv 2))) fun e => .P 8 46 ((g.tmod 2) = 1) (.li 6 10 (IntKind.i64.wrap ((IntKind.i64.wrap (0 - e)) - 1)) fun n1 => .P 7 52 (d = 0) (.P 4 56 (0 < a) (.re 11 (.tuple #[IV 0, IV 0, IV 10]) []) <| .P 4 59 (n1 < (-4611686018427387903 : Int)) (.re 7 (.tuple #[IV 0, IV 0, IV 10]) []) <| .re 10 (.tuple #[IV n1, IV c, IV 0]) []) <| .P 8 59 (n1 < (-4611686018427387903 : Int)) (.re 7 (.tuple #[IV 0, IV 0, IV 10]) []) <| .re 10 (.tuple #[IV n1, IV c, IV 0]) []) <| .P 8 52 (d = 0) (.P 4 56 (0 < a) (.re 11 (.tuple #[IV 0, IV 0, IV 10]) []) <| .P 4 59 (e < (-4611686018427387903 : Int)) (.re 7 (.tuple #[IV 0, IV 0, IV 10]) []) <| .re 10 (.tuple #[IV e, IV c, IV 0]) []) <| .P 8 59 (e < (-4611686018427387903 : Int)) (.re 7 (.tuple #[IV 0, IV 0, IV 10]) []) <| .re 10 (.tuple #[IV e, IV c, IV 0]) []) <| .re 8 (.tuple #[IV 0, IV 0, IV 10]) [])) : Int_c0 f b h a w0 R := VC.go Tryz.func83 _ H
theorem Int_vc (b : BA) (a : Int) (hm : Mem [] [] w0 W) (H : VP [] w0 R (.P 12 13 (a < 0) (.re 13 (.tuple #[IV 0, IV 0, IV 2]) []) <| .P 6 18 ((b.size : Int) < a) (.re 7 (.tuple #[IV 0, IV 0, IV 2]) []) <| .ct 13 [] (Int_c0 b a 0 0))) : Calls TP 83 ⟨[.string b, IV a]⟩ W R := VC.cs Tryz.func83 hm _ H
theorem PutString_vc (a : BA) (hm : Mem [] [] w0 W) (H : VP [] w0 R (.P 12 8 (65536 < (a.size : Int)) (.re 6 (.tuple #[sZ, IV 10]) []) <| .cl 6 48 [IV (a.size : Int)] [] <| .x2 fun b c => .rt (.tuple #[.string b, IV c]) [] <| .I 12 16 (c = 0) (.re 7 (.tuple #[sZ, IV c]) []) <| .r 6 <| .cc b a <| .ls 1 2 (b ++ a) fun d => .re 2 (.tuple #[.string d, IV 0]) [])) : Calls TP 91 ⟨[.string a]⟩ W R := VC.cs Tryz.func91 hm _ H
theorem PutInt_vc (a : Int) (hm : Mem [] [] w0 W) (H : VP [] w0 R (.P 11 10 (a < (-4611686018427387903 : Int)) (.re 10 (.tuple #[sZ, IV 10]) []) <| .P 4 13 (4611686018427387903 < a) (.re 6 (.tuple #[sZ, IV 10]) []) <| .r 8 <| .zli (kd := .u64) 4 (IntKind.u64.wrap (2 * (IntKind.u64.wrap a))) fun i => .P 7 18 (a < 0) (.r 8 <| .zli (kd := .u64) 4 (IntKind.u64.wrap ((IntKind.u64.wrap (2 * (IntKind.u64.wrap (IntKind.i64.wrap (0 - a))))) - 1)) fun j => .np 3 (.cells zV1aa 142) fun B => .np 3 (.cells #[IV 0] 3) fun d => .hp [(B, .cells zV1aa 142), (d, .cells #[IV 0] 3)] fun b => .ru [201] <| .cl 5 87 [.int .u64 j] b <| .ex fun g => .rt (g) b <| .ff) <| .np 4 (.cells zV1aa 142) fun e => .np 3 (.cells #[IV 0] 3) fun f => .hp [(e, .cells zV1aa 142), (f, .cells #[IV 0] 3)] fun c => .ru [201] <| .cl 5 87 [.int .u64 i] c <| .ex fun h => .rt (h) c <| .ff)) : Calls TP 48 ⟨[IV a]⟩ W R := VC.cs Tryz.func48 hm _ H
end Go.Eng
namespace Wire
def leb : Nat → Nat → List Nat
 | 0, z => [z % 256]
 | f + 1, z => if z < 128 then [z] else (z % 128 + 128) :: leb f (z / 128)
def lebI (f z : Nat) : List Int := (leb f z).map Int.ofNat
def zig (n : Int) : Nat := if n < 0 then (-n).toNat * 2 - 1 else n.toNat * 2
def unzig (z : Nat) : Int := if z % 2 = 1 then -((z / 2 : Nat) : Int) - 1 else ((z / 2 : Nat) : Int)
def maxInt : Int := 4611686018427387903
def okInt (n : Int) : Prop := -maxInt ≤ n ∧ n ≤ maxInt
instance (n : Int) : Decidable (okInt n) := inferInstanceAs (Decidable (_ ∧ _))
def enc (n : Int) : List UInt8 := (leb 9 (zig n)).map UInt8.ofNat
def rdGo : Nat → Nat → Nat → List UInt8 → Option (Int × Nat)
 | 0, _, _, _ => none
 | _ + 1, _, _, [] => none
 | g + 1, i, z, b :: r =>
  if 128 ≤ b.toNat then (rdGo g (i + 1) (z + b.toNat % 128 * 128 ^ i) r).map fun p => (p.1, p.2 + 1)
  else if (b.toNat = 0 ∧ 0 < i) ∨ unzig (z + b.toNat % 128 * 128 ^ i) < -maxInt then none
  else some (unzig (z + b.toNat % 128 * 128 ^ i), 1)
def rdInt (l : List UInt8) : Option (Int × Nat) := rdGo 9 0 0 l
theorem zig_lt {n : Int} (h : okInt n) : zig n < 9223372036854775807 := by
 unfold okInt maxInt at h; unfold zig; split <;> omega
theorem unzig_zig (n : Int) : unzig (zig n) = n := by
 unfold unzig zig
 split <;> split <;> omega
theorem zig_unzig (z : Nat) : zig (unzig z) = z := by
 unfold unzig
 split
 ·unfold zig; rw [if_pos (by omega)]; omega
 ·unfold zig; rw [if_neg (by omega)]; omega
theorem leb_len : ∀ (f z : Nat), (leb f z).length ≤ f + 1
 | 0, z => by simp [leb]
 | f + 1, z => by
  unfold leb; split
  ·simp
  ·have := leb_len f (z / 128); simp; omega
theorem rdGo_leb : ∀ (g i z y : Nat) (r : List UInt8), y < 128 ^ (g + 1) → (0 < i → 0 < y) → -maxInt ≤ unzig (z + y * 128 ^ i) →
  rdGo (g + 1) i z ((leb g y).map UInt8.ofNat ++ r) = some (unzig (z + y * 128 ^ i), (leb g y).length)
 | 0, i, z, y, r, hy, hi, hm => by
  have a1 : y < 128 := by simpa using hy
  have M : (UInt8.ofNat (y % 256)).toNat = y := by simp; omega
  simp only [leb, List.map_cons, List.map_nil, List.cons_append, List.nil_append, rdGo, M]
  rw [if_neg (by omega)]
  have O : y % 128 = y := Nat.mod_eq_of_lt a1
  rw [O, if_neg (by intro h; rcases h with h | h; exact absurd (hi h.2) (by omega); omega)]
  rfl
 | g + 1, i, z, y, r, hy, hi, hm => by
  unfold leb
  split
  ·next h =>
   have M : (UInt8.ofNat y).toNat = y := by simp; omega
   simp only [List.map_cons, List.map_nil, List.cons_append, List.nil_append, rdGo, M]
   rw [if_neg (by omega)]
   have O : y % 128 = y := Nat.mod_eq_of_lt h
   rw [O, if_neg (by intro h; rcases h with h | h; exact absurd (hi h.2) (by omega); omega)]
   rfl
  ·next h =>
   have M : (UInt8.ofNat (y % 128 + 128)).toNat = y % 128 + 128 := by simp; omega
   simp only [List.map_cons, List.cons_append]
   have V : z + y * 128 ^ i = (z + y % 128 * 128 ^ i) + y / 128 * 128 ^ (i + 1) := by
    have Z : y = y % 128 + y / 128 * 128 := by omega
    have a2 : y * 128 ^ i = y % 128 * 128 ^ i + y / 128 * 128 ^ (i + 1) := by
     rw [Nat.pow_succ]
     have a0 : y * 128 ^ i = (y % 128 + y / 128 * 128) * 128 ^ i := by rw [← Z]
     rw [a0, Nat.add_mul, Nat.mul_assoc, Nat.mul_comm 128 (128 ^ i)]
    omega
   have ih := rdGo_leb g (i + 1) (z + y % 128 * 128 ^ i) (y / 128) r (by rw [Nat.div_lt_iff_lt_mul (by omega)]; rw [Nat.pow_succ] at hy; exact hy) (fun _ => by omega) (by rw [← V]; exact hm)
   conv => lhs; unfold rdGo
   simp only [M]
   rw [if_pos (by omega)]
   have O : (y % 128 + 128) % 128 = y % 128 := by omega
   rw [O, ih, ← V]
   simp
theorem rdInt_enc {n : Int} (h : okInt n) (r : List UInt8) : rdInt (enc n ++ r) = some (n, (enc n).length) := by
  have M := zig_lt h

  have key : ∀ (f z : Nat), z < 128 ^ (f + 1) → leb (f + 1) z = leb f z := by
    intro f
    induction f with
    | zero => intro z M; simp at M; simp [leb, M]; omega
    | succ f ih =>
      intro z M
      have : leb (f + 1 + 1) z = if z < 128 then [z] else (z % 128 + 128) :: leb (f + 1) (z / 128) := rfl
      rw [this]
      have O : leb (f + 1) z = if z < 128 then [z] else (z % 128 + 128) :: leb f (z / 128) := rfl
      rw [O]
      split
      · rfl
      · rw [ih (z / 128) (by rw [Nat.div_lt_iff_lt_mul (by omega)]; rw [Nat.pow_succ] at M; exact M)]
  unfold rdInt enc
  rw [key 8 (zig n) (by have : (128 : Nat) ^ (8 + 1) = 9223372036854775808 := by decide
                        omega)]
  have := rdGo_leb 8 0 0 (zig n) r (by have : (128 : Nat) ^ (8 + 1) = 9223372036854775808 := by decide
                                       omega) (by omega) (by simp [unzig_zig]; exact h.1)
  simpa [unzig_zig] using this
theorem rdGo_inv : ∀ (g i z : Nat) (l : List UInt8) (n : Int) (k : Nat), rdGo (g + 1) i z l = some (n, k) →
  ∃ y, n = unzig (z + y * 128 ^ i) ∧ y < 128 ^ (g + 1) ∧ l.take k = (leb g y).map UInt8.ofNat ∧ k = (leb g y).length ∧ k ≤ l.length ∧ (0 < i → 0 < y) ∧ -maxInt ≤ n
 | 0, i, z, [], n, k, h => by simp [rdGo] at h
 | 0, i, z, b :: r, n, k, h => by
  simp only [rdGo] at h
  split at h
  ·simp at h
  ·next hb =>
   split at h
   ·cases h
   ·next hc =>
    simp only [Option.some.injEq, Prod.mk.injEq] at h
    obtain ⟨rfl, rfl⟩ := h
    have O : b.toNat < 128 := by omega
    have Z : b.toNat % 128 = b.toNat := Nat.mod_eq_of_lt O
    rw [Z] at hc ⊢
    refine ⟨b.toNat, rfl, by simpa using O, ?_, by simp [leb], by simp, fun hi => ?_, ?_⟩
    ·have : b.toNat % 256 = b.toNat := by omega
     simp [leb, this]
    ·rcases Nat.eq_zero_or_pos b.toNat with h0 | h0
     ·exact absurd (Or.inl ⟨h0, hi⟩) hc
     ·exact h0
    ·rcases Int.lt_or_le (unzig (z + b.toNat * 128 ^ i)) (-maxInt) with h0 | h0
     ·exact absurd (Or.inr h0) hc
     ·exact h0
 | g + 1, i, z, [], n, k, h => by simp [rdGo] at h
 | g + 1, i, z, b :: r, n, k, h => by
  unfold rdGo at h
  split at h
  ·next hb =>
   rw [Option.map_eq_some_iff] at h
   obtain ⟨⟨n', k'⟩, V, M⟩ := h
   simp only [Prod.mk.injEq] at M
   obtain ⟨rfl, rfl⟩ := M
   obtain ⟨y, hn, a7, a3, a5, a6, a2, hm⟩ := rdGo_inv g (i + 1) _ r n' k' V
   have a8 := a2 (by omega)
   have a4 : b.toNat < 256 := b.toNat_lt
   refine ⟨b.toNat % 128 + y * 128, ?_, ?_, ?_, ?_, ?_, fun _ => by omega, hm⟩
   ·rw [hn]
    congr 1
    rw [Nat.add_mul, Nat.mul_assoc, Nat.pow_succ, Nat.mul_comm (128 ^ i) 128]
    omega
   ·rw [Nat.pow_succ]
    omega
   ·unfold leb
    rw [if_neg (by omega)]
    have V : (b.toNat % 128 + y * 128) % 128 = b.toNat % 128 := by omega
    have M : (b.toNat % 128 + y * 128) / 128 = y := by omega
    rw [V, M]
    have a1 : b.toNat % 128 + 128 = b.toNat := by omega
    rw [a1]
    simp [a3]
   ·unfold leb
    rw [if_neg (by omega)]
    have M : (b.toNat % 128 + y * 128) / 128 = y := by omega
    rw [M]
    simp; omega
   ·simp; omega
  ·next hb =>
   split at h
   ·cases h
   ·next hc =>
    simp only [Option.some.injEq, Prod.mk.injEq] at h
    obtain ⟨rfl, rfl⟩ := h
    have O : b.toNat < 128 := by omega
    have Z : b.toNat % 128 = b.toNat := Nat.mod_eq_of_lt O
    rw [Z] at hc ⊢
    have a0 : leb (g + 1) b.toNat = [b.toNat] := by unfold leb; rw [if_pos O]
    refine ⟨b.toNat, rfl, ?_, ?_, by rw [a0]; rfl, by simp, fun hi => ?_, ?_⟩
    ·have : (128 : Nat) ≤ 128 ^ (g + 1 + 1) := by
      rw [Nat.pow_succ]; exact Nat.le_mul_of_pos_left 128 (Nat.pow_pos (by omega))
     omega
    ·rw [a0]; simp
    ·rcases Nat.eq_zero_or_pos b.toNat with h0 | h0
     ·exact absurd (Or.inl ⟨h0, hi⟩) hc
     ·exact h0
    ·rcases Int.lt_or_le (unzig (z + b.toNat * 128 ^ i)) (-maxInt) with h0 | h0
     ·exact absurd (Or.inr h0) hc
     ·exact h0
theorem leb_succ (f z : Nat) : z < 128 ^ (f + 1) → leb (f + 1) z = leb f z := by
 induction f generalizing z with
 | zero => intro M; simp at M; simp [leb, M]; omega
 | succ f ih =>
  intro M
  have O : leb (f + 1 + 1) z = if z < 128 then [z] else (z % 128 + 128) :: leb (f + 1) (z / 128) := rfl
  have V : leb (f + 1) z = if z < 128 then [z] else (z % 128 + 128) :: leb f (z / 128) := rfl
  rw [O, V]
  split
  ·rfl
  ·rw [ih (z / 128) (by rw [Nat.div_lt_iff_lt_mul (by omega)]; rw [Nat.pow_succ] at M; exact M)]
theorem rdInt_inv {l : List UInt8} {n : Int} {k : Nat} (h : rdInt l = some (n, k)) : okInt n ∧ k ≤ l.length ∧ l.take k = enc n ∧ k = (enc n).length := by
 obtain ⟨y, hn, a0, Z, O, V, _, hm⟩ := rdGo_inv 8 0 0 l n k h
 have hp : (128 : Nat) ^ (8 + 1) = 9223372036854775808 := by decide
 have a1 : zig n = y := by rw [hn]; simp [zig_unzig]
 have M : leb 9 (zig n) = leb 8 y := by rw [a1]; exact leb_succ 8 y a0
 refine ⟨⟨hm, ?_⟩, V, by rw [Z, enc, M], by rw [O, enc, M]; simp⟩
 have : n = unzig y := by rw [hn]; simp
 rw [this]
 unfold unzig maxInt
 split <;> omega
theorem enc_len (n : Int) : (enc n).length ≤ 10 := by unfold enc; simp; exact leb_len 9 _
theorem rdInt_split {l : List UInt8} {n : Int} {k : Nat} (h : rdInt l = some (n, k)) : l = enc n ++ l.drop k := by
 obtain ⟨_, _, M, _⟩ := rdInt_inv h
 rw [← M, List.take_append_drop]
def rdStr (l : List UInt8) : Option (List UInt8 × Nat) :=
 match rdInt l with
 | none => none
 | some (n, k) => if 0 ≤ n ∧ n ≤ 65536 ∧ n ≤ ((l.length - k : Nat) : Int) then some ((l.drop k).take n.toNat, k + n.toNat) else none
def encS (t : List UInt8) : List UInt8 := enc t.length ++ t
theorem okLen {n : Nat} (h : n ≤ 65536) : okInt n := by unfold okInt maxInt; omega
theorem rdStr_enc {t : List UInt8} (h : t.length ≤ 65536) (r : List UInt8) : rdStr (encS t ++ r) = some (t, (encS t).length) := by
 unfold rdStr encS
 rw [List.append_assoc, rdInt_enc (okLen h)]
 simp only
 rw [if_pos]
 ·simp
 ·simp; omega
theorem rdStr_inv {l : List UInt8} {t : List UInt8} {k : Nat} (h : rdStr l = some (t, k)) : t.length ≤ 65536 ∧ k ≤ l.length ∧ l.take k = encS t ∧ k = (encS t).length := by
 unfold rdStr at h
 split at h
 ·cases h
 ·next n j hj =>
  split at h
  ·next hc =>
   simp only [Option.some.injEq, Prod.mk.injEq] at h
   obtain ⟨rfl, rfl⟩ := h
   obtain ⟨_, Z, O, V⟩ := rdInt_inv hj
   have M : ((l.drop j).take n.toNat).length = n.toNat := by simp; omega
   have hn : ((n.toNat : Nat) : Int) = n := Int.toNat_of_nonneg hc.1
   refine ⟨by rw [M]; omega, by omega, ?_, ?_⟩
   ·unfold encS
    rw [M, hn, ← O, List.take_add]
   ·unfold encS
    rw [List.length_append, M, hn]; omega
  ·cases h
theorem rdStr_split {l : List UInt8} {t : List UInt8} {k : Nat} (h : rdStr l = some (t, k)) : l = encS t ++ l.drop k := by
 obtain ⟨_, _, M, _⟩ := rdStr_inv h
 rw [← M, List.take_append_drop]
end Wire
namespace Go.Eng
open Go Go.RowKit Go.Proofs Wire
abbrev bts (s : BA) : List UInt8 := s.data.toList
theorem bts_len (s : BA) : (bts s).length = s.size := rfl
def intRes : Option (Int × Nat) → Nat → Value
 | none, _ => .tuple #[.int .i64 0, .int .i64 0, .int .i64 10]
 | some (n, k), a => .tuple #[.int .i64 n, .int .i64 ((a + k : Nat) : Int), .int .i64 0]
theorem intRes_map (o : Option (Int × Nat)) (a : Nat) : intRes (o.map fun p => (p.1, p.2 + 1)) a = intRes o (a + 1) := by
 cases o with
 | none => rfl
 | some p => simp [intRes]; omega
def intAns (s : BA) (a : Int) : Value :=
 if a < 0 ∨ (s.size : Int) < a then .tuple #[.int .i64 0, .int .i64 0, .int .i64 2] else intRes (rdInt ((bts s).drop a.toNat)) a.toNat
theorem pow128 (i : Nat) : (2 : Nat) ^ (7 * i) = 128 ^ i := by rw [Nat.pow_mul]
theorem Int_loop {s : BA} (b6 : s.size < 4611686018427387904) {w0 : World} {R : Ending → World → Prop} : ∀ (g i z a : Nat), g + i = 9 → a ≤ s.size → z < 128 ^ i →
  Fin R [] [] w0 (intRes (rdGo g i z ((bts s).drop a)) a) → Int_c0 s (a : Int) (z : Int) ((7 * i : Nat) : Int) w0 R
 | 0, i, z, a, hg, ha, hz, H => by
  apply Int_c0_vc
  refine ⟨fun h => absurd h (by omega), fun _ => ?_⟩
  simpa [rdGo, intRes] using H
 | g + 1, i, z, a, hg, ha, hz, H => by
  apply Int_c0_vc
  refine ⟨fun _ => ⟨fun h => ?_, fun h => ?_⟩, fun h => absurd (by omega) h⟩
  ·have b0 : (bts s).drop a = [] := List.drop_of_length_le (by rw [bts_len]; omega)
   rw [b0] at H
   simpa [rdGo, intRes] using H
  ·have a4 : a < (bts s).length := by rw [bts_len]; omega
   have b4 : (bts s).drop a = (bts s)[a] :: (bts s).drop (a + 1) := List.drop_eq_getElem_cons a4
   rw [b4] at H
   obtain ⟨B, a2⟩ : ∃ B : UInt8, B = (bts s)[a] := ⟨_, rfl⟩
   rw [← a2] at H
   have c3 := B.toNat_lt
   refine ⟨by omega, ?_⟩
   rintro b a3 _ rfl
   rw [bat_get a4, ← a2] at a3
   refine ⟨by omega, ?_⟩
   rintro z1 a5
   have a7 : b.tmod 128 = ((B.toNat % 128 : Nat) : Int) := by rw [a3]; exact tmod_nat _ 128
   have hp : (128 : Nat) ^ i * 128 ≤ 9223372036854775808 := by
    have : (128 : Nat) ^ i ≤ 128 ^ 8 := Nat.pow_le_pow_right (by decide) (by omega)
    have c2 : (128 : Nat) ^ 8 * 128 = 9223372036854775808 := by decide
    omega
   have hm : B.toNat % 128 * 128 ^ i < 9223372036854775808 := by
    have O : B.toNat % 128 < 128 := Nat.mod_lt _ (by decide)
    have Z : B.toNat % 128 * 128 ^ i < 128 * 128 ^ i := Nat.mul_lt_mul_of_pos_right O (Nat.pow_pos (by decide))
    omega
   have b7 : z + B.toNat % 128 * 128 ^ i < 128 ^ (i + 1) := by
    have O : B.toNat % 128 ≤ 127 := by omega
    have Z : B.toNat % 128 * 128 ^ i ≤ 127 * 128 ^ i := Nat.mul_le_mul_right _ O
    rw [Nat.pow_succ]; omega
   have a0 : z1 = ((z + B.toNat % 128 * 128 ^ i : Nat) : Int) := by
    rw [a5, a7, wu64 (x := ((B.toNat % 128 : Nat) : Int)) (by omega)]
    have e1 : min (Int.toNat ((7 * i : Nat) : Int)) 64 = 7 * i := by omega
    have a8 : ((B.toNat % 128 : Nat) : Int) * 2 ^ (7 * i) = ((B.toNat % 128 * 2 ^ (7 * i) : Nat) : Int) := by simp
    rw [e1, a8, pow128, wu64 (by omega), ior64 (by omega) (by omega), ← pow128, or_add (by rw [pow128]; exact hz)]
   clear a5
   have a1 : IntKind.i64.wrap ((a : Int) + 1) = ((a + 1 : Nat) : Int) := by rw [wi64 (by omega)]; simp
   have es : IntKind.i64.wrap (((7 * i : Nat) : Int) + 7) = ((7 * (i + 1) : Nat) : Int) := by rw [wi64 (by omega)]; omega
   refine ⟨fun b3 => ?_, fun b3 => ?_⟩
   ·rintro _ rfl
    rw [a1, es, a0]
    refine Int_loop b6 g (i + 1) _ (a + 1) (by omega) (by omega) b7 ?_
    rw [← intRes_map]
    have : 128 ≤ B.toNat := by omega
    simpa [rdGo, this] using H
   ·have b5 : ¬ 128 ≤ B.toNat := by omega
    simp only [rdGo, b5, if_false] at H
    obtain ⟨M, hZ⟩ : ∃ M, M = z + B.toNat % 128 * 128 ^ i := ⟨_, rfl⟩
    have c4 : M < 9223372036854775808 := by
     have : (128 : Nat) ^ (i + 1) = 128 ^ i * 128 := Nat.pow_succ ..
     omega
    rw [← hZ] at H a0
    subst a0
    have et : ((M : Int).tdiv 2) = ((M / 2 : Nat) : Int) := tdiv_nat M 2
    have a9 : ((M : Int).tmod 2) = ((M % 2 : Nat) : Int) := tmod_nat M 2
    rw [a1, et, a9, wu64 (by omega), wi64 (by omega)]
    have b9 : M % 2 = 1 → unzig M = -((M / 2 : Nat) : Int) - 1 := fun h => by simp [unzig, h]
    have b8 : ¬ M % 2 = 1 → unzig M = ((M / 2 : Nat) : Int) := fun h => by simp [unzig, h]
    have hi : (0 : Int) < ((7 * i : Nat) : Int) ↔ 0 < i := by omega
    have b1 : b = 0 ↔ B.toNat = 0 := by omega
    rintro n rfl
    try dsimp only
    rw [hi, b1]
    have a6 : ∀ m : Int, unzig M = m → (B.toNat = 0 → (0 < i → Fin R [] [] w0 (.tuple #[.int .i64 0, .int .i64 0, .int .i64 10])) ∧ (¬ 0 < i → (m < -4611686018427387903 → Fin R [] [] w0 (.tuple #[.int .i64 0, .int .i64 0, .int .i64 10])) ∧ (¬ m < -4611686018427387903 → Fin R [] [] w0 (.tuple #[.int .i64 m, .int .i64 ((a + 1 : Nat) : Int), .int .i64 0])))) ∧
      (¬ B.toNat = 0 → (m < -4611686018427387903 → Fin R [] [] w0 (.tuple #[.int .i64 0, .int .i64 0, .int .i64 10])) ∧ (¬ m < -4611686018427387903 → Fin R [] [] w0 (.tuple #[.int .i64 m, .int .i64 ((a + 1 : Nat) : Int), .int .i64 0]))) := by
     intro m hm
     rw [hm] at H
     unfold maxInt at H
     refine ⟨fun O => ⟨fun Z => ?_, fun Z => ⟨fun V => ?_, fun V => ?_⟩⟩, fun O => ⟨fun V => ?_, fun V => ?_⟩⟩
     ·rw [if_pos (.inl ⟨O, Z⟩)] at H; exact H
     ·rw [if_pos (.inr V)] at H; exact H
     ·rw [if_neg (by omega)] at H; exact H
     ·rw [if_pos (.inr V)] at H; exact H
     ·rw [if_neg (by omega)] at H; exact H
    refine ⟨fun h => ?_, fun h => ?_⟩
    ·rintro n1 rfl
     have e1 : IntKind.i64.wrap (IntKind.i64.wrap (0 - ((M / 2 : Nat) : Int)) - 1) = -((M / 2 : Nat) : Int) - 1 := by
      rw [wi64 (x := 0 - ((M / 2 : Nat) : Int)) (by omega), wi64 (by omega)]; omega
     rw [e1]
     exact a6 _ (b9 (by omega))
    ·exact a6 _ (b8 (by omega))
theorem Int_c (s : BA) (a : Int) (Z : s.size < 4611686018427387904) : PureC TP 83 ⟨[.string s, .int .i64 a]⟩ (intAns s a) := by
 refine fun W => Int_vc s a (Mem.start [] W) ?_
 have M : ∀ v, v = intAns s a → Fin (fun e O => e = .returned (intAns s a) ∧ Below W.heap.size W O) [] [] W v := fun v a0 O hm => ⟨by rw [a0], hm.kept.below⟩
 refine ⟨fun h => M _ ?_, fun h => ⟨fun V => M _ ?_, fun V => ?_⟩⟩
 ·simp [intAns, h]
 ·simp [intAns, V]
 ·obtain ⟨n, rfl⟩ : ∃ n : Nat, a = n := ⟨a.toNat, by omega⟩
  refine Int_loop Z 9 0 0 n rfl (by omega) (by simp) (M _ ?_)
  rw [intAns, if_neg (by omega)]; rfl
variable {P : Program} {R : Ending → World → Prop} {S : List Nat} {w0 W : World} {lk : Lk} {tp bp ap : OA} {tc bc ac : Nat} {K K' : Value → SHeap → Prop} {args : Array Value} {g : FuncId}
def Sum_c0 (c : BA) (b a : Int) (w0 : World) (R : Ending → World → Prop) : Prop :=
 AtE TP 86 34 (KC Tryz.f86 116) [(0, .string c), (3, .int .u32 b), (4, IV a)] [] [] w0 (nrm R)
theorem Sum_c0_vc (e : BA) (h d : Int)
 (H :
 Br (d < (e.size : Int))
 ((0 ≤ d ∧ d < e.size) ∧
 ∀ c : Int, c = (ixor .u32 h (IntKind.u32.wrap (bat e d))) →
 (0 ≤ (c.tmod (16 : Int)) ∧ (c.tmod (16 : Int)) < 16) ∧
 ∃ (j : List Value) (f : Int), blkW w0 0 = some j ∧ j[(Int.toNat (c.tmod (16 : Int)))]? = some (.int .u32 f) ∧
 ∀ a : Int, a = (ixor .u32 (c.fdiv (2 ^ 4)) f) →
 (0 ≤ (a.tmod (16 : Int)) ∧ (a.tmod (16 : Int)) < 16) ∧
 ∃ (k : List Value) (g : Int), blkW w0 0 = some k ∧ k[(Int.toNat (a.tmod (16 : Int)))]? = some (.int .u32 g) ∧
 ∀ i : Int, i = (ixor .u32 (a.fdiv (2 ^ 4)) g) →
 ∀ p : Int, p = (IntKind.i64.wrap (d + (1 : Int))) →
 Sum_c0 e i p w0 R)
 (∀ q : Int, q = (IntKind.i64.wrap (inot .u32 h)) →
 Fin R [] [] w0 (IV q))) :
 Sum_c0 e h d w0 R:= by
 unfold Sum_c0
 refine .ru 8 (.sP 8 H (fun H => ?_) fun H => ?_)
 ·refine .ru 9 (.indexS (s := e) (kd := .i64) (i := d) (by kernel_rfl) H.1 ?_)
  replace H := H.2
  refine .ru 3 (.letI 3 (kd := .u32) (n := (ixor .u32 h (IntKind.u32.wrap (bat e d)))) (by kernel_rfl) (fun c t => ?_))
  replace H := H c t
  refine .ru 7 (.indexAddrA (E := 184) (n := 16) (b := 0) (o := 0) (sz := 1) (o' := (Int.toNat (c.tmod (16 : Int)))) (kd := .u32) (i := (c.tmod (16 : Int))) (by kernel_rfl) H.1 (by omega) ?_)
  replace H := H.2
  obtain ⟨j, f, l, m, H⟩ := H
  refine .loadW (b := 0) (off := (Int.toNat (c.tmod (16 : Int)))) (T := 184) (v := .int .u32 f) (by kernel_rfl) List.not_mem_nil l (valAt_one m (by kernel_rfl)) (.ru 2 (.letI 3 (kd := .u32) (n := (ixor .u32 (c.fdiv (2 ^ 4)) f)) (by kernel_rfl) (fun a u => ?_)))
  replace H := H a u
  refine .ru 6 (.indexAddrA (E := 184) (n := 16) (b := 0) (o := 0) (sz := 1) (o' := (Int.toNat (a.tmod (16 : Int)))) (kd := .u32) (i := (a.tmod (16 : Int))) (by kernel_rfl) H.1 (by omega) ?_)
  replace H := H.2
  refine .nm (KR Tryz.f86 3731 [5,6,7]) [(0, .string e), (4, IV d), (25, .int .u32 (a.fdiv (2 ^ 4))), (28, .pointer (some ⟨0, (Int.toNat (a.tmod (16 : Int))), none⟩))] [] ?_
  obtain ⟨k, g, l, m, H⟩ := H
  refine .loadW (b := 0) (off := (Int.toNat (a.tmod (16 : Int)))) (T := 184) (v := .int .u32 g) (by kernel_rfl) List.not_mem_nil l (valAt_one m (by kernel_rfl)) (.ru 2 (.letI 3 (kd := .u32) (n := (ixor .u32 (a.fdiv (2 ^ 4)) g)) (by kernel_rfl) (fun i w => ?_)))
  replace H := H i w
  refine .ru 6 (.lI 4 H fun p H => (.ru 2 (.ct [] H)))
 ·refine .ru 8 (.lI 2 H fun q H => (.ru 1 (.rt Tryz.func86 H)))
theorem Sum_vc (a : BA) (hm : Mem [] [] w0 W)
 (H :
 Sum_c0 a (4294967295 : Int) (0 : Int) w0 R) :
 Calls TP 86 ⟨[.string a]⟩ W R:= by
 refine AtE.cs 34 Tryz.func86 hm (.ru 15 (.ct [] H))
end Go.Eng
namespace Go.Proofs
section
open Go.RowKit Go.Shelf
attribute [local go_sem] Oper.semAt_some
open _root_.Wire
set_option maxRecDepth 100000 in
set_option maxHeartbeats 2000000 in
theorem Tryz.groups_in (F : Fence) (n : Nat) (h25 : F.fn 124) (hro : F.round = none) (hn : 1 ≤ n) (l Bz n₀ : Nat) (z : Nat) (hz : z < 9223372036854775808) (J Jx : List Int → World → Prop)
  (hY : ∀ pre x W, J pre W → pre.length < (lebI 9 z).length → YieldAt F (n - 1) Tryz.prog l #[.int .u8 x] W fun e W' =>
   (e = .returned (.bool true) ∧ J (pre ++ [x]) W' ∧ Below n₀ W W') ∨ (e = .returned (.bool false) ∧ Jx (pre ++ [x]) W'))
  (W : World) (hBz : W.cell? ⟨Bz, 0, none⟩ = some (.int .u64 z)) (h0 : J [] W) :
  CallsIn F n Tryz.prog 124 #[.func (.yield l) #[] #[], .pointer (some ⟨Bz, 0, none⟩)] W fun e W' => (∃ v, e = .returned v) ∧
   ((∃ ys, ys = lebI 9 z ∧ J ys W') ∨ (∃ pre, pre <+: lebI 9 z ∧ Jx pre W')) := by
 refine callsIn_of_wp Tryz.func124 rfl h25 ?_ hro
 simp only [Tryz.ntmps124, List.size_toArray, List.length_cons, List.length_nil, Nat.reduceAdd, Nat.reduceSub, Array.replicate_succ, Array.replicate_zero, List.push_toArray, List.append_toArray, List.nil_append, List.cons_append]
 gi_wp2
 gi_loopw [3] (fun p wr => ∃ (pre : List Int) (f r : Nat), p = .int .u64 r ∧ lebI 9 z = pre ++ lebI f r ∧ r < 128 ^ (f + 1) ∧ r < 9223372036854775808 ∧ J pre wr)
  (fun p wr => (intOf p).toNat)
 case atStart =>
  exact ⟨[], 9, z, rfl, rfl, by omega, hz, h0⟩
 case round =>
  obtain ⟨pre, f, r, rfl, hx, hr, hr2, hJs⟩ := hrel
  by_cases h : r < 128
  ·have hl : lebI f r = [(r : Int)] := by cases f <;> simp [lebI, leb, h]; omega
   have hlen : pre.length < (lebI 9 z).length := by rw [hx, hl]; simp
   obtain ⟨fn, tmps, assign, body, hy, hR⟩ := hY pre r wr hJs hlen
   have HX : Hid (lebI 9 z = pre ++ lebI f r) := hx
   have HL : Hid (lebI f r = [(r : Int)]) := hl
   clear hx hl hr hlen hY
   gi_wp2
   refine hR.mono ?_
   rintro e W3 (⟨rfl, hJ3, _⟩ | ⟨rfl, hJx3⟩)
   ·gi_wp2
    go_end0
    exact ⟨⟨_, rfl⟩, .inl ⟨_, rfl, by rw [HX.out, HL.out]; exact hJ3⟩⟩
   ·gi_wp2
    go_end0
    exact ⟨⟨_, rfl⟩, .inr ⟨_, by rw [HX.out, HL.out]; exact List.prefix_rfl, hJx3⟩⟩
  ·obtain ⟨f, rfl⟩ : ∃ g, f = g + 1 := by
    cases f with
    | zero => simp at hr; omega
    | succ g => exact ⟨g, rfl⟩
   have hl : lebI (f + 1) r = ((r : Int) % 128 + 128) :: lebI f (r / 128) := by simp [lebI, leb, h]
   have hlen : pre.length < (lebI 9 z).length := by rw [hx, hl]; simp
   obtain ⟨fn, tmps, assign, body, hy, hR⟩ := hY pre ((r : Int) % 128 + 128) wr hJs hlen
   have HX : Hid (lebI 9 z = (pre ++ [((r : Int) % 128 + 128)]) ++ lebI f (r / 128)) := by show _ = _; rw [hx, hl]; simp
   have HR : Hid (r / 128 < 128 ^ (f + 1)) := by show _ < _; rw [Nat.div_lt_iff_lt_mul (by omega)]; rw [Nat.pow_succ] at hr; exact hr
   clear hx hl hr hlen hY
   gi_wp2
   ·refine hR.mono ?_
    rintro e W3 (⟨rfl, hJ3, _⟩ | ⟨rfl, hJx3⟩)
    ·gi_wp2
     go_roundw
     case rel => exact ⟨_, f, r / 128, by go_num, HX.out, HR.out, by omega, hJ3⟩
     case measure => simp [intOf]; omega
    ·gi_wp2
     refine bodyPost_ret (results_none rfl _ _ _) rfl ?_
     exact ⟨⟨_, rfl⟩, .inr ⟨_, by rw [HX.out]; exact List.prefix_append _ _, hJx3⟩⟩
end
section
open Go.RowKit Go.Shelf
attribute [local go_sem] Oper.semAt_some
open _root_.Wire
theorem Tryz.groups_stops (F : Fence) (n : Nat) (a0 : F.fn 124) (a5 : F.round = none) (hn : 1 ≤ n) (M O z : Nat) (a6 : z < 9223372036854775808) (w : World) (a1 : M < w.heap.size)
  (a4 : w.cell? ⟨M, 0, none⟩ = some (.int .u64 z)) :
  SeqStopsK F n Tryz.prog 124 #[.pointer (some ⟨M, 0, none⟩)] (fun x : Int => #[Value.int .u8 x]) (Below O) (fun a7 => a7 = lebI 9 z) (fun pre => pre <+: lebI 9 z) (lebI 9 z).length w := fun l J V W a2 _ _ a3 Z =>
 Tryz.groups_in F n a0 a5 hn l M O z a6 J V a3 W ((a2.cell (p := ⟨M, 0, none⟩) a1).trans a4) Z
theorem Tryz.groupsf_in (F : Fence) (n : Nat) (M : F.fn 87) (O : F.round = none) (z : Int) (w : World) :
  CallsIn F n Tryz.prog 87 #[.int .u64 z] w fun e w' => e = .returned (.func (.func 124) #[] #[.pointer (some ⟨w.heap.size, 0, none⟩)]) ∧ w' = w.alloc (.cells #[.int .u64 z] 141) := by
 refine callsIn_of_wp Tryz.func87 rfl M ?_ O
 simp only [Tryz.ntmps87, List.size_toArray, List.length_cons, List.length_nil, Nat.reduceAdd, Nat.reduceSub, Array.replicate_succ, Array.replicate_zero, List.push_toArray, List.append_toArray, List.nil_append, List.cons_append]
 gi_wp2
 go_ret
 exact ⟨rfl, rfl⟩
def padTo (xs : List Int) : Array Value := ⟨(xs.map (Value.int .u8)) ++ List.replicate (10 - xs.length) (.int .u8 0)⟩
theorem heap_kept {A B : World} {k : Nat} {c : Array Value} {t : TypeId} {fz : Nat × Nat} {row : Option Nat} (h : A.heap[k]? = some (.cells c t fz)) (V : A.grownBy B row) (a0 : ∀ r, row = some r → ∃ o : Obj, A.heap[r]? = some o ∧ o.isCells = false) : B.heap[k]? = some (.cells c t fz) := by
 have Z : k < A.heap.size := (Array.getElem?_eq_some_iff.1 h).1
 rw [V.block k Z (fun e => by
  obtain ⟨o, M, O⟩ := a0 k e.symm
  rw [h] at M; cases M; cases O)]
 exact h
theorem lebI_len (z : Nat) : (lebI 9 z).length ≤ 10 := by have := leb_len 9 z; simpa [lebI] using this
theorem cells_at {W : World} {b : Nat} {pre : List Int} (M : W.heap[b]? = some (.cells (padTo pre) 142)) (O : W.heap[b + 1]? = some (.cells #[.int .i64 pre.length] 3)) (V : pre.length < 10) :
  W.cell? ⟨b, pre.length, none⟩ = some (.int .u8 0) ∧ W.frozen? ⟨b, pre.length, none⟩ = false ∧ W.cell? ⟨b + 1, 0, none⟩ = some (.int .i64 pre.length) ∧ W.frozen? ⟨b + 1, 0, none⟩ = false := by
 refine ⟨?_, ?_, ?_, ?_⟩
 ·simp only [World.cell?, M, padTo]
  simp
  rw [List.getElem?_append_right (by simp)]
  simp [List.getElem?_replicate]; omega
 ·simp [World.frozen?, M]
 ·simp [World.cell?, O]
 ·simp [World.frozen?, O]
theorem put_pad {W : World} {b : Nat} {pre : List Int} {y v : Int} (O : W.heap[b]? = some (.cells (padTo pre) 142)) (V : pre.length < 10) :
  ((W.setCell ⟨b, pre.length, none⟩ (.int .u8 y)).setCell ⟨b + 1, 0, none⟩ (.int .i64 v)).heap[b]? = some (.cells (padTo (pre ++ [y])) 142) := by
 rw [Below.heap_setCell _ _ _ _ (by simp)]
 simp only [World.setCell, Array.getElem?_modify, if_pos, O, Option.map_some]
 congr 2
 apply Array.toList_inj.1
 simp only [padTo, Option.isSome_none, Bool.false_eq_true, if_false, Array.toList_setIfInBounds]
 have M : 10 - pre.length = (10 - (pre ++ [y]).length) + 1 := by simp; omega
 rw [M, List.replicate_succ]
 rw [List.set_append_right _ _ (by simp)]
 simp
theorem put_cnt {W : World} {b : Nat} {o : Nat} {y : Int} {pre : List Int} (M : W.heap[b + 1]? = some (.cells #[.int .i64 pre.length] 3)) :
  ((W.setCell ⟨b, o, none⟩ (.int .u8 y)).setCell ⟨b + 1, 0, none⟩ (.int .i64 ((pre.length : Int) + 1))).heap[b + 1]? = some (.cells #[.int .i64 (pre ++ [y]).length] 3) := by
 have : (W.setCell ⟨b, o, none⟩ (.int .u8 y)).heap[b + 1]? = some (.cells #[.int .i64 pre.length] 3) := by rw [Below.heap_setCell _ _ _ _ (by simp)]; exact M
 simp only [World.setCell, Array.getElem?_modify, if_pos] at this ⊢
 rw [this]
 simp
theorem load_pad {P : Program} {W : World} {b : Nat} {M : List Int} (V : W.heap[b]? = some (.cells (padTo M) 142)) (_ : M.length ≤ 10) :
  (loadCells ⟨b, 0, none⟩ M.length).run P W = .ok (M.map (Value.int .u8)).toArray W := by
 have := run_loadCells_list (P := P) (w := W) ⟨b, 0, none⟩ (M.map (Value.int .u8)) (fun j v O => by
  have Z : (⟨b, 0, none⟩ : Addr).add j = ⟨b, j, none⟩ := by unfold Addr.add; split <;> simp_all
  rw [Z]
  simp only [World.cell?, V, padTo]
  have a0 : j < (M.map (Value.int .u8)).length := (List.getElem?_eq_some_iff.1 O).1
  simp only [Option.isSome_none, Bool.false_eq_true, if_false]
  rw [show (⟨M.map (Value.int .u8) ++ List.replicate (10 - M.length) (.int .u8 0)⟩ : Array Value)[j]? = (M.map (Value.int .u8) ++ List.replicate (10 - M.length) (.int .u8 0))[j]? by simp]
  rw [List.getElem?_append_left a0]; exact O)
 simpa using this
theorem foldl_leb (f z : Nat) : (lebI f z).foldl (fun r n => r.push (UInt8.ofNat n.toNat)) ByteArray.empty = ⟨((leb f z).map UInt8.ofNat).toArray⟩ := by
 have key : ∀ (l : List Nat) (r : ByteArray), (l.map Int.ofNat).foldl (fun r n => r.push (UInt8.ofNat n.toNat)) r = ⟨(r.data.toList ++ l.map UInt8.ofNat).toArray⟩ := by
  intro l
  induction l with
  | nil => intro r; simp
  | cons b l ih =>
   intro r
   simp only [List.map_cons, List.foldl_cons]
   rw [ih]
   congr 1
   simp
 unfold lebI
 rw [key]; rfl
theorem slice10 (W : World) (b m : Nat) (h : m ≤ 10) : (Instr.sliceAt 142 (.pointer (some ⟨b, 0, none⟩)) none (some (.int .i64 (m : Int))) none).run Tryz.prog W = .ok (.slice (some ⟨b, 0, none⟩) m 10) W := by
 have M : (Instr.sliceBound (.int .i64 (m : Int)) 10 .sliceAlen).run Tryz.prog W = .ok m W := by
  have := run_sliceBound (P := Tryz.prog) W .i64 (m : Int) 10 .sliceAlen (by omega) (by omega)
  simpa using this
 simp only [Instr.sliceAt, Sem.run_bind, run_underlying (P := Tryz.prog) (t := 142) (d := .array 10 5) (by kernel_rfl), Result.andThen_ok, Instr.sureAddr, Instr.sliceBounds, Sem.run_pure]
 have O : (sizeOf 5).run Tryz.prog W = .ok 1 W := by kernel_rfl
 simp only [Bool.false_eq_true, if_false, M, Result.andThen_ok, O]
 rfl
theorem conv10 (W : World) (b m : Nat) (s : ByteArray) (h : (Conv.bytesToString (.slice (some ⟨b, 0, none⟩) m 10)).run Tryz.prog W = .ok (.string s) W) : (convert 47 9 (.slice (some ⟨b, 0, none⟩) m 10)).run Tryz.prog W = .ok (.string s) W := by
 simp only [convert, Sem.run_bind, run_underlying (P := Tryz.prog) (t := 47) (d := .slice 5) (by kernel_rfl), run_underlying (P := Tryz.prog) (t := 9) (d := .string) (by kernel_rfl), run_underlying (P := Tryz.prog) (t := 5) (d := .int .u8) (by kernel_rfl), Result.andThen_ok, h]
set_option maxRecDepth 100000 in
set_option maxHeartbeats 2000000 in
theorem Tryz.PutInt_in (F : Fence) (n : Nat) (h12 : F.fn 48) (h23 : F.fn 87) (h25 : F.fn 124) (hro : F.round = none) (hn : 3 ≤ n) (x : Int) (hx0 : -4611686018427387903 ≤ x) (hx1 : x ≤ 4611686018427387903) (w : World) :
  CallsIn F n Tryz.prog 48 #[.int .i64 x] w fun e W' => e = .returned (.tuple #[.string (⟨((leb 9 (zig x)).map UInt8.ofNat).toArray⟩), .int .i64 0]) ∧ Below w.heap.size w W' := by
 have h1 : 1 ≤ n := by omega
 obtain ⟨z, hzd⟩ : ∃ z : Nat, z = zig x := ⟨_, rfl⟩
 have hz : z < 9223372036854775808 := by rw [hzd]; unfold zig; split <;> omega
 rw [← hzd]
 refine callsIn_of_wp_marks Tryz.func48 rfl h12 ?_ hro
 simp only [Tryz.ntmps48, List.size_toArray, List.length_cons, List.length_nil, Nat.reduceAdd, Nat.reduceSub, Array.replicate_succ, Array.replicate_zero, List.push_toArray, List.append_toArray, List.nil_append, List.cons_append]
 by_cases hneg : x < 0
 ·gi_wp2_with (gi_at_call 87; refine (Tryz.groupsf_in F (n - 1) h23 hro _ _).mono ?_; rintro e w' ⟨rfl, rfl⟩)

  have hzi : 2 * -x - 1 = (z : Int) := by rw [hzd]; unfold zig; rw [if_pos hneg]; omega
  have hlen : (lebI 9 z).length ≤ 10 := lebI_len z
  obtain ⟨w1, hw1⟩ : ∃ w1, (((w.alloc (.cells #[.int .u8 0, .int .u8 0, .int .u8 0, .int .u8 0, .int .u8 0, .int .u8 0, .int .u8 0, .int .u8 0, .int .u8 0, .int .u8 0] 142)).alloc (.cells #[.int .i64 0] 3)).alloc (.cells #[.int .u64 (2 * -x - 1)] 141)) = w1 := ⟨_, rfl⟩
  have hB0 : Below w.heap.size w w1 := by rw [← hw1]; exact (((Below.refl _ w).alloc (Nat.le_refl _) _).alloc (by simp) _).alloc (by simp; omega) _
  have hs1 : w1.heap.size = w.heap.size + 3 := by rw [← hw1]; simp
  have ha : w1.heap[w.heap.size]? = some (.cells (padTo []) 142) := by rw [← hw1]; exact (Below.heap_alloc _ _ _ (by simp; omega)).trans ((Below.heap_alloc _ _ _ (by simp)).trans (World.alloc_heap_new w _))
  have hb : w1.heap[w.heap.size + 1]? = some (.cells #[.int .i64 0] 3) := by rw [← hw1]; exact (Below.heap_alloc _ _ _ (by simp)).trans (by have := World.alloc_heap_new (w.alloc (.cells #[.int .u8 0, .int .u8 0, .int .u8 0, .int .u8 0, .int .u8 0, .int .u8 0, .int .u8 0, .int .u8 0, .int .u8 0, .int .u8 0] 142)) (.cells #[.int .i64 0] 3); simpa using this)
  have hc : w1.cell? ⟨w.heap.size + 1 + 1, 0, none⟩ = some (.int .u64 z) := by
   have := World.alloc_heap_new ((w.alloc (.cells #[.int .u8 0, .int .u8 0, .int .u8 0, .int .u8 0, .int .u8 0, .int .u8 0, .int .u8 0, .int .u8 0, .int .u8 0, .int .u8 0] 142)).alloc (.cells #[.int .i64 0] 3)) (.cells #[.int .u64 (2 * -x - 1)] 141)
   simp only [World.size_alloc] at this
   rw [hw1] at this
   simp [World.cell?, this, hzi]
  rw [hw1]
  clear hw1 hzi hzd
  refine wpIn_rangeFunc_ownF hro h1 (gf := 124) (lb := #[.pointer (some ⟨w.heap.size + 1 + 1, 0, none⟩)]) rfl h25 (enters_of Tryz.func124 (by kernel_rfl) rfl)
   (Tryz.groups_stops F (n - 1) h25 hro (by omega) (w.heap.size + 1 + 1) w.heap.size z hz w1 (by omega) hc) belowK_t (belowK_b (by omega)) (Below.refl _ _) (fun _ => rfl)
   (fun pre W => (pre.length ≤ 10 ∧ W.heap[w.heap.size]? = some (.cells (padTo pre) 142) ∧ W.heap[w.heap.size + 1]? = some (.cells #[.int .i64 pre.length] 3)) ∧ Below w.heap.size w W)
   (fun _ _ _ => False)
   (OwnFrom.and (Own.from (fun s A B row hs hg hr => ⟨hs.1, heap_kept hs.2.1 hg hr, heap_kept hs.2.2 hg hr⟩) _) (ownFrom_below (Nat.le_refl _) (by omega)))
   (fun _ _ _ _ _ hs _ _ => hs)
   ⟨⟨by simp, ha, hb⟩, hB0⟩
   (fun y => { tmps := #[.int .i64 x, undef, .string ⟨#[]⟩, .int .i64 0, .int .u64 (2 * -x - 1), .pointer (some ⟨w.heap.size, 0, none⟩), .pointer (some ⟨w.heap.size + 1, 0, none⟩), .int .u8 y, .int .i64 x, .bool (decide (x < -4611686018427387903)), .bool (decide (x < -4611686018427387903)), .int .i64 x, .bool (decide (4611686018427387903 < x)), .bool (decide (x < -4611686018427387903) || decide (4611686018427387903 < x)), .int .i64 x, .int .u64 (IntKind.u64.wrap x), .int .u64 (IntKind.u64.wrap (2 * IntKind.u64.wrap x)), .int .i64 x, .bool true, .int .i64 x, .int .i64 (-x), .int .u64 (-x), .int .u64 (2 * -x), .int .u64 (2 * -x - 1), .int .u64 (2 * -x - 1), .func (.func 124) #[] #[.pointer (some ⟨w.heap.size + 1 + 1, 0, none⟩)], .int .u8 y, undef, undef, undef, undef, undef, undef, undef, undef], defers := [] }) ?assign ?body ?done ?stop
  case assign =>
   intro l y W K hK
   gi_wp2
   exact hK
  case body =>
   rintro l pre y W ⟨⟨hp, hA, hC⟩, hB⟩ hlt
   have hlt' : pre.length < 10 := by omega
   obtain ⟨hcA, hfA, hcC, hfC⟩ := cells_at hA hC hlt'
   have hi : ((pre.length : Int)).toNat = pre.length := rfl
   have HA := Lib.hid hA
   have HC := Lib.hid hC
   clear hA hC
   gi_wp2
   exact ⟨(KeepsOthers.setCell _ _ _).trans (KeepsOthers.setCell _ _ _), ((Below.refl w.heap.size W).setCell (p := ⟨w.heap.size, pre.length, none⟩) (Nat.le_refl _) _).setCell (p := ⟨w.heap.size + 1, 0, none⟩) (by simp) _,
    ⟨by simp; omega, put_pad HA.out hlt', put_cnt HC.out⟩, (hB.setCell (p := ⟨w.heap.size, pre.length, none⟩) (Nat.le_refl _) _).setCell (p := ⟨w.heap.size + 1, 0, none⟩) (by simp) _⟩
  case done =>
   rintro D ys W hD rfl ⟨⟨hp, hA, hC⟩, hB⟩ hK
   have hcC : W.cell? ⟨w.heap.size + 1, 0, none⟩ = some (.int .i64 (lebI 9 z).length) := by simp [World.cell?, hC]
   have hld := load_pad (P := Tryz.prog) hA hp
   have hst := run_bytesToString (P := Tryz.prog) W ⟨w.heap.size, 0, none⟩ (lebI 9 z).length 10 (lebI 9 z) hld
   rw [foldl_leb] at hst
   have hsl := slice10 W w.heap.size (lebI 9 z).length hp
   have hcv := conv10 W w.heap.size (lebI 9 z).length _ hst
   clear hld hst hA hC hp hlen
   gi_wp2
   refine ⟨by simp, .inl ⟨_, _, rfl, run_takeDeferred hK, ?_⟩⟩
   exact ⟨_, results_tmp2 rfl _ _ _, rfl, hB.trans (belowK_b (w := w) (Nat.le_refl _) W D _ _ (by omega) hK rfl rfl)⟩
  case stop =>
   rintro D c pre W _ _ h _
   exact h.elim
 ·gi_wp2_with (gi_at_call 87; refine (Tryz.groupsf_in F (n - 1) h23 hro _ _).mono ?_; rintro e w' ⟨rfl, rfl⟩)

  have hzi : 2 * x = (z : Int) := by rw [hzd]; unfold zig; rw [if_neg (by omega)]; omega
  have hlen : (lebI 9 z).length ≤ 10 := lebI_len z
  obtain ⟨w1, hw1⟩ : ∃ w1, (((w.alloc (.cells #[.int .u8 0, .int .u8 0, .int .u8 0, .int .u8 0, .int .u8 0, .int .u8 0, .int .u8 0, .int .u8 0, .int .u8 0, .int .u8 0] 142)).alloc (.cells #[.int .i64 0] 3)).alloc (.cells #[.int .u64 (2 * x)] 141)) = w1 := ⟨_, rfl⟩
  have hB0 : Below w.heap.size w w1 := by rw [← hw1]; exact (((Below.refl _ w).alloc (Nat.le_refl _) _).alloc (by simp) _).alloc (by simp; omega) _
  have hs1 : w1.heap.size = w.heap.size + 3 := by rw [← hw1]; simp
  have ha : w1.heap[w.heap.size]? = some (.cells (padTo []) 142) := by rw [← hw1]; exact (Below.heap_alloc _ _ _ (by simp; omega)).trans ((Below.heap_alloc _ _ _ (by simp)).trans (World.alloc_heap_new w _))
  have hb : w1.heap[w.heap.size + 1]? = some (.cells #[.int .i64 0] 3) := by rw [← hw1]; exact (Below.heap_alloc _ _ _ (by simp)).trans (by have := World.alloc_heap_new (w.alloc (.cells #[.int .u8 0, .int .u8 0, .int .u8 0, .int .u8 0, .int .u8 0, .int .u8 0, .int .u8 0, .int .u8 0, .int .u8 0, .int .u8 0] 142)) (.cells #[.int .i64 0] 3); simpa using this)
  have hc : w1.cell? ⟨w.heap.size + 1 + 1, 0, none⟩ = some (.int .u64 z) := by
   have := World.alloc_heap_new ((w.alloc (.cells #[.int .u8 0, .int .u8 0, .int .u8 0, .int .u8 0, .int .u8 0, .int .u8 0, .int .u8 0, .int .u8 0, .int .u8 0, .int .u8 0] 142)).alloc (.cells #[.int .i64 0] 3)) (.cells #[.int .u64 (2 * x)] 141)
   simp only [World.size_alloc] at this
   rw [hw1] at this
   simp [World.cell?, this, hzi]
  rw [hw1]
  clear hw1 hzi hzd
  refine wpIn_rangeFunc_ownF hro h1 (gf := 124) (lb := #[.pointer (some ⟨w.heap.size + 1 + 1, 0, none⟩)]) rfl h25 (enters_of Tryz.func124 (by kernel_rfl) rfl)
   (Tryz.groups_stops F (n - 1) h25 hro (by omega) (w.heap.size + 1 + 1) w.heap.size z hz w1 (by omega) hc) belowK_t (belowK_b (by omega)) (Below.refl _ _) (fun _ => rfl)
   (fun pre W => (pre.length ≤ 10 ∧ W.heap[w.heap.size]? = some (.cells (padTo pre) 142) ∧ W.heap[w.heap.size + 1]? = some (.cells #[.int .i64 pre.length] 3)) ∧ Below w.heap.size w W)
   (fun _ _ _ => False)
   (OwnFrom.and (Own.from (fun s A B row hs hg hr => ⟨hs.1, heap_kept hs.2.1 hg hr, heap_kept hs.2.2 hg hr⟩) _) (ownFrom_below (Nat.le_refl _) (by omega)))
   (fun _ _ _ _ _ hs _ _ => hs)
   ⟨⟨by simp, ha, hb⟩, hB0⟩
   (fun y => { tmps := #[.int .i64 x, undef, .string ⟨#[]⟩, .int .i64 0, .int .u64 (2 * x), .pointer (some ⟨w.heap.size, 0, none⟩), .pointer (some ⟨w.heap.size + 1, 0, none⟩), .int .u8 y, .int .i64 x, .bool (decide (x < -4611686018427387903)), .bool (decide (x < -4611686018427387903)), .int .i64 x, .bool (decide (4611686018427387903 < x)), .bool (decide (x < -4611686018427387903) || decide (4611686018427387903 < x)), .int .i64 x, .int .u64 x, .int .u64 (2 * x), .int .i64 x, .bool false, undef, undef, undef, undef, undef, .int .u64 (2 * x), .func (.func 124) #[] #[.pointer (some ⟨w.heap.size + 1 + 1, 0, none⟩)], .int .u8 y, undef, undef, undef, undef, undef, undef, undef, undef], defers := [] }) ?assign ?body ?done ?stop
  case assign =>
   intro l y W K hK
   gi_wp2
   exact hK
  case body =>
   rintro l pre y W ⟨⟨hp, hA, hC⟩, hB⟩ hlt
   have hlt' : pre.length < 10 := by omega
   obtain ⟨hcA, hfA, hcC, hfC⟩ := cells_at hA hC hlt'
   have hi : ((pre.length : Int)).toNat = pre.length := rfl
   have HA := Lib.hid hA
   have HC := Lib.hid hC
   clear hA hC
   gi_wp2
   exact ⟨(KeepsOthers.setCell _ _ _).trans (KeepsOthers.setCell _ _ _), ((Below.refl w.heap.size W).setCell (p := ⟨w.heap.size, pre.length, none⟩) (Nat.le_refl _) _).setCell (p := ⟨w.heap.size + 1, 0, none⟩) (by simp) _,
    ⟨by simp; omega, put_pad HA.out hlt', put_cnt HC.out⟩, (hB.setCell (p := ⟨w.heap.size, pre.length, none⟩) (Nat.le_refl _) _).setCell (p := ⟨w.heap.size + 1, 0, none⟩) (by simp) _⟩
  case done =>
   rintro D ys W hD rfl ⟨⟨hp, hA, hC⟩, hB⟩ hK
   have hcC : W.cell? ⟨w.heap.size + 1, 0, none⟩ = some (.int .i64 (lebI 9 z).length) := by simp [World.cell?, hC]
   have hld := load_pad (P := Tryz.prog) hA hp
   have hst := run_bytesToString (P := Tryz.prog) W ⟨w.heap.size, 0, none⟩ (lebI 9 z).length 10 (lebI 9 z) hld
   rw [foldl_leb] at hst
   have hsl := slice10 W w.heap.size (lebI 9 z).length hp
   have hcv := conv10 W w.heap.size (lebI 9 z).length _ hst
   clear hld hst hA hC hp hlen
   gi_wp2
   refine ⟨by simp, .inl ⟨_, _, rfl, run_takeDeferred hK, ?_⟩⟩
   exact ⟨_, results_tmp2 rfl _ _ _, rfl, hB.trans (belowK_b (w := w) (Nat.le_refl _) W D _ _ (by omega) hK rfl rfl)⟩
  case stop =>
   rintro D c pre W _ _ h _
   exact h.elim
end
end Go.Proofs
namespace Go.Eng
open Go Go.RowKit Go.Proofs Wire
theorem finPure {v u : Value} {W : World} {L : SHeap} (h : v = u) : Fin (fun e M => e = .returned u ∧ Below W.heap.size W M) L [] W v := fun _ hm => ⟨by rw [h], hm.kept.below⟩
def pickN (c : Int) : Nat := if c < 0 then (-(c + 1)).toNat else c.toNat
def i64 (c : Int) : Prop := -9223372036854775808 ≤ c ∧ c ≤ 9223372036854775807
def encB (n : Int) : BA := ⟨(enc n).toArray⟩
theorem encB_bts (n : Int) : bts (encB n) = enc n := by simp [bts, encB]
theorem encB_size (n : Int) : (encB n).size = (enc n).length := by rw [← bts_len, encB_bts]
def putAns (n : Int) : Value := if okInt n then .tuple #[.string (encB n), .int .i64 0] else .tuple #[.string ⟨#[]⟩, .int .i64 10]
theorem bytesL_app (a b : List UInt8) : bytesL (a ++ b) = bytesL a ++ bytesL b := by simp [bytesL]
theorem bytesL_len (a : List UInt8) : (bytesL a).length = a.length := by simp [bytesL]
theorem bts_inj {a b : BA} (h : bts a = bts b) : a = b := by
 apply ByteArray.ext
 exact Array.toList_inj.1 h
theorem bts_append (a b : BA) : bts (a ++ b) = bts a ++ bts b := by simp [bts]
theorem bts_extract (s : BA) (a b : Nat) : bts (s.extract a b) = ((bts s).drop a).take (b - a) := by
 simp [bts, List.extract_eq_take_drop]
theorem bts_mk (l : List UInt8) : bts ⟨l.toArray⟩ = l := by simp [bts]
theorem bts_nil : bts ⟨#[]⟩ = [] := rfl
theorem PutInt_c (n : Int) : PureC TP 48 ⟨[.int .i64 n]⟩ (putAns n) := by
 by_cases h : okInt n
 ·have M := h
  unfold okInt maxInt at M
  intro W
  refine ((callsIn_wide.1 (Tryz.PutInt_in Fence.wide 3 trivial trivial trivial rfl (Nat.le_refl _) n M.1 M.2 W))).mono fun e V O => ⟨?_, O.2⟩
  rw [putAns, if_pos h, O.1]; rfl
 ·have M := h
  unfold okInt maxInt at M
  rw [putAns, if_neg h]
  exact fun W => PutInt_vc n (Mem.start [] W) ⟨fun hn => finPure rfl, fun hn => ⟨fun hm => finPure rfl, fun hm => by omega⟩⟩
theorem putAns_ok {n : Int} (h : okInt n) : putAns n = .tuple #[.string (encB n), .int .i64 0] := if_pos h
def encSB (s : BA) : BA := encB s.size ++ s
theorem encSB_bts (s : BA) : bts (encSB s) = encS (bts s) := by rw [encSB, bts_append, encB_bts, encS, bts_len]
def putSAns (s : BA) : Value := if s.size ≤ 65536 then .tuple #[.string (encSB s), .int .i64 0] else .tuple #[.string ⟨#[]⟩, .int .i64 10]
theorem PutString_c (s : BA) : PureC TP 91 ⟨[.string s]⟩ (putSAns s) := by
 refine fun W => PutString_vc s (Mem.start [] W) ⟨fun h => ?_, fun h => ?_⟩
 ·rw [putSAns, if_neg (by omega)]; exact finPure rfl
 ·have M : s.size ≤ 65536 := by omega
  rw [putSAns, if_pos M]
  refine CallH.pure (PutInt_c s.size) ?_
  rw [putAns_ok (okLen M)]
  refine ⟨_, _, rfl, rfl, fun h => absurd rfl h, fun _ => ⟨?_, ?_⟩⟩
  ·have := enc_len s.size; rw [← encB_size] at this; omega
  ·rintro t rfl; exact finPure rfl
def strRes : Option (List UInt8 × Nat) → Nat → Value
 | none, _ => .tuple #[.string ⟨#[]⟩, .int .i64 0, .int .i64 10]
 | some (t, k), a => .tuple #[.string ⟨t.toArray⟩, .int .i64 ((a + k : Nat) : Int), .int .i64 0]
def strAns (s : BA) (a : Int) : Value :=
 if a < 0 ∨ (s.size : Int) < a then .tuple #[.string ⟨#[]⟩, .int .i64 0, .int .i64 2] else strRes (rdStr ((bts s).drop a.toNat)) a.toNat
theorem str_law {P : Program} {g : FuncId} {s : BA} {a : Int} (b3 : s.size < 4611686018427387904) {w0 : World} (a8 : PureC P g ⟨[.string s, .int .i64 a]⟩ (intAns s a)) :
      CallH P g ⟨[.string s, .int .i64 a]⟩ [] [] w0 (fun v L' => ∃ (M : Int) (O : Int) (Z : Int), v = (.tuple #[.int .i64 M, .int .i64 O, .int .i64 Z]) ∧ L' = [] ∧
        ((¬ (Z = (0 : Int))) →
          Fin (fun e V => e = .returned (strAns s a) ∧ Below w0.heap.size w0 V) [] [] w0 (.tuple #[.string (⟨#[]⟩), .int .i64 (0 : Int), .int .i64 Z])) ∧
         ((Z = (0 : Int)) →
          ((M < (0 : Int)) →
            Fin (fun e V => e = .returned (strAns s a) ∧ Below w0.heap.size w0 V) [] [] w0 (.tuple #[.string (⟨#[]⟩), .int .i64 (0 : Int), .int .i64 (10 : Int)])) ∧
           ((¬ (M < (0 : Int))) →
            (((65536 : Int) < M) →
              Fin (fun e V => e = .returned (strAns s a) ∧ Below w0.heap.size w0 V) [] [] w0 (.tuple #[.string (⟨#[]⟩), .int .i64 (0 : Int), .int .i64 (10 : Int)])) ∧
             ((¬ ((65536 : Int) < M)) →
              (((IntKind.i64.wrap ((s.size : Int) - O)) < M) →
                Fin (fun e V => e = .returned (strAns s a) ∧ Below w0.heap.size w0 V) [] [] w0 (.tuple #[.string (⟨#[]⟩), .int .i64 (0 : Int), .int .i64 (10 : Int)])) ∧
               ((¬ ((IntKind.i64.wrap ((s.size : Int) - O)) < M)) →
                (0 ≤ O ∧ O ≤ (IntKind.i64.wrap (O + M)) ∧ (IntKind.i64.wrap (O + M)) ≤ s.size) ∧
                ∀ a2 : BA, a2 = (s.extract (Int.toNat O) (Int.toNat (IntKind.i64.wrap (O + M)))) →
                ∀ a0 : Int, a0 = (IntKind.i64.wrap (O + M)) →
                Fin (fun e V => e = .returned (strAns s a) ∧ Below w0.heap.size w0 V) [] [] w0 (.tuple #[.string a2, .int .i64 a0, .int .i64 (0 : Int)])))))) := by
  refine CallH.pure a8 ?_
  unfold intAns strAns
  by_cases h : a < 0 ∨ (s.size : Int) < a
  · rw [if_pos h, if_pos h]
    exact ⟨_, _, _, rfl, rfl, fun _ => finPure rfl, fun h => absurd h (by decide)⟩
  rw [if_neg h, if_neg h]
  obtain ⟨n, rfl⟩ : ∃ n : Nat, a = n := ⟨a.toNat, by omega⟩
  rw [Int.toNat_natCast]
  unfold rdStr
  cases hr : rdInt ((bts s).drop n) with
  | none => exact ⟨_, _, _, rfl, rfl, fun _ => finPure rfl, fun h => absurd h (by decide)⟩
  | some p =>
    obtain ⟨m, k⟩ := p
    obtain ⟨hm, a1, -, -⟩ := rdInt_inv hr
    have b1 := a1
    rw [List.length_drop, bts_len] at a1
    have b0 := hm
    unfold okInt maxInt at b0
    refine ⟨_, _, _, rfl, rfl, fun h => absurd rfl h, fun _ => ?_⟩
    have e1 : IntKind.i64.wrap ((s.size : Int) - ((n + k : Nat) : Int)) = ((s.size - (n + k) : Nat) : Int) := by rw [wi64 (by omega)]; omega
    rw [e1]
    have a9 : ((((bts s).drop n).length - k : Nat) : Int) = ((s.size - (n + k) : Nat) : Int) := by rw [List.length_drop, bts_len]; omega
    simp only [a9]
    refine ⟨fun a5 => ?_, fun a5 => ⟨fun a6 => ?_, fun a6 => ⟨fun a7 => ?_, fun a7 => ?_⟩⟩⟩
    · rw [if_neg (by omega)]; exact finPure rfl
    · rw [if_neg (by omega)]; exact finPure rfl
    · rw [if_neg (by omega)]; exact finPure rfl
    · obtain ⟨q, rfl⟩ : ∃ q : Nat, m = q := ⟨m.toNat, by omega⟩
      have a3 : IntKind.i64.wrap (((n + k : Nat) : Int) + (q : Int)) = ((n + k + q : Nat) : Int) := by rw [wi64 (by omega)]; omega
      rw [a3]
      refine ⟨by omega, ?_⟩
      rintro t rfl a0 rfl
      rw [if_pos (by omega)]
      refine finPure ?_
      simp only [strRes, Int.toNat_natCast]
      have a4 : s.extract (n + k) (n + k + q) = ⟨(List.take q (List.drop k (List.drop n (bts s)))).toArray⟩ := by
        apply bts_inj
        rw [bts_extract, bts_mk, List.drop_drop]
        congr 1; omega
      rw [a4, Nat.add_assoc]
theorem String_c (s : BA) (a : Int) (M : s.size < 4611686018427387904) : PureC TP 122 ⟨[.string s, .int .i64 a]⟩ (strAns s a) :=
 fun W => String_vc s a (Mem.start [] W) (str_law M (Int_c s a M))
def scan (s : BA) (p : Int → Bool) (i : Nat) : Bool := ((bts s).drop i).all fun c => p (c.toNat : Int)
def txtB (b : Int) : Bool := decide (32 ≤ b ∧ b ≤ 126)
def nameB (b : Int) : Bool := decide ((97 ≤ b ∧ b ≤ 122) ∨ (48 ≤ b ∧ b ≤ 57) ∨ b = 45)
def txtOk (s : BA) : Bool := decide (s.size ≤ 300) && scan s txtB 0
def nameOk (s : BA) : Bool := decide (1 ≤ s.size ∧ s.size ≤ 20) && scan s nameB 0
def fillOk (s : BA) : Bool := decide (s.size ≠ 0) && txtOk s
def ascOk : Int → List Int → Bool
 | _, [] => true
 | last, x :: r => decide (last < x ∧ x ≤ 64) && ascOk x r
def Lab.ok (l : Lab) : Bool := decide (0 ≤ l.unt ∧ l.unt ≤ 1000000000 ∧ 0 ≤ l.appr ∧ l.appr ≤ 5 ∧ 0 ≤ l.den ∧ l.den ≤ 15) && ascOk 0 l.after
def Blk.noRef (b : Blk) : Bool := decide (b.story = 0 ∧ b.ref = 0)
def Blk.kindOk (b : Blk) : Bool :=
 if b.kind = 1 then fillOk b.text && b.noRef
 else if b.kind = 2 then fillOk b.text && b.noRef
 else if b.kind = 3 then txtOk b.text && decide (1 ≤ b.story ∧ b.story ≤ 64 ∧ 1 ≤ b.ref ∧ b.ref ≤ 1000)
 else if b.kind = 4 then fillOk b.text && b.noRef
 else if b.kind = 5 then nameOk b.text && b.noRef
 else false
def Blk.ok (b : Blk) : Bool := decide (1 ≤ b.id ∧ b.id ≤ 1000) && (b.lab.ok && b.kindOk)
def listGo : List Blk → List Blk → Bool
 | _, [] => true
 | seen, b :: r => b.ok && (seen.all (fun e => decide (e.id ≠ b.id)) && listGo (seen ++ [b]) r)
def listOk (l : List Blk) : Bool := decide (l.length ≤ 24) && listGo [] l
theorem scan_cons {s : BA} {p : Int → Bool} {i : Nat} (h : i < s.size) : scan s p i = (p (bat s i) && scan s p (i + 1)) := by
 have M : i < (bts s).length := h
 unfold scan
 rw [List.drop_eq_getElem_cons M, List.all_cons, bat_get M]
theorem scan_end {s : BA} {p : Int → Bool} {i : Nat} (h : s.size ≤ i) : scan s p i = true := by
 unfold scan
 rw [List.drop_of_length_le (by rw [bts_len]; exact h)]; rfl
theorem scan_yes {s : BA} {p : Int → Bool} {i : Nat} (h : i < s.size) (hp : p (bat s i) = true) : scan s p i = scan s p (i + 1) := by rw [scan_cons h, hp, Bool.true_and]
theorem scan_no {s : BA} {p : Int → Bool} {i : Nat} (h : i < s.size) (hp : p (bat s i) = false) : scan s p i = false := by rw [scan_cons h, hp, Bool.false_and]
def IntsL (lk : Lk) (p : OA) (l : List Int) : Prop :=
 0 < l.length → ∃ (b o : Nat) (c : List Value), p = some ⟨b, o, none⟩ ∧ lk b c ∧ ∀ i (h : i < l.length), c[o + i]? = some (.int .i64 l[i])
abbrev Lab.cells (l : Lab) (p : OA) (c : Nat) : List Value := [.int .i64 l.unt, .slice p l.after.length c, .int .i64 l.appr, .int .i64 l.den]
abbrev Blk.cells (b : Blk) (p : OA) (c : Nat) : List Value := [.int .i64 b.id, .int .i64 b.kind, .string b.text, .int .i64 b.story, .int .i64 b.ref, .int .i64 b.lab.unt, .slice p b.lab.after.length c, .int .i64 b.lab.appr, .int .i64 b.lab.den]
def Blk.Fits (b : Blk) : Prop := b.text.size ≤ 9223372036854775807 ∧ b.lab.after.length ≤ 9223372036854775807
def BlkL (lk : Lk) (cs : List Value) (b : Blk) : Prop := ∃ p c, cs = b.cells p c ∧ IntsL lk p b.lab.after ∧ b.Fits
def BlksL (lk : Lk) (p : OA) (l : List Blk) : Prop :=
 0 < l.length → ∃ (b o : Nat) (c : List Value), p = some ⟨b, o, none⟩ ∧ lk b c ∧ ∀ i (h : i < l.length), o + i * 9 + 9 ≤ c.length ∧ BlkL lk ((c.drop (o + i * 9)).take 9) l[i]
def StrsL (lk : Lk) (p : OA) (l : List BA) : Prop :=
 0 < l.length → ∃ (b o : Nat) (c : List Value), p = some ⟨b, o, none⟩ ∧ lk b c ∧ ∀ i (h : i < l.length), c[o + i]? = some (.string l[i])
theorem IntsL.mono {lk M : Lk} {p : OA} {l : List Int} (h : IntsL lk p l) (a0 : ∀ b c, lk b c → M b c) : IntsL M p l := by
 intro hp
 obtain ⟨b, o, c, O, V, Z⟩ := h hp
 exact ⟨b, o, c, O, a0 b c V, Z⟩
theorem BlkL.mono {lk M : Lk} {cs : List Value} {b : Blk} (h : BlkL lk cs b) (a0 : ∀ b c, lk b c → M b c) : BlkL M cs b := by
 obtain ⟨p, c, O, V, Z⟩ := h
 exact ⟨p, c, O, V.mono a0, Z⟩
theorem BlksL.mono {lk V : Lk} {p : OA} {l : List Blk} (h : BlksL lk p l) (O : ∀ b c, lk b c → V b c) : BlksL V p l := by
 intro hp
 obtain ⟨b, o, c, Z, a0, M⟩ := h hp
 exact ⟨b, o, c, Z, O b c a0, fun i hi => ⟨(M i hi).1, (M i hi).2.mono O⟩⟩
theorem StrsL.mono {lk M : Lk} {p : OA} {l : List BA} (h : StrsL lk p l) (a0 : ∀ b c, lk b c → M b c) : StrsL M p l := by
 intro hp
 obtain ⟨b, o, c, O, V, Z⟩ := h hp
 exact ⟨b, o, c, O, a0 b c V, Z⟩
theorem IntsL.get {lk : Lk} {p : OA} {l : List Int} (h : IntsL lk p l) {i : Nat} (hi : i < l.length) : ∃ (b o : Nat) (c : List Value), p = some ⟨b, o, none⟩ ∧ lk b c ∧ c[o + i]? = some (.int .i64 l[i]) := by
 obtain ⟨b, o, c, M, O, V⟩ := h (by omega)
 exact ⟨b, o, c, M, O, V i hi⟩
theorem BlksL.get {lk : Lk} {p : OA} {l : List Blk} (h : BlksL lk p l) {i : Nat} (hi : i < l.length) :
  ∃ (b o : Nat) (c : List Value), p = some ⟨b, o, none⟩ ∧ lk b c ∧ o + i * 9 + 9 ≤ c.length ∧ BlkL lk ((c.drop (o + i * 9)).take 9) l[i] := by
 obtain ⟨b, o, c, O, V, M⟩ := h (by omega)
 exact ⟨b, o, c, O, V, (M i hi).1, (M i hi).2⟩
theorem StrsL.get {lk : Lk} {p : OA} {l : List BA} (h : StrsL lk p l) {i : Nat} (hi : i < l.length) : ∃ (b o : Nat) (c : List Value), p = some ⟨b, o, none⟩ ∧ lk b c ∧ c[o + i]? = some (.string l[i]) := by
 obtain ⟨b, o, c, M, O, V⟩ := h (by omega)
 exact ⟨b, o, c, M, O, V i hi⟩
abbrev PW (P : Program) (g : FuncId) (args : Array Value) (W : World) (v : Value) : Prop := Calls P g args W fun e W' => e = .returned v ∧ Below W.heap.size W W'
theorem CallH.pw {P : Program} {L : SHeap} {S : List Nat} {w0 : World} {g : FuncId} {args : Array Value} {v : Value} {K : Value → SHeap → Prop} (h : ∀ W, Mem L S w0 W → PW P g args W v) (M : K v L) : CallH P g args L S w0 K :=
 fun W hm => (h W hm).mono fun e W' ⟨he, hb⟩ => ⟨v, L, he, hm.after hb, M⟩
theorem finPW {v u : Value} {W : World} {L : SHeap} (h : v = u) : Fin (fun e M => e = .returned u ∧ Below W.heap.size W M) L [] W v := fun _ hm => ⟨by rw [h], hm.kept.below⟩
theorem lkW_kept {w0 W : World} {L : SHeap} (hm : Mem L [] w0 W) : ∀ b c, lkW w0 b c → lkW W b c := fun b c h => blkW_kept hm.kept (by simp) h
def lkM (L : SHeap) (w0 : World) : Lk := fun b c => (∃ t fz, (b, Obj.cells ⟨c⟩ t fz) ∈ L) ∨ lkW w0 b c
theorem lkM_old {w0 : World} {L : SHeap} : ∀ b c, lkW w0 b c → lkM L w0 b c := fun _ _ h => .inr h
variable {P : Program} {R : Ending → World → Prop} {S : List Nat} {w0 W : World} {lk : Lk} {tp bp ap : OA} {tc bc ac : Nat} {K K' : Value → SHeap → Prop} {args : Array Value} {g : FuncId}
noncomputable def isText_c0 (b : BA) (a : Int) : Cut := ⟨TP, [], 186, 23, (KC Tryz.f186 116), [(0, .string b), (3, IV a)], []⟩
theorem isText_c0_vc (b : BA) (a : Int) (H : VP [] w0 R (.P 8 10 (a < (b.size : Int)) (.r 8 <| .ix b a <| .P 2 17 ((bat b a) < 32) (.re 11 (.bool false) []) <| .r 2 <| .ix b a <| .P 3 22 (126 < (bat b a)) (.re 5 (.bool false) []) <| .li 7 3 (IntKind.i64.wrap (a + 1)) fun c => .ct 2 [] (isText_c0 b c)) <| .re 6 (.bool true) [])) : isText_c0 b a w0 R := VC.go Tryz.func186 _ H
theorem isText_vc (a : BA) (hm : Mem [] [] w0 W) (H : VP [] w0 R (.P 11 6 (300 < (a.size : Int)) (.re 5 (.bool false) []) <| .ct 9 [] (isText_c0 a 0))) : Calls TP 186 ⟨[.string a]⟩ W R := VC.cs Tryz.func186 hm _ H
noncomputable def isName_c0 (b : BA) (a : Int) : Cut := ⟨TP, [], 193, 52, (KC Tryz.f193 116), [(0, .string b), (3, IV a)], []⟩
theorem isName_c0_vc (b : BA) (a : Int) (H : VP [] w0 R (.P 8 17 (a < (b.size : Int)) (.r 8 <| .ix b a <| .P 2 24 (97 ≤ (bat b a)) (.r 2 <| .ix b a <| .r 8 <| .ix b a <| .P 2 34 (48 ≤ (bat b a)) (.r 2 <| .ix b a <| .I 9 42 ((bat b a) ≤ 122) (.I 4 46 ((bat b a) ≤ 57) (.r 2 <| .ix b a <| .I 3 51 ((bat b a) = 45) (.re 5 (.bool false) []) <| .li 7 3 (IntKind.i64.wrap (a + 1)) fun c => .ct 2 [] (isName_c0 b c)) <| .li 13 3 (IntKind.i64.wrap (a + 1)) fun d => .ct 2 [] (isName_c0 b d)) <| .li 17 3 (IntKind.i64.wrap (a + 1)) fun e => .ct 2 [] (isName_c0 b e)) <| .I 12 42 ((bat b a) ≤ 122) (.r 6 <| .ix b a <| .I 3 51 ((bat b a) = 45) (.re 5 (.bool false) []) <| .li 7 3 (IntKind.i64.wrap (a + 1)) fun f => .ct 2 [] (isName_c0 b f)) <| .li 17 3 (IntKind.i64.wrap (a + 1)) fun g => .ct 2 [] (isName_c0 b g)) <| .r 11 <| .ix b a <| .P 2 34 (48 ≤ (bat b a)) (.r 2 <| .ix b a <| .I 13 46 ((bat b a) ≤ 57) (.r 2 <| .ix b a <| .I 3 51 ((bat b a) = 45) (.re 5 (.bool false) []) <| .li 7 3 (IntKind.i64.wrap (a + 1)) fun h => .ct 2 [] (isName_c0 b h)) <| .li 13 3 (IntKind.i64.wrap (a + 1)) fun i => .ct 2 [] (isName_c0 b i)) <| .r 18 <| .ix b a <| .I 3 51 ((bat b a) = 45) (.re 5 (.bool false) []) <| .li 7 3 (IntKind.i64.wrap (a + 1)) fun j => .ct 2 [] (isName_c0 b j)) <| .re 6 (.bool true) [])) : isName_c0 b a w0 R := VC.go Tryz.func193 _ H
theorem isName_vc (a : BA) (hm : Mem [] [] w0 W) (H : VP [] w0 R (.P 11 9 ((a.size : Int) < 1) (.re 10 (.bool false) []) <| .P 5 13 (20 < (a.size : Int)) (.re 5 (.bool false) []) <| .ct 9 [] (isName_c0 a 0))) : Calls TP 193 ⟨[.string a]⟩ W R := VC.cs Tryz.func193 hm _ H
theorem rul1_vc (a : BA) (hm : Mem [] [] w0 W) (H : VP [] w0 R (.sN 9 5 a (⟨#[]⟩ : BA) (.cl 1 186 [.string a] [] <| .ex fun b => .rt (.bool b) [] <| .re 3 (.bool b) []) <| .re 5 (.bool false) [])) : Calls TP 185 ⟨[.string a]⟩ W R := VC.cs Tryz.func185 hm _ H
noncomputable def eqInts_c0 (c : OA) (b a : Nat) (f : OA) (e d : Nat) (g h : Int) : Cut := ⟨TP, [], 149, 26, (KC Tryz.f149 116), [(0, .slice c b a), (1, .slice f e d), (12, IV g), (13, IV h)], []⟩
theorem eqInts_c0_vc (m : OA) (g f : Nat) (n : OA) (i h : Nat) (j a : Int) (H : VP [] w0 R (.P 5 14 (a < j) (.r 10 <| .dr 9 <| .qu [2] <| .x2 fun d b => .sp m d b [0,16] <| .iL d b g f 1 a (b + (Int.toNat a)) <| .x2 fun o k => .lW d (b + (Int.toNat a)) 3 o (IV k) <| .qu [2] <| .x2 fun e c => .sp n e c [1,20] <| .iL e c i h 1 a (c + (Int.toNat a)) <| .x2 fun p l => .lW e (c + (Int.toNat a)) 3 p (IV l) <| .qu [1] <| .dn <| .I 1 24 (k = l) (.re 5 (.bool false) []) <| .ct 8 [] (eqInts_c0 (some ⟨d, b, none⟩) g f (some ⟨e, c, none⟩) i h j (IntKind.i64.wrap (a + 1)))) <| .re 6 (.bool true) [])) : eqInts_c0 m g f n i h j a w0 R := VC.go Tryz.func149 _ H
theorem eqInts_vc (d : OA) (a c : Nat) (f : OA) (b e : Nat) (hm : Mem [] [] w0 W) (H : VP [] w0 R (.I 13 10 ((a : Int) = (b : Int)) (.re 5 (.bool false) []) <| .ct 11 [] (eqInts_c0 d a c f b e (a : Int) 0))) : Calls TP 149 ⟨[.slice d a c, .slice f b e]⟩ W R := VC.cs Tryz.func149 hm _ H
noncomputable def labValid_c0 (a : Int) (d : OA) (c b : Nat) (e f : Int) : Cut := ⟨TP, [], 101, 34, (KC Tryz.f101 244), [(3, IV a), (19, .slice d c b), (20, IV e), (21, IV f)], []⟩
theorem labValid_c0_vc (c : Int) (k : OA) (g f : Nat) (h b : Int) (H : VP [] w0 R (.P 5 22 (b < h) (.r 6 <| .x2 fun e d => .sp k e d [19] <| .iL e d g f 1 b (d + (Int.toNat b)) <| .x2 fun m a => .lW e (d + (Int.toNat b)) 3 m (IV a) <| .r 9 <| .ns false 1 (.cells #[IV a, IV (IntKind.i64.wrap (c + 1)), IV 64] 205) fun i => .il 0 Tryz.func142 [.slice (SO i) 1 1] <| .ru [25,200] <| .np 0 (.cells #[IV 0, IV 0, IV 0] 205) fun l => .hp [(i, .cells #[IV a, IV (IntKind.i64.wrap (c + 1)), IV 64] 205), (l, .cells #[IV a, IV (IntKind.i64.wrap (c + 1)), IV 64] 205)] fun j => .ru [201,4,201,1,201] <| .P 2 16 (a < (IntKind.i64.wrap (c + 1))) (.rk 12 <| .re 7 (.bool false) j) <| .ru [1,201,1,201] <| .P 3 22 (64 < a) (.rk 5 <| .re 7 (.bool false) j) <| .rk 19 <| .ct 14 [] (labValid_c0 a (some ⟨e, d, none⟩) g f h (IntKind.i64.wrap (b + 1)))) <| .re 6 (.bool true) [])) : labValid_c0 c k g f h b w0 R := VC.go Tryz.func101 _ H
theorem labValid_vc (a : Int) (d : OA) (b c : Nat) (ba bd : Int) (hm : Mem [] [] w0 W) (H : VP [] w0 R (.np 2 (.cells #[IV a, .slice d b c, IV ba, IV bd] 36) fun B => .ru [6,200,2,200,2,200] <| .r 1 <| .ns false 3 (.cells #[IV a, IV 0, IV 1000000000, IV ba, IV 0, IV 5, IV bd, IV 0, IV 15] 205) fun e => .il 0 Tryz.func142 [.slice (SO e) 3 3] <| .ru [25,201] <| .np 0 (.cells #[IV 0, IV 0, IV 0] 205) fun f => .hp [(B, .cells #[IV a, .slice d b c, IV ba, IV bd] 36), (e, .cells #[IV a, IV 0, IV 1000000000, IV ba, IV 0, IV 5, IV bd, IV 0, IV 15] 205), (f, .cells #[IV a, IV 0, IV 1000000000] 205)] fun h => .ru [202,4,202,1,202] <| .P 2 16 (a < 0) (.rk 12 <| .re 7 (.bool false) h) <| .ru [1,202,1,202] <| .P 3 22 (1000000000 < a) (.rk 5 <| .re 7 (.bool false) h) <| .ru [20,201] <| .np 0 (.cells #[IV 0, IV 0, IV 0] 205) fun g => .hp [(B, .cells #[IV a, .slice d b c, IV ba, IV bd] 36), (e, .cells #[IV a, IV 0, IV 1000000000, IV ba, IV 0, IV 5, IV bd, IV 0, IV 15] 205), (f, .cells #[IV a, IV 0, IV 1000000000] 205), (g, .cells #[IV ba, IV 0, IV 5] 205)] fun i => .ru [203,4,203,1,203] <| .P 2 16 (ba < 0) (.rk 12 <| .re 7 (.bool false) i) <| .ru [1,203,1,203] <| .P 3 22 (5 < ba) (.rk 5 <| .re 7 (.bool false) i) <| .ru [20,201] <| .np 0 (.cells #[IV 0, IV 0, IV 0] 205) fun k => .hp [(B, .cells #[IV a, .slice d b c, IV ba, IV bd] 36), (e, .cells #[IV a, IV 0, IV 1000000000, IV ba, IV 0, IV 5, IV bd, IV 0, IV 15] 205), (f, .cells #[IV a, IV 0, IV 1000000000] 205), (g, .cells #[IV ba, IV 0, IV 5] 205), (k, .cells #[IV bd, IV 0, IV 15] 205)] fun j => .ru [204,4,204,1,204] <| .P 2 16 (bd < 0) (.rk 12 <| .re 7 (.bool false) j) <| .ru [1,204,1,204] <| .P 3 22 (15 < bd) (.rk 5 <| .re 7 (.bool false) j) <| .rk 19 <| .ru [12,200] <| .ct 5 [] (labValid_c0 0 d b c (b : Int) 0))) : Calls TP 101 ⟨[.agg #[IV a, .slice d b c, IV ba, IV bd]]⟩ W R := VC.cs Tryz.func101 hm _ H
theorem labSame_vc (g : Int) (f : OA) (e c : Nat) (b d m : Int) (l : OA) (k i : Nat) (h j : Int) (hm : Mem [] [] w0 W) (H : VP [] w0 R (.np 2 (.cells #[IV g, .slice f e c, IV b, IV d] 36) fun B => .np 0 (.cells #[IV m, .slice l k i, IV h, IV j] 36) fun o => .hp [(B, .cells #[IV g, .slice f e c, IV b, IV d] 36), (o, .cells #[IV m, .slice l k i, IV h, IV j] 36)] fun a => .ru [5,200,1,201] <| .P 2 10 (g = m) (.ru [1,200,1,201] <| .cl 0 149 [.slice f e c, .slice l k i] a <| .ex fun n => .rt (.bool n) a <| .B 2 17 n (.ru [1,200,1,201] <| .P 3 24 (b = h) (.ru [1,200,1,201] <| .re 4 (.bool (decide (d = j))) a) <| .re 8 (.bool false) a) <| .re 15 (.bool false) a) <| .re 22 (.bool false) a)) : Calls TP 108 ⟨[.agg #[IV g, .slice f e c, IV b, IV d], .agg #[IV m, .slice l k i, IV h, IV j]]⟩ W R := VC.cs Tryz.func108 hm _ H
theorem finEq {L : SHeap} {v u : Value} (h : Fin R L S w0 u) (e : v = u) : Fin R L S w0 v := e ▸ h
theorem isText_loop {s : BA} (O : s.size ≤ 9223372036854775807) : ∀ (g i : Nat), g + i = s.size → Fin R [] [] w0 (.bool (scan s txtB i)) → isText_c0 s (i : Int) w0 R
 | 0, i, hg, H => by
  apply isText_c0_vc
  exact no (by omega) (finEq H (by rw [scan_end (by omega)]))
 | g + 1, i, hg, H => by
  apply isText_c0_vc
  have hi : i < s.size := by omega
  refine yes (by omega) ⟨by omega, fun h => finEq H ?_, fun h => ⟨by omega, fun M => finEq H ?_, fun M => ?_⟩⟩
  ·rw [scan_no hi (decide_eq_false (by omega))]
  ·rw [scan_no hi (decide_eq_false (by omega))]
  ·rintro _ rfl
   rw [wi64 (by omega), show (i : Int) + 1 = ((i + 1 : Nat) : Int) by omega]
   rw [scan_yes hi (decide_eq_true (by omega))] at H
   exact isText_loop O g (i + 1) (by omega) H
theorem isText_c (s : BA) (M : s.size ≤ 9223372036854775807) : PureC TP 186 ⟨[.string s]⟩ (.bool (txtOk s)) := by
 intro W
 refine isText_vc s (Mem.start [] W) ⟨fun h => finPure ?_, fun h => isText_loop M s.size 0 (by omega) (finPure ?_)⟩
 ·rw [txtOk, decide_eq_false (by omega), Bool.false_and]
 ·rw [txtOk, decide_eq_true (by omega), Bool.true_and]
theorem isName_loop {s : BA} (M : s.size ≤ 9223372036854775807) : ∀ (g i : Nat), g + i = s.size → Fin R [] [] w0 (.bool (scan s nameB i)) → isName_c0 s (i : Int) w0 R
 | 0, i, hg, H => by
  apply isName_c0_vc
  exact no (by omega) (finEq H (by rw [scan_end (by omega)]))
 | g + 1, i, hg, H => by
  apply isName_c0_vc
  have hi : i < s.size := by omega
  have next : nameB (bat s i) = true → ∀ x : Int, x = IntKind.i64.wrap ((i : Int) + 1) → isName_c0 s x w0 R := by
   rintro hn _ rfl
   rw [wi64 (by omega), show (i : Int) + 1 = ((i + 1 : Nat) : Int) by omega]
   rw [scan_yes hi hn] at H
   exact isName_loop M g (i + 1) (by omega) H
  have stop : nameB (bat s i) = false → Fin R [] [] w0 (.bool false) := fun hn => finEq H (by rw [scan_no hi hn])
  refine yes (by omega) ?_
  repeat' (first
   | refine And.intro ?_ ?_
   | omega
   | exact stop (decide_eq_false (by omega))
   | exact next (decide_eq_true (by omega))
   | intro _)
theorem isName_c (s : BA) (O : s.size ≤ 9223372036854775807) : PureC TP 193 ⟨[.string s]⟩ (.bool (nameOk s)) := by
 intro W
 refine isName_vc s (Mem.start [] W) ⟨fun h => finPure ?_, fun h => ⟨fun M => finPure ?_, fun M => isName_loop O s.size 0 (by omega) (finPure ?_)⟩⟩
 ·rw [nameOk, decide_eq_false (by omega), Bool.false_and]
 ·rw [nameOk, decide_eq_false (by omega), Bool.false_and]
 ·rw [nameOk, decide_eq_true (by omega), Bool.true_and]
theorem ba_nil {s : BA} : s = (⟨#[]⟩ : BA) ↔ s.size = 0 := ⟨fun h => by rw [h]; rfl, fun h => bts_inj (by rw [bts_nil]; exact List.length_eq_zero_iff.1 (by rw [bts_len]; exact h))⟩
theorem rul1_c (s : BA) (O : s.size ≤ 9223372036854775807) : PureC TP 185 ⟨[.string s]⟩ (.bool (fillOk s)) := by
 intro W
 refine rul1_vc s (Mem.start [] W) ⟨fun h => CallH.pure (isText_c s O) ⟨_, rfl, rfl, finPure ?_⟩, fun h => finPure ?_⟩
 ·rw [fillOk, decide_eq_true (show s.size ≠ 0 from fun M => h (ba_nil.2 M)), Bool.true_and]
 ·rw [fillOk, decide_eq_false (show ¬ s.size ≠ 0 from fun M => M (ba_nil.1 h)), Bool.false_and]
theorem drop_eq {α : Type} {a b : List α} {i : Nat} (M : i < a.length) (O : i < b.length) : (a.drop i = b.drop i) = (a[i] = b[i] ∧ a.drop (i + 1) = b.drop (i + 1)) := by
 rw [List.drop_eq_getElem_cons M, List.drop_eq_getElem_cons O]
 simp only [List.cons.injEq]
theorem eqInts_loop {w0 : World} {p q : OA} {a2 a3 : Nat} {R : Ending → World → Prop} {a b : List Int} (V : IntsL (lkW w0) p a) (Z : IntsL (lkW w0) q b) (a8 : a.length = b.length) (hm : a.length ≤ 9223372036854775807) :
  ∀ (g i : Nat), g + i = a.length → Fin R [] [] w0 (.bool (decide (a.drop i = b.drop i))) → eqInts_c0 p a.length a2 q b.length a3 (a.length : Int) (i : Int) w0 R
 | 0, i, hg, H => by
  apply eqInts_c0_vc
  refine no (by omega) (finEq H ?_)
  rw [List.drop_of_length_le (by omega), List.drop_of_length_le (by omega)]
  simp
 | g + 1, i, hg, H => by
  apply eqInts_c0_vc
  have M : i < a.length := by omega
  have O : i < b.length := by omega
  obtain ⟨a0, o1, c1, rfl, a4, a5⟩ := V.get M
  obtain ⟨B2, a9, a1, rfl, a6, a7⟩ := Z.get O
  simp only [drop_eq M O] at H
  refine yes (by omega) ⟨a0, o1, rfl, by omega, c1, a[i], a4, by simpa using a5, B2, a9, rfl, by omega, a1, b[i], a6, by simpa using a7, fun h => finEq H ?_, fun h => ?_⟩
  ·simp [h]
  ·rw [wi64 (by omega), show (i : Int) + 1 = ((i + 1 : Nat) : Int) by omega]
   refine eqInts_loop V Z a8 hm g (i + 1) (by omega) (finEq H ?_)
   simp [h]
theorem eqInts_c {p q : OA} {M O : Nat} {a b : List Int} (V : IntsL (lkW W) p a) (a0 : IntsL (lkW W) q b) (hm : a.length ≤ 9223372036854775807) :
  PW TP 149 ⟨[.slice p a.length M, .slice q b.length O]⟩ W (.bool (decide (a = b))) := by
 refine eqInts_vc p a.length M q b.length O (Mem.start [] W) ⟨fun h => finPW ?_, fun h => eqInts_loop V a0 (by omega) hm a.length 0 (by omega) (finPW ?_)⟩
 ·rw [decide_eq_false]
  intro Z; subst Z; exact h rfl
 ·simp
theorem labValid_loop {w0 : World} {p : OA} {a0 : Nat} {R : Ending → World → Prop} {a : List Int} (V : IntsL (lkW w0) p a) (hm : a.length ≤ 9223372036854775807) (M : ∀ L v, Fin R [] [] w0 v → Fin R L [] w0 v) :
  ∀ (g i : Nat) (last : Int), 0 ≤ last → last ≤ 64 → g + i = a.length → Fin R [] [] w0 (.bool (ascOk last (a.drop i))) → labValid_c0 last p a.length a0 (a.length : Int) (i : Int) w0 R
 | 0, i, last, _, _, hg, H => by
  apply labValid_c0_vc
  refine no (by omega) (finEq H ?_)
  rw [List.drop_of_length_le (by omega)]; rfl
 | g + 1, i, last, l0, l1, hg, H => by
  apply labValid_c0_vc
  have O : i < a.length := by omega
  obtain ⟨Z, o1, c1, rfl, a1, a2⟩ := V.get O
  rw [List.drop_eq_getElem_cons O] at H
  rw [wi64 (x := last + 1) (by omega)]
  refine yes (by omega) ⟨Z, o1, rfl, by omega, c1, a[i], a1, by simpa using a2, fun a4 B6 => ⟨fun h => M _ _ (finEq H ?_), fun h => ⟨fun a3 => M _ _ (finEq H ?_), fun a3 => ?_⟩⟩⟩
  ·rw [ascOk, decide_eq_false (by omega), Bool.false_and]
  ·rw [ascOk, decide_eq_false (by omega), Bool.false_and]
  ·rw [wi64 (by omega), show (i : Int) + 1 = ((i + 1 : Nat) : Int) by omega]
   refine labValid_loop V hm M g (i + 1) a[i] (by omega) (by omega) (by omega) (finEq H ?_)
   rw [ascOk, decide_eq_true (by omega), Bool.true_and]
theorem pwLoose {u : Value} : ∀ (L : SHeap) v, Fin (fun e M => e = .returned u ∧ Below W.heap.size W M) [] [] W v → Fin (fun e M => e = .returned u ∧ Below W.heap.size W M) L [] W v :=
 fun L v h M hm => h M ⟨by simp, by simp, by simp, hm.kept⟩
theorem labValid_c {p : OA} {c : Nat} {l : Lab} (h : IntsL (lkW W) p l.after) (hm : l.after.length ≤ 9223372036854775807) : PW TP 101 ⟨[.agg ⟨l.cells p c⟩]⟩ W (.bool l.ok) := by
 refine labValid_vc l.unt p l.after.length c l.appr l.den (Mem.start [] W) fun B M B2 => ?_
 have stop : ¬ (0 ≤ l.unt ∧ l.unt ≤ 1000000000 ∧ 0 ≤ l.appr ∧ l.appr ≤ 5 ∧ 0 ≤ l.den ∧ l.den ≤ 15) → (Value.bool false) = .bool l.ok := fun hn => by rw [Lab.ok, decide_eq_false hn, Bool.false_and]
 refine ⟨fun h => finPW (stop (by omega)), fun V => ⟨fun h => finPW (stop (by omega)), fun Z B3 => ⟨fun h => finPW (stop (by omega)), fun a0 => ⟨fun h => finPW (stop (by omega)), fun a1 O => ⟨fun h => finPW (stop (by omega)), fun a2 => ⟨fun h => finPW (stop (by omega)), fun a3 => ?_⟩⟩⟩⟩⟩⟩
 refine labValid_loop h hm pwLoose l.after.length 0 0 (by omega) (by omega) (by omega) (finPW ?_)
 rw [Lab.ok, decide_eq_true (by omega), Bool.true_and]; rfl
theorem Lab.ext' {x y : Lab} : x = y ↔ x.unt = y.unt ∧ x.after = y.after ∧ x.appr = y.appr ∧ x.den = y.den := by
 cases x; cases y; simp
theorem Lab.ne {x y : Lab} (h : ¬ (x.unt = y.unt ∧ x.after = y.after ∧ x.appr = y.appr ∧ x.den = y.den)) : (Value.bool false) = .bool (decide (x = y)) := by
 rw [decide_eq_false (fun e => h (Lab.ext'.1 e))]
theorem labSame_c {p q : OA} {c d : Nat} {x y : Lab} (a0 : IntsL (lkW W) p x.after) (a1 : IntsL (lkW W) q y.after) (hm : x.after.length ≤ 9223372036854775807) :
  PW TP 108 ⟨[.agg ⟨x.cells p c⟩, .agg ⟨y.cells q d⟩]⟩ W (.bool (decide (x = y))) := by
 refine labSame_vc x.unt p x.after.length c x.appr x.den y.unt q y.after.length d y.appr y.den (Mem.start [] W) fun B a2 => ⟨fun O => ?_, fun O => finPW (Lab.ne fun h => O h.1)⟩
 refine CallH.pw (fun a3 Z => eqInts_c (a0.mono (lkW_kept Z)) (a1.mono (lkW_kept Z)) hm) ⟨_, rfl, rfl, fun M => ⟨fun V => finPW ?_, fun V => finPW (Lab.ne fun h => V h.2.2.1)⟩, fun M => finPW (Lab.ne fun h => of_decide_eq_false M h.2.1)⟩
 have M := of_decide_eq_true M
 simp only [Lab.ext', O, M, V, true_and]
theorem rules_vc  (hm : Mem [] [] w0 W)
 (H :
 ∀ B : Nat,
 Fin R [(B, .map #[{ key := IV 1, val := .agg #[.func (.func 185) #[] #[], .bool false, .func (.func 187) #[] #[]], born := 0 }, { key := IV 2, val := .agg #[.func (.func 185) #[] #[], .bool false, .func (.func 188) #[] #[]], born := 1 }, { key := IV 3, val := .agg #[.func (.func 186) #[] #[], .bool true, .func (.func 191) #[] #[]], born := 2 }, { key := IV 4, val := .agg #[.func (.func 185) #[] #[], .bool false, .func (.func 192) #[] #[]], born := 3 }, { key := IV 5, val := .agg #[.func (.func 193) #[] #[], .bool false, .func (.func 194) #[] #[]], born := 4 }] 5)] [] w0 (.map (some B))) :
 Calls TP 171 ⟨[]⟩ W R:= by
 refine AtE.cs 12 Tryz.func171 hm (.ru 10 (.nw (fun B => .map (some B)) (.map #[] 0) fun B => ?_))
 replace H := H B
 refine .ru 2 (.insert 0 (b := B) (c := 0) (es := #[]) (kt := 3) (et := 239) (kd := .i64) (n := (1 : Int)) (v := .agg #[.func (.func 185) #[] #[], .bool false, .func (.func 187) #[] #[]]) (n' := 1) (by kernel_rfl) rfl (.nm (KR Tryz.f171 14 [4,5,6,7,8,9,10,11,12,13,14,15]) [(1, .func (.func 185) #[] #[]), (2, .map (some B))] [(B, .map #[{ key := IV 1, val := .agg #[.func (.func 185) #[] #[], .bool false, .func (.func 187) #[] #[]], born := 0 }] 1)] (.ru 2 (.insert 0 (b := B) (c := 1) (es := #[{ key := IV 1, val := .agg #[.func (.func 185) #[] #[], .bool false, .func (.func 187) #[] #[]], born := 0 }]) (kt := 3) (et := 239) (kd := .i64) (n := (2 : Int)) (v := .agg #[.func (.func 185) #[] #[], .bool false, .func (.func 188) #[] #[]]) (n' := 2) (by kernel_rfl) rfl (.nm (KR Tryz.f171 14 [7,8,9,10,11,12,13,14,15]) [(1, .func (.func 185) #[] #[]), (2, .map (some B))] [(B, .map #[{ key := IV 1, val := .agg #[.func (.func 185) #[] #[], .bool false, .func (.func 187) #[] #[]], born := 0 }, { key := IV 2, val := .agg #[.func (.func 185) #[] #[], .bool false, .func (.func 188) #[] #[]], born := 1 }] 2)] (.ru 1 (.insert 0 (b := B) (c := 2) (es := #[{ key := IV 1, val := .agg #[.func (.func 185) #[] #[], .bool false, .func (.func 187) #[] #[]], born := 0 }, { key := IV 2, val := .agg #[.func (.func 185) #[] #[], .bool false, .func (.func 188) #[] #[]], born := 1 }]) (kt := 3) (et := 239) (kd := .i64) (n := (3 : Int)) (v := .agg #[.func (.func 186) #[] #[], .bool true, .func (.func 191) #[] #[]]) (n' := 3) (by kernel_rfl) rfl (.nm (KR Tryz.f171 14 [9,10,11,12,13,14,15]) [(1, .func (.func 185) #[] #[]), (2, .map (some B))] [(B, .map #[{ key := IV 1, val := .agg #[.func (.func 185) #[] #[], .bool false, .func (.func 187) #[] #[]], born := 0 }, { key := IV 2, val := .agg #[.func (.func 185) #[] #[], .bool false, .func (.func 188) #[] #[]], born := 1 }, { key := IV 3, val := .agg #[.func (.func 186) #[] #[], .bool true, .func (.func 191) #[] #[]], born := 2 }] 3)] (.ru 2 (.insert 0 (b := B) (c := 3) (es := #[{ key := IV 1, val := .agg #[.func (.func 185) #[] #[], .bool false, .func (.func 187) #[] #[]], born := 0 }, { key := IV 2, val := .agg #[.func (.func 185) #[] #[], .bool false, .func (.func 188) #[] #[]], born := 1 }, { key := IV 3, val := .agg #[.func (.func 186) #[] #[], .bool true, .func (.func 191) #[] #[]], born := 2 }]) (kt := 3) (et := 239) (kd := .i64) (n := (4 : Int)) (v := .agg #[.func (.func 185) #[] #[], .bool false, .func (.func 192) #[] #[]]) (n' := 4) (by kernel_rfl) rfl (.nm (KR Tryz.f171 14 [12,13,14,15]) [(2, .map (some B))] [(B, .map #[{ key := IV 1, val := .agg #[.func (.func 185) #[] #[], .bool false, .func (.func 187) #[] #[]], born := 0 }, { key := IV 2, val := .agg #[.func (.func 185) #[] #[], .bool false, .func (.func 188) #[] #[]], born := 1 }, { key := IV 3, val := .agg #[.func (.func 186) #[] #[], .bool true, .func (.func 191) #[] #[]], born := 2 }, { key := IV 4, val := .agg #[.func (.func 185) #[] #[], .bool false, .func (.func 192) #[] #[]], born := 3 }] 4)] (.ru 1 (.insert 0 (b := B) (c := 4) (es := #[{ key := IV 1, val := .agg #[.func (.func 185) #[] #[], .bool false, .func (.func 187) #[] #[]], born := 0 }, { key := IV 2, val := .agg #[.func (.func 185) #[] #[], .bool false, .func (.func 188) #[] #[]], born := 1 }, { key := IV 3, val := .agg #[.func (.func 186) #[] #[], .bool true, .func (.func 191) #[] #[]], born := 2 }, { key := IV 4, val := .agg #[.func (.func 185) #[] #[], .bool false, .func (.func 192) #[] #[]], born := 3 }]) (kt := 3) (et := 239) (kd := .i64) (n := (5 : Int)) (v := .agg #[.func (.func 193) #[] #[], .bool false, .func (.func 194) #[] #[]]) (n' := 5) (by kernel_rfl) rfl (.nm (KR Tryz.f171 14 [14,15]) [(2, .map (some B))] [(B, .map #[{ key := IV 1, val := .agg #[.func (.func 185) #[] #[], .bool false, .func (.func 187) #[] #[]], born := 0 }, { key := IV 2, val := .agg #[.func (.func 185) #[] #[], .bool false, .func (.func 188) #[] #[]], born := 1 }, { key := IV 3, val := .agg #[.func (.func 186) #[] #[], .bool true, .func (.func 191) #[] #[]], born := 2 }, { key := IV 4, val := .agg #[.func (.func 185) #[] #[], .bool false, .func (.func 192) #[] #[]], born := 3 }, { key := IV 5, val := .agg #[.func (.func 193) #[] #[], .bool false, .func (.func 194) #[] #[]], born := 4 }] 5)] (.ru 3 (.rt Tryz.func171 H))))))))))))))))
abbrev followsH0 (B : Nat) (c d : Int) (i : BA) (h g j : Int) (f : OA) (e b : Nat) (ba bd : Int) (a : Nat) : SHeap := [(B, .cells #[IV c, IV d, .string i, IV h, IV g, IV j, .slice f e b, IV ba, IV bd] 149), (a, .cells #[.func (.func 186) #[] #[], .bool true, .func (.func 191) #[] #[]] 239)]
abbrev followsH1 (B : Nat) (c d : Int) (i : BA) (h g j : Int) (f : OA) (e b : Nat) (ba bd : Int) (a : Nat) : SHeap := [(B, .cells #[IV c, IV d, .string i, IV h, IV g, IV j, .slice f e b, IV ba, IV bd] 149), (a, .cells #[.func (.func 185) #[] #[], .bool false, .func (.func 187) #[] #[]] 239)]
abbrev followsH2 (B : Nat) (c d : Int) (i : BA) (h g j : Int) (f : OA) (e b : Nat) (ba bd : Int) (a : Nat) : SHeap := [(B, .cells #[IV c, IV d, .string i, IV h, IV g, IV j, .slice f e b, IV ba, IV bd] 149), (a, .cells #[.func (.func 185) #[] #[], .bool false, .func (.func 188) #[] #[]] 239)]
abbrev followsH3 (B : Nat) (c d : Int) (i : BA) (h g j : Int) (f : OA) (e b : Nat) (ba bd : Int) (a : Nat) : SHeap := [(B, .cells #[IV c, IV d, .string i, IV h, IV g, IV j, .slice f e b, IV ba, IV bd] 149), (a, .cells #[.func (.func 185) #[] #[], .bool false, .func (.func 192) #[] #[]] 239)]
abbrev followsH4 (B : Nat) (c d : Int) (i : BA) (h g j : Int) (f : OA) (e b : Nat) (ba bd : Int) (a : Nat) : SHeap := [(B, .cells #[IV c, IV d, .string i, IV h, IV g, IV j, .slice f e b, IV ba, IV bd] 149), (a, .cells #[.func (.func 193) #[] #[], .bool false, .func (.func 194) #[] #[]] 239)]
abbrev followsH5 (B : Nat) (b c : Int) (h : BA) (g f i : Int) (e : OA) (d a : Nat) (ba bd : Int) : SHeap := [(B, .cells #[IV b, IV c, .string h, IV g, IV f, IV i, .slice e d a, IV ba, IV bd] 149)]
theorem follows_vc (e a : Int) (k : BA) (j i h : Int) (g : OA) (f d : Nat) (ba bd : Int) (y : Nat) (hm : Mem [] [] w0 W)
 (H :
 ∀ B : Nat,
 (w0.heap[y]? = some (.map #[{ key := IV 1, val := .agg #[.func (.func 185) #[] #[], .bool false, .func (.func 187) #[] #[]], born := 0 }, { key := IV 2, val := .agg #[.func (.func 185) #[] #[], .bool false, .func (.func 188) #[] #[]], born := 1 }, { key := IV 3, val := .agg #[.func (.func 186) #[] #[], .bool true, .func (.func 191) #[] #[]], born := 2 }, { key := IV 4, val := .agg #[.func (.func 185) #[] #[], .bool false, .func (.func 192) #[] #[]], born := 3 }, { key := IV 5, val := .agg #[.func (.func 193) #[] #[], .bool false, .func (.func 194) #[] #[]], born := 4 }] 5)) ∧
 ((a = 1) →
 ∀ m : Nat,
 Br (e < 1)
 (Fin R (followsH1 B e a k j i h g f d ba bd m) [] w0 (.bool false))
 (Br ((1000 : Int) < e)
 (Fin R (followsH1 B e a k j i h g f d ba bd m) [] w0 (.bool false))
 (CallH TP 101 ⟨[.agg #[IV h, .slice g f d, IV ba, IV bd]]⟩ (followsH1 B e a k j i h g f d ba bd m) [] w0 (fun v L' => ∃ A, v = .bool A ∧ L' = (followsH1 B e a k j i h g f d ba bd m) ∧
 Bb (A)
 (CallH TP 185 ⟨[.string k]⟩ (followsH1 B e a k j i h g f d ba bd m) [] w0 (fun v L' => ∃ D, v = .bool D ∧ L' = (followsH1 B e a k j i h g f d ba bd m) ∧
 Bb (D)
 (Br (j = 0)
 (Fin R (followsH1 B e a k j i h g f d ba bd m) [] w0 (.bool (decide (i = 0))))
 (Fin R (followsH1 B e a k j i h g f d ba bd m) [] w0 (.bool false)))
 (Fin R (followsH1 B e a k j i h g f d ba bd m) [] w0 (.bool false))))
 (Fin R (followsH1 B e a k j i h g f d ba bd m) [] w0 (.bool false)))))) ∧
 ((¬ a = 1) →
 ((a = 2) →
 ∀ o : Nat,
 Br (e < 1)
 (Fin R (followsH2 B e a k j i h g f d ba bd o) [] w0 (.bool false))
 (Br ((1000 : Int) < e)
 (Fin R (followsH2 B e a k j i h g f d ba bd o) [] w0 (.bool false))
 (CallH TP 101 ⟨[.agg #[IV h, .slice g f d, IV ba, IV bd]]⟩ (followsH2 B e a k j i h g f d ba bd o) [] w0 (fun v L' => ∃ E, v = .bool E ∧ L' = (followsH2 B e a k j i h g f d ba bd o) ∧
 Bb (E)
 (CallH TP 185 ⟨[.string k]⟩ (followsH2 B e a k j i h g f d ba bd o) [] w0 (fun v L' => ∃ F, v = .bool F ∧ L' = (followsH2 B e a k j i h g f d ba bd o) ∧
 Bb (F)
 (Br (j = 0)
 (Fin R (followsH2 B e a k j i h g f d ba bd o) [] w0 (.bool (decide (i = 0))))
 (Fin R (followsH2 B e a k j i h g f d ba bd o) [] w0 (.bool false)))
 (Fin R (followsH2 B e a k j i h g f d ba bd o) [] w0 (.bool false))))
 (Fin R (followsH2 B e a k j i h g f d ba bd o) [] w0 (.bool false)))))) ∧
 ((¬ a = 2) →
 ((a = 3) →
 ∀ l : Nat,
 Br (e < 1)
 (Fin R (followsH0 B e a k j i h g f d ba bd l) [] w0 (.bool false))
 (Br ((1000 : Int) < e)
 (Fin R (followsH0 B e a k j i h g f d ba bd l) [] w0 (.bool false))
 (CallH TP 101 ⟨[.agg #[IV h, .slice g f d, IV ba, IV bd]]⟩ (followsH0 B e a k j i h g f d ba bd l) [] w0 (fun v L' => ∃ G, v = .bool G ∧ L' = (followsH0 B e a k j i h g f d ba bd l) ∧
 Bb (G)
 (CallH TP 186 ⟨[.string k]⟩ (followsH0 B e a k j i h g f d ba bd l) [] w0 (fun v L' => ∃ M, v = .bool M ∧ L' = (followsH0 B e a k j i h g f d ba bd l) ∧
 Bb (M)
 (Br ((1 : Int) ≤ j)
 (Br (j ≤ 64)
 (Br ((1 : Int) ≤ i)
 (Fin R (followsH0 B e a k j i h g f d ba bd l) [] w0 (.bool (decide (i ≤ 1000))))
 (Fin R (followsH0 B e a k j i h g f d ba bd l) [] w0 (.bool false)))
 (Fin R (followsH0 B e a k j i h g f d ba bd l) [] w0 (.bool false)))
 (Fin R (followsH0 B e a k j i h g f d ba bd l) [] w0 (.bool false)))
 (Fin R (followsH0 B e a k j i h g f d ba bd l) [] w0 (.bool false))))
 (Fin R (followsH0 B e a k j i h g f d ba bd l) [] w0 (.bool false)))))) ∧
 ((¬ a = 3) →
 ((a = 4) →
 ∀ p : Nat,
 Br (e < 1)
 (Fin R (followsH3 B e a k j i h g f d ba bd p) [] w0 (.bool false))
 (Br ((1000 : Int) < e)
 (Fin R (followsH3 B e a k j i h g f d ba bd p) [] w0 (.bool false))
 (CallH TP 101 ⟨[.agg #[IV h, .slice g f d, IV ba, IV bd]]⟩ (followsH3 B e a k j i h g f d ba bd p) [] w0 (fun v L' => ∃ N, v = .bool N ∧ L' = (followsH3 B e a k j i h g f d ba bd p) ∧
 Bb (N)
 (CallH TP 185 ⟨[.string k]⟩ (followsH3 B e a k j i h g f d ba bd p) [] w0 (fun v L' => ∃ O, v = .bool O ∧ L' = (followsH3 B e a k j i h g f d ba bd p) ∧
 Bb (O)
 (Br (j = 0)
 (Fin R (followsH3 B e a k j i h g f d ba bd p) [] w0 (.bool (decide (i = 0))))
 (Fin R (followsH3 B e a k j i h g f d ba bd p) [] w0 (.bool false)))
 (Fin R (followsH3 B e a k j i h g f d ba bd p) [] w0 (.bool false))))
 (Fin R (followsH3 B e a k j i h g f d ba bd p) [] w0 (.bool false)))))) ∧
 ((¬ a = 4) →
 ((a = 5) →
 ∀ q : Nat,
 Br (e < 1)
 (Fin R (followsH4 B e a k j i h g f d ba bd q) [] w0 (.bool false))
 (Br ((1000 : Int) < e)
 (Fin R (followsH4 B e a k j i h g f d ba bd q) [] w0 (.bool false))
 (CallH TP 101 ⟨[.agg #[IV h, .slice g f d, IV ba, IV bd]]⟩ (followsH4 B e a k j i h g f d ba bd q) [] w0 (fun v L' => ∃ Q, v = .bool Q ∧ L' = (followsH4 B e a k j i h g f d ba bd q) ∧
 Bb (Q)
 (CallH TP 193 ⟨[.string k]⟩ (followsH4 B e a k j i h g f d ba bd q) [] w0 (fun v L' => ∃ C, v = .bool C ∧ L' = (followsH4 B e a k j i h g f d ba bd q) ∧
 Bb (C)
 (Br (j = 0)
 (Fin R (followsH4 B e a k j i h g f d ba bd q) [] w0 (.bool (decide (i = 0))))
 (Fin R (followsH4 B e a k j i h g f d ba bd q) [] w0 (.bool false)))
 (Fin R (followsH4 B e a k j i h g f d ba bd q) [] w0 (.bool false))))
 (Fin R (followsH4 B e a k j i h g f d ba bd q) [] w0 (.bool false)))))) ∧
 ((¬ a = 5) →
 ∀ U : Nat,
 Fin R [(B, .cells #[IV e, IV a, .string k, IV j, IV i, IV h, .slice g f d, IV ba, IV bd] 149), (U, .cells #[.nilFunc, .bool false, .nilFunc] 239)] [] w0 (.bool false))))))) :
 Calls TP 172 ⟨[.agg #[IV e, IV a, .string k, IV j, IV i, IV h, .slice g f d, IV ba, IV bd], .map (some y)]⟩ W R:= by
 refine AtE.cs 69 Tryz.func172 hm (.ru 2 (.nH (.cells #[IV e, IV a, .string k, IV j, IV i, IV h, .slice g f d, IV ba, IV bd] 149) H fun B H => (.ru 6 (.ld 0 1 (.lookW (b := y) (c := 5) (es := #[{ key := IV 1, val := .agg #[.func (.func 185) #[] #[], .bool false, .func (.func 187) #[] #[]], born := 0 }, { key := IV 2, val := .agg #[.func (.func 185) #[] #[], .bool false, .func (.func 188) #[] #[]], born := 1 }, { key := IV 3, val := .agg #[.func (.func 186) #[] #[], .bool true, .func (.func 191) #[] #[]], born := 2 }, { key := IV 4, val := .agg #[.func (.func 185) #[] #[], .bool false, .func (.func 192) #[] #[]], born := 3 }, { key := IV 5, val := .agg #[.func (.func 193) #[] #[], .bool false, .func (.func 194) #[] #[]], born := 4 }]) (kt := 3) (et := 239) (kd := .i64) (n := a) (z := .agg #[.nilFunc, .bool false, .nilFunc]) H.1 List.not_mem_nil (by kernel_rfl) ?_)))))
 replace H := H.2
 refine LookAll.cons (fun s => ?_) (fun s => ?_)
 ·replace H := H.1 s
  refine .nm (KR Tryz.f172 6 [4,5,6,7,8,9]) [(2, PP B), (11, .tuple #[.agg #[.func (.func 185) #[] #[], .bool false, .func (.func 187) #[] #[]], .bool true])] (followsH5 B e a k j i h g f d ba bd) (.ru 3 (.nH (.cells #[.nilFunc, .bool false, .nilFunc] 239) H fun m H => (.st 1 0 (.ru 9 (.ld 0 0 (.ru 3 (.sP 21 H (fun H => ?_) fun H => ?_)))))))
  ·refine .ru 24 (.rt Tryz.func172 H)
  ·refine .ru 1 (.ld 0 0 (.ru 3 (.sP 26 H (fun H => ?_) fun H => ?_)))
   ·refine .ru 19 (.rt Tryz.func172 H)
   ·refine .ru 1 (.ld 0 5 (.nm (KR Tryz.f172 28 [15,16,17,18,19,20,21,22,23,24,25]) [(2, PP B), (5, PP m), (26, .bool false), (28, .agg #[IV h, .slice g f d, IV ba, IV bd])] (followsH1 B e a k j i h g f d ba bd m) (.cl H ?_)))
    rintro _ _ ⟨A, rfl, rfl, H⟩
    refine .sB 29 H (fun H => ?_) fun H => ?_
    ·refine .ru 4 (.ld 1 0 (.ru 1 (.ld 0 2 (.cl H ?_))))
     rintro _ _ ⟨D, rfl, rfl, H⟩
     refine .sB 37 H (fun H => ?_) fun H => ?_
     ·refine .ru 9 (.ld 1 1 (.nm (KR Tryz.f172 60 [2]) [(2, PP B), (41, .bool false)] (followsH1 B e a k j i h g f d ba bd m) (.ru 6 (.ld 0 3 (.ru 2 (.sP 46 H (fun H => ?_) fun H => ?_))))))
      ·refine .ru 1 (.ld 0 4 (.ru 4 (.rt Tryz.func172 H)))
      ·refine .ru 6 (.rt Tryz.func172 H)
     ·refine .ru 8 (.rt Tryz.func172 H)
    ·refine .ru 16 (.rt Tryz.func172 H)
 ·replace H := H.2 s
  refine LookAll.cons (fun x => ?_) (fun x => ?_)
  ·replace H := H.1 x
   refine .nm (KR Tryz.f172 6 [4,5,6,7,8,9]) [(2, PP B), (11, .tuple #[.agg #[.func (.func 185) #[] #[], .bool false, .func (.func 188) #[] #[]], .bool true])] (followsH5 B e a k j i h g f d ba bd) (.ru 3 (.nH (.cells #[.nilFunc, .bool false, .nilFunc] 239) H fun o H => (.st 1 0 (.ru 9 (.ld 0 0 (.ru 3 (.sP 21 H (fun H => ?_) fun H => ?_)))))))
   ·refine .ru 24 (.rt Tryz.func172 H)
   ·refine .ru 1 (.ld 0 0 (.ru 3 (.sP 26 H (fun H => ?_) fun H => ?_)))
    ·refine .ru 19 (.rt Tryz.func172 H)
    ·refine .ru 1 (.ld 0 5 (.nm (KR Tryz.f172 28 [15,16,17,18,19,20,21,22,23,24,25]) [(2, PP B), (5, PP o), (26, .bool false), (28, .agg #[IV h, .slice g f d, IV ba, IV bd])] (followsH2 B e a k j i h g f d ba bd o) (.cl H ?_)))
     rintro _ _ ⟨E, rfl, rfl, H⟩
     refine .sB 29 H (fun H => ?_) fun H => ?_
     ·refine .ru 4 (.ld 1 0 (.ru 1 (.ld 0 2 (.cl H ?_))))
      rintro _ _ ⟨F, rfl, rfl, H⟩
      refine .sB 37 H (fun H => ?_) fun H => ?_
      ·refine .ru 9 (.ld 1 1 (.nm (KR Tryz.f172 60 [2]) [(2, PP B), (41, .bool false)] (followsH2 B e a k j i h g f d ba bd o) (.ru 6 (.ld 0 3 (.ru 2 (.sP 46 H (fun H => ?_) fun H => ?_))))))
       ·refine .ru 1 (.ld 0 4 (.ru 4 (.rt Tryz.func172 H)))
       ·refine .ru 6 (.rt Tryz.func172 H)
      ·refine .ru 8 (.rt Tryz.func172 H)
     ·refine .ru 16 (.rt Tryz.func172 H)
  ·replace H := H.2 x
   refine LookAll.cons (fun t => ?_) (fun t => ?_)
   ·replace H := H.1 t
    refine .nm (KR Tryz.f172 6 [4,5,6,7,8,9]) [(2, PP B), (11, .tuple #[.agg #[.func (.func 186) #[] #[], .bool true, .func (.func 191) #[] #[]], .bool true])] (followsH5 B e a k j i h g f d ba bd) (.ru 3 (.nH (.cells #[.nilFunc, .bool false, .nilFunc] 239) H fun l H => (.st 1 0 (.ru 9 (.ld 0 0 (.ru 3 (.sP 21 H (fun H => ?_) fun H => ?_)))))))
    ·refine .ru 24 (.rt Tryz.func172 H)
    ·refine .ru 1 (.ld 0 0 (.ru 3 (.sP 26 H (fun H => ?_) fun H => ?_)))
     ·refine .ru 19 (.rt Tryz.func172 H)
     ·refine .ru 1 (.ld 0 5 (.nm (KR Tryz.f172 28 [15,16,17,18,19,20,21,22,23,24,25]) [(2, PP B), (5, PP l), (26, .bool false), (28, .agg #[IV h, .slice g f d, IV ba, IV bd])] (followsH0 B e a k j i h g f d ba bd l) (.cl H ?_)))
      rintro _ _ ⟨G, rfl, rfl, H⟩
      refine .sB 29 H (fun H => ?_) fun H => ?_
      ·refine .ru 4 (.ld 1 0 (.ru 1 (.ld 0 2 (.cl H ?_))))
       rintro _ _ ⟨M, rfl, rfl, H⟩
       refine .sB 37 H (fun H => ?_) fun H => ?_
       ·refine .ru 9 (.ld 1 1 (.nm (KR Tryz.f172 60 [2]) [(2, PP B), (41, .bool true)] (followsH0 B e a k j i h g f d ba bd l) (.ru 7 (.ld 0 3 (.ru 2 (.sP 54 H (fun H => ?_) fun H => ?_))))))
        ·refine .ru 1 (.ld 0 3 (.ru 3 (.sP 59 H (fun H => ?_) fun H => ?_)))
         ·refine .ru 1 (.ld 0 4 (.ru 3 (.sP 64 H (fun H => ?_) fun H => ?_)))
          ·refine .ru 1 (.ld 0 4 (.nm (KR Tryz.f172 62 [16,17,18]) [(64, .bool true), (66, IV i)] (followsH0 B e a k j i h g f d ba bd l) (.ru 4 (.rt Tryz.func172 H))))
          ·refine .ru 6 (.rt Tryz.func172 H)
         ·refine .ru 11 (.rt Tryz.func172 H)
        ·refine .ru 16 (.rt Tryz.func172 H)
       ·refine .ru 8 (.rt Tryz.func172 H)
      ·refine .ru 16 (.rt Tryz.func172 H)
   ·replace H := H.2 t
    refine LookAll.cons (fun u => ?_) (fun u => ?_)
    ·replace H := H.1 u
     refine .nm (KR Tryz.f172 6 [4,5,6,7,8,9]) [(2, PP B), (11, .tuple #[.agg #[.func (.func 185) #[] #[], .bool false, .func (.func 192) #[] #[]], .bool true])] (followsH5 B e a k j i h g f d ba bd) (.ru 3 (.nH (.cells #[.nilFunc, .bool false, .nilFunc] 239) H fun p H => (.st 1 0 (.ru 9 (.ld 0 0 (.ru 3 (.sP 21 H (fun H => ?_) fun H => ?_)))))))
     ·refine .ru 24 (.rt Tryz.func172 H)
     ·refine .ru 1 (.ld 0 0 (.ru 3 (.sP 26 H (fun H => ?_) fun H => ?_)))
      ·refine .ru 19 (.rt Tryz.func172 H)
      ·refine .ru 1 (.ld 0 5 (.nm (KR Tryz.f172 28 [15,16,17,18,19,20,21,22,23,24,25]) [(2, PP B), (5, PP p), (26, .bool false), (28, .agg #[IV h, .slice g f d, IV ba, IV bd])] (followsH3 B e a k j i h g f d ba bd p) (.cl H ?_)))
       rintro _ _ ⟨N, rfl, rfl, H⟩
       refine .sB 29 H (fun H => ?_) fun H => ?_
       ·refine .ru 4 (.ld 1 0 (.ru 1 (.ld 0 2 (.cl H ?_))))
        rintro _ _ ⟨O, rfl, rfl, H⟩
        refine .sB 37 H (fun H => ?_) fun H => ?_
        ·refine .ru 9 (.ld 1 1 (.nm (KR Tryz.f172 60 [2]) [(2, PP B), (41, .bool false)] (followsH3 B e a k j i h g f d ba bd p) (.ru 6 (.ld 0 3 (.ru 2 (.sP 46 H (fun H => ?_) fun H => ?_))))))
         ·refine .ru 1 (.ld 0 4 (.ru 4 (.rt Tryz.func172 H)))
         ·refine .ru 6 (.rt Tryz.func172 H)
        ·refine .ru 8 (.rt Tryz.func172 H)
       ·refine .ru 16 (.rt Tryz.func172 H)
    ·replace H := H.2 u
     refine LookAll.cons (fun w => ?_) (fun w => ?_)
     ·replace H := H.1 w
      refine .nm (KR Tryz.f172 6 [4,5,6,7,8,9]) [(2, PP B), (11, .tuple #[.agg #[.func (.func 193) #[] #[], .bool false, .func (.func 194) #[] #[]], .bool true])] (followsH5 B e a k j i h g f d ba bd) (.ru 3 (.nH (.cells #[.nilFunc, .bool false, .nilFunc] 239) H fun q H => (.st 1 0 (.ru 9 (.ld 0 0 (.ru 3 (.sP 21 H (fun H => ?_) fun H => ?_)))))))
      ·refine .ru 24 (.rt Tryz.func172 H)
      ·refine .ru 1 (.ld 0 0 (.ru 3 (.sP 26 H (fun H => ?_) fun H => ?_)))
       ·refine .ru 19 (.rt Tryz.func172 H)
       ·refine .ru 1 (.ld 0 5 (.nm (KR Tryz.f172 28 [15,16,17,18,19,20,21,22,23,24,25]) [(2, PP B), (5, PP q), (26, .bool false), (28, .agg #[IV h, .slice g f d, IV ba, IV bd])] (followsH4 B e a k j i h g f d ba bd q) (.cl H ?_)))
        rintro _ _ ⟨Q, rfl, rfl, H⟩
        refine .sB 29 H (fun H => ?_) fun H => ?_
        ·refine .ru 4 (.ld 1 0 (.ru 1 (.ld 0 2 (.cl H ?_))))
         rintro _ _ ⟨C, rfl, rfl, H⟩
         refine .sB 37 H (fun H => ?_) fun H => ?_
         ·refine .ru 9 (.ld 1 1 (.nm (KR Tryz.f172 60 [2]) [(2, PP B), (41, .bool false)] (followsH4 B e a k j i h g f d ba bd q) (.ru 6 (.ld 0 3 (.ru 2 (.sP 46 H (fun H => ?_) fun H => ?_))))))
          ·refine .ru 1 (.ld 0 4 (.ru 4 (.rt Tryz.func172 H)))
          ·refine .ru 6 (.rt Tryz.func172 H)
         ·refine .ru 8 (.rt Tryz.func172 H)
        ·refine .ru 16 (.rt Tryz.func172 H)
     ·replace H := H.2 w
      refine .nm (KR Tryz.f172 6 [4,5,6,7,8,9]) [(2, PP B), (11, .tuple #[.agg #[.nilFunc, .bool false, .nilFunc], .bool false])] (followsH5 B e a k j i h g f d ba bd) (.ru 3 (.nH (.cells #[.nilFunc, .bool false, .nilFunc] 239) H fun U H => (.st 1 0 (.ru 37 (.rt Tryz.func172 H)))))
noncomputable def validL_c0 (B : Nat) (c : OA) (b a : Nat) (f : OA) (e d : Nat) (g h : Int) : Cut := ⟨TP, [], 141, 38, (KC Tryz.f141 244), [(0, .slice c b a), (3, .map (some B)), (12, .slice f e d), (13, IV g), (14, IV h)], [(B, .map #[{ key := IV 1, val := .agg #[.func (.func 185) #[] #[], .bool false, .func (.func 187) #[] #[]], born := 0 }, { key := IV 2, val := .agg #[.func (.func 185) #[] #[], .bool false, .func (.func 188) #[] #[]], born := 1 }, { key := IV 3, val := .agg #[.func (.func 186) #[] #[], .bool true, .func (.func 191) #[] #[]], born := 2 }, { key := IV 4, val := .agg #[.func (.func 185) #[] #[], .bool false, .func (.func 192) #[] #[]], born := 3 }, { key := IV 5, val := .agg #[.func (.func 193) #[] #[], .bool false, .func (.func 194) #[] #[]], born := 4 }] 5)]⟩
noncomputable def validL_c1 (a b : Nat) (e : OA) (d c : Nat) (t : OA) (s q : Nat) (u w : Int) (z : OA) (y x : Nat) (A C f g : Int) (h : BA) (i j k : Int) (n : OA) (m l : Nat) (o p : Int) : Cut := ⟨TP, [], 141, 38, (KC Tryz.f141 125340), [(0, .slice e d c), (3, .map (some a)), (5, PP b), (12, .slice t s q), (13, IV u), (14, IV w), (25, .slice z y x), (26, IV A), (27, IV C)], [(a, .map #[{ key := IV 1, val := .agg #[.func (.func 185) #[] #[], .bool false, .func (.func 187) #[] #[]], born := 0 }, { key := IV 2, val := .agg #[.func (.func 185) #[] #[], .bool false, .func (.func 188) #[] #[]], born := 1 }, { key := IV 3, val := .agg #[.func (.func 186) #[] #[], .bool true, .func (.func 191) #[] #[]], born := 2 }, { key := IV 4, val := .agg #[.func (.func 185) #[] #[], .bool false, .func (.func 192) #[] #[]], born := 3 }, { key := IV 5, val := .agg #[.func (.func 193) #[] #[], .bool false, .func (.func 194) #[] #[]], born := 4 }] 5), (b, .cells #[IV f, IV g, .string h, IV i, IV j, IV k, .slice n m l, IV o, IV p] 149)]⟩
theorem validL_c0_vc (B : Nat) (d : OA) (s c : Nat) (z : OA) (u t : Nat) (w a : Int) (H : VP [] w0 R (.P 5 15 (a < w) (.r 7 <| .x2 fun p b => .sp z p b [12] <| .iL p b u t 9 a (b + ((Int.toNat a) * 9)) <| .x5 fun A e f g h => .x5 fun i j m l k => .x2 fun n o => .lWa p (b + ((Int.toNat a) * 9)) 9 149 A [IV e, IV f, .string g, IV h, IV i, IV j, .slice m l k, IV n, IV o] <| .np 0 (.cells #[IV 0, IV 0, sZ, IV 0, IV 0, IV 0, .slice none 0 0, IV 0, IV 0] 149) fun x => .hp [(B, .map #[{ key := IV 1, val := .agg #[.func (.func 185) #[] #[], .bool false, .func (.func 187) #[] #[]], born := 0 }, { key := IV 2, val := .agg #[.func (.func 185) #[] #[], .bool false, .func (.func 188) #[] #[]], born := 1 }, { key := IV 3, val := .agg #[.func (.func 186) #[] #[], .bool true, .func (.func 191) #[] #[]], born := 2 }, { key := IV 4, val := .agg #[.func (.func 185) #[] #[], .bool false, .func (.func 192) #[] #[]], born := 3 }, { key := IV 5, val := .agg #[.func (.func 193) #[] #[], .bool false, .func (.func 194) #[] #[]], born := 4 }] 5), (x, .cells #[IV e, IV f, .string g, IV h, IV i, IV j, .slice m l k, IV n, IV o] 149)] fun q => .ru [1,201,4,201] <| .cl 1 172 [.agg #[IV e, IV f, .string g, IV h, IV i, IV j, .slice m l k, IV n, IV o], .map (some B)] q <| .ex fun y => .rt (.bool y) q <| .B 0 21 y (.r 8 <| .sU d s c 9 none (some (IV a)) a (Int.toNat a) <| .ct 5 [0,1] (validL_c1 B x d s c (some ⟨p, b, none⟩) u t w a d (Int.toNat a) c ((Int.toNat a) : Int) 0 e f g h i j m l k n o)) <| .re 7 (.bool false) q) <| .re 6 (.bool true) [(B, .map #[{ key := IV 1, val := .agg #[.func (.func 185) #[] #[], .bool false, .func (.func 187) #[] #[]], born := 0 }, { key := IV 2, val := .agg #[.func (.func 185) #[] #[], .bool false, .func (.func 188) #[] #[]], born := 1 }, { key := IV 3, val := .agg #[.func (.func 186) #[] #[], .bool true, .func (.func 191) #[] #[]], born := 2 }, { key := IV 4, val := .agg #[.func (.func 185) #[] #[], .bool false, .func (.func 192) #[] #[]], born := 3 }, { key := IV 5, val := .agg #[.func (.func 193) #[] #[], .bool false, .func (.func 194) #[] #[]], born := 4 }] 5)])) : validL_c0 B d s c z u t w a w0 R := VC.go Tryz.func141 _ H
theorem validL_c1_vc (c f : Nat) (i : OA) (h g : Nat) (y : OA) (x w : Nat) (z A : Int) (Z : OA) (D C : Nat) (E a d j : Int) (k : BA) (l m n : Int) (q : OA) (p o : Nat) (s t : Int) (H : VP [] w0 R (.P 5 28 (a < E) (.r 6 <| .x2 fun e b => .sp Z e b [25] <| .iL e b D C 9 a (b + ((Int.toNat a) * 9)) <| .x5 fun a1 u F G M => .x5 fun N O V U Q => .x2 fun X Y => .lWa e (b + ((Int.toNat a) * 9)) 9 149 a1 [IV u, IV F, .string G, IV M, IV N, IV O, .slice V U Q, IV X, IV Y] <| .np 0 (.cells #[IV 0, IV 0, sZ, IV 0, IV 0, IV 0, .slice none 0 0, IV 0, IV 0] 149) fun a0 => .ru [202,4,202,1,201] <| .P 2 35 (u = d) (.re 5 (.bool false) [(c, .map #[{ key := IV 1, val := .agg #[.func (.func 185) #[] #[], .bool false, .func (.func 187) #[] #[]], born := 0 }, { key := IV 2, val := .agg #[.func (.func 185) #[] #[], .bool false, .func (.func 188) #[] #[]], born := 1 }, { key := IV 3, val := .agg #[.func (.func 186) #[] #[], .bool true, .func (.func 191) #[] #[]], born := 2 }, { key := IV 4, val := .agg #[.func (.func 185) #[] #[], .bool false, .func (.func 192) #[] #[]], born := 3 }, { key := IV 5, val := .agg #[.func (.func 193) #[] #[], .bool false, .func (.func 194) #[] #[]], born := 4 }] 5), (f, .cells #[IV d, IV j, .string k, IV l, IV m, IV n, .slice q p o, IV s, IV t] 149), (a0, .cells #[IV u, IV F, .string G, IV M, IV N, IV O, .slice V U Q, IV X, IV Y] 149)]) <| .ct 8 [0,1] (validL_c1 c f i h g y x w z A (some ⟨e, b, none⟩) D C E (IntKind.i64.wrap (a + 1)) d j k l m n q p o s t)) <| .ct 8 [0] (validL_c0 c i h g y x w z (IntKind.i64.wrap (A + 1))))) : validL_c1 c f i h g y x w z A Z D C E a d j k l m n q p o s t w0 R := VC.go Tryz.func141 _ H
theorem validL_vc (c : OA) (a b : Nat) (hm : Mem [] [] w0 W) (H : VP [] w0 R (.P 11 10 (24 < (a : Int)) (.re 5 (.bool false) []) <| .cl 4 171 [] [] <| .ex fun (d : Nat) => .rt (.map (some d)) [(d, .map #[{ key := IV 1, val := .agg #[.func (.func 185) #[] #[], .bool false, .func (.func 187) #[] #[]], born := 0 }, { key := IV 2, val := .agg #[.func (.func 185) #[] #[], .bool false, .func (.func 188) #[] #[]], born := 1 }, { key := IV 3, val := .agg #[.func (.func 186) #[] #[], .bool true, .func (.func 191) #[] #[]], born := 2 }, { key := IV 4, val := .agg #[.func (.func 185) #[] #[], .bool false, .func (.func 192) #[] #[]], born := 3 }, { key := IV 5, val := .agg #[.func (.func 193) #[] #[], .bool false, .func (.func 194) #[] #[]], born := 4 }] 5)] <| .ct 11 [0] (validL_c0 d c a b c a b (a : Int) 0))) : Calls TP 141 ⟨[.slice c a b]⟩ W R := VC.cs Tryz.func141 hm _ H
abbrev rulesObj : Obj := .map #[{ key := .int .i64 (1 : Int), val := .agg #[.func (.func 185) #[] #[], .bool false, .func (.func 187) #[] #[]], born := 0 }, { key := .int .i64 (2 : Int), val := .agg #[.func (.func 185) #[] #[], .bool false, .func (.func 188) #[] #[]], born := 1 }, { key := .int .i64 (3 : Int), val := .agg #[.func (.func 186) #[] #[], .bool true, .func (.func 191) #[] #[]], born := 2 }, { key := .int .i64 (4 : Int), val := .agg #[.func (.func 185) #[] #[], .bool false, .func (.func 192) #[] #[]], born := 3 }, { key := .int .i64 (5 : Int), val := .agg #[.func (.func 193) #[] #[], .bool false, .func (.func 194) #[] #[]], born := 4 }] 5
theorem rules_e : EffC TP 171 ⟨[]⟩ [] (fun v L' => ∃ M : Nat, v = .map (some M) ∧ L' = [(M, rulesObj)]) := by
 intro W hm
 exact rules_vc (Mem.start [] W) fun B V O => ⟨_, _, rfl, O, B, rfl, rfl⟩
theorem CallH.rules {L : SHeap} (O : ∀ M : Nat, K (.map (some M)) (L ++ [(M, rulesObj)])) : CallH TP 171 ⟨[]⟩ L S w0 K :=
 CallH.eff (L1 := L) rules_e (List.Perm.refl _) fun v L' ⟨M, hv, hl⟩ => ⟨L ++ [(M, rulesObj)], by rw [hl]; exact List.perm_append_comm, by rw [hv]; exact O M⟩
theorem ok_id {b : Blk} (h : ¬ (1 ≤ b.id ∧ b.id ≤ 1000)) : (Value.bool false) = .bool b.ok := by rw [Blk.ok, decide_eq_false h, Bool.false_and]
theorem ok_lab {b : Blk} (h : b.lab.ok = false) : (Value.bool false) = .bool b.ok := by rw [Blk.ok, h, Bool.false_and, Bool.and_false]
theorem ok_kind {b : Blk} (h : b.kindOk = false) : (Value.bool false) = .bool b.ok := by rw [Blk.ok, h, Bool.and_false, Bool.and_false]
theorem ok_yes {b : Blk} {v : Bool} (h : 1 ≤ b.id ∧ b.id ≤ 1000) (O : b.lab.ok = true) (M : v = b.kindOk) : (Value.bool v) = .bool b.ok := by rw [Blk.ok, decide_eq_true h, O, M, Bool.true_and, Bool.true_and]
theorem kind1 {b : Blk} (k : b.kind = 1) : b.kindOk = (fillOk b.text && b.noRef) := by rw [Blk.kindOk, if_pos k]
theorem kind2 {b : Blk} (k : b.kind = 2) : b.kindOk = (fillOk b.text && b.noRef) := by rw [Blk.kindOk, if_neg (by omega), if_pos k]
theorem kind3 {b : Blk} (k : b.kind = 3) : b.kindOk = (txtOk b.text && decide (1 ≤ b.story ∧ b.story ≤ 64 ∧ 1 ≤ b.ref ∧ b.ref ≤ 1000)) := by rw [Blk.kindOk, if_neg (by omega), if_neg (by omega), if_pos k]
theorem kind4 {b : Blk} (k : b.kind = 4) : b.kindOk = (fillOk b.text && b.noRef) := by rw [Blk.kindOk, if_neg (by omega), if_neg (by omega), if_neg (by omega), if_pos k]
theorem kind5 {b : Blk} (k : b.kind = 5) : b.kindOk = (nameOk b.text && b.noRef) := by rw [Blk.kindOk, if_neg (by omega), if_neg (by omega), if_neg (by omega), if_neg (by omega), if_pos k]
theorem kind0 {b : Blk} (k1 : ¬ b.kind = 1) (M : ¬ b.kind = 2) (O : ¬ b.kind = 3) (V : ¬ b.kind = 4) (Z : ¬ b.kind = 5) : b.kindOk = false := by rw [Blk.kindOk, if_neg k1, if_neg M, if_neg O, if_neg V, if_neg Z]
theorem noRef_of {b : Blk} (h : b.story = 0) : decide (b.ref = 0) = b.noRef := by simp [Blk.noRef, h]
theorem noRef_no {b : Blk} (h : ¬ b.story = 0) : b.noRef = false := by simp [Blk.noRef, h]
theorem quote_of {b : Blk} (h : 1 ≤ b.story) (M : b.story ≤ 64) (O : 1 ≤ b.ref) : decide (b.ref ≤ 1000) = decide (1 ≤ b.story ∧ b.story ≤ 64 ∧ 1 ≤ b.ref ∧ b.ref ≤ 1000) := by simp only [decide_eq_decide]; omega
theorem follows_c {p : OA} {c a9 : Nat} {b : Blk} (h : IntsL (lkW W) p b.lab.after) (a1 : b.Fits) (b4 : W.heap[a9]? = some rulesObj) :
  PW TP 172 ⟨[.agg ⟨b.cells p c⟩, .map (some a9)]⟩ W (.bool b.ok) := by
 refine follows_vc b.id b.kind b.text b.story b.ref b.lab.unt p b.lab.after.length c b.lab.appr b.lab.den a9 (Mem.start [] W) fun B => ⟨b4, ?_⟩
 have a2 : ∀ L a7, Mem L [] W a7 → PW TP 101 ⟨[.agg ⟨b.lab.cells p c⟩]⟩ a7 (.bool b.lab.ok) := fun L a7 b3 => labValid_c (h.mono (lkW_kept b3)) a1.2
 refine ⟨fun k1 b5 => ?_, fun k1 => ⟨fun a3 B2 => ?_, fun a3 => ⟨fun a4 B3 => ?_, fun a4 => ⟨fun a5 b6 => ?_, fun a5 => ⟨fun a6 b7 => ?_, fun a6 B6 => finPW (ok_kind (kind0 k1 a3 a4 a5 a6))⟩⟩⟩⟩⟩
 ·refine ⟨fun Z => finPW (ok_id (by omega)), fun Z => ⟨fun a0 => finPW (ok_id (by omega)), fun a0 => CallH.pw (a2 _) ⟨_, rfl, rfl, fun M => CallH.pure (rul1_c b.text a1.1) ⟨_, rfl, rfl, fun O => ⟨fun V => finPW (ok_yes ⟨by omega, by omega⟩ M ?_), fun V => finPW (ok_kind ?_)⟩, fun O => finPW (ok_kind ?_)⟩, fun M => finPW (ok_lab M)⟩⟩⟩
  ·rw [kind1 k1, O, Bool.true_and, noRef_of V]
  ·rw [kind1 k1, noRef_no V, Bool.and_false]
  ·rw [kind1 k1, O, Bool.false_and]
 ·refine ⟨fun Z => finPW (ok_id (by omega)), fun Z => ⟨fun a0 => finPW (ok_id (by omega)), fun a0 => CallH.pw (a2 _) ⟨_, rfl, rfl, fun M => CallH.pure (rul1_c b.text a1.1) ⟨_, rfl, rfl, fun O => ⟨fun V => finPW (ok_yes ⟨by omega, by omega⟩ M ?_), fun V => finPW (ok_kind ?_)⟩, fun O => finPW (ok_kind ?_)⟩, fun M => finPW (ok_lab M)⟩⟩⟩
  ·rw [kind2 a3, O, Bool.true_and, noRef_of V]
  ·rw [kind2 a3, noRef_no V, Bool.and_false]
  ·rw [kind2 a3, O, Bool.false_and]
 ·have a8 : ¬ (1 ≤ b.story ∧ b.story ≤ 64 ∧ 1 ≤ b.ref ∧ b.ref ≤ 1000) → (Value.bool false) = .bool b.ok := fun hn => ok_kind (by rw [kind3 a4, decide_eq_false hn, Bool.and_false])
  refine ⟨fun Z => finPW (ok_id (by omega)), fun Z => ⟨fun a0 => finPW (ok_id (by omega)), fun a0 => CallH.pw (a2 _) ⟨_, rfl, rfl, fun M => CallH.pure (isText_c b.text a1.1) ⟨_, rfl, rfl, fun O => ?_, fun O => finPW (ok_kind ?_)⟩, fun M => finPW (ok_lab M)⟩⟩⟩
  ·refine ⟨fun V => ⟨fun b0 => ⟨fun b1 => finPW (ok_yes ⟨by omega, by omega⟩ M ?_), fun b1 => finPW (a8 (by omega))⟩, fun b0 => finPW (a8 (by omega))⟩, fun V => finPW (a8 (by omega))⟩
   rw [kind3 a4, O, Bool.true_and, quote_of V b0 b1]
  ·rw [kind3 a4, O, Bool.false_and]
 ·refine ⟨fun Z => finPW (ok_id (by omega)), fun Z => ⟨fun a0 => finPW (ok_id (by omega)), fun a0 => CallH.pw (a2 _) ⟨_, rfl, rfl, fun M => CallH.pure (rul1_c b.text a1.1) ⟨_, rfl, rfl, fun O => ⟨fun V => finPW (ok_yes ⟨by omega, by omega⟩ M ?_), fun V => finPW (ok_kind ?_)⟩, fun O => finPW (ok_kind ?_)⟩, fun M => finPW (ok_lab M)⟩⟩⟩
  ·rw [kind4 a5, O, Bool.true_and, noRef_of V]
  ·rw [kind4 a5, noRef_no V, Bool.and_false]
  ·rw [kind4 a5, O, Bool.false_and]
 ·refine ⟨fun Z => finPW (ok_id (by omega)), fun Z => ⟨fun a0 => finPW (ok_id (by omega)), fun a0 => CallH.pw (a2 _) ⟨_, rfl, rfl, fun M => CallH.pure (isName_c b.text a1.1) ⟨_, rfl, rfl, fun O => ⟨fun V => finPW (ok_yes ⟨by omega, by omega⟩ M ?_), fun V => finPW (ok_kind ?_)⟩, fun O => finPW (ok_kind ?_)⟩, fun M => finPW (ok_lab M)⟩⟩⟩
  ·rw [kind5 a6, O, Bool.true_and, noRef_of V]
  ·rw [kind5 a6, noRef_no V, Bool.and_false]
  ·rw [kind5 a6, O, Bool.false_and]
def dupGo (l : List Blk) (b : Blk) (k : Nat) : Bool := (l.drop k).all fun e => decide (e.id ≠ b.id)
theorem dup_step {l : List Blk} {b : Blk} {k : Nat} (h : k < l.length) : dupGo l b k = (decide (l[k].id ≠ b.id) && dupGo l b (k + 1)) := by
 unfold dupGo
 rw [List.drop_eq_getElem_cons h, List.all_cons]
theorem dup_end {l : List Blk} {b : Blk} {k : Nat} (h : l.length ≤ k) : dupGo l b k = true := by
 unfold dupGo; rw [List.drop_of_length_le h]; rfl
def okGo (l : List Blk) (i : Nat) : Bool := listGo (l.take i) (l.drop i)
theorem okGo_step {l : List Blk} {i : Nat} (h : i < l.length) : okGo l i = (l[i].ok && (dupGo (l.take i) l[i] 0 && okGo l (i + 1))) := by
 unfold okGo dupGo
 rw [List.drop_eq_getElem_cons h, listGo, List.drop_zero]
 congr 2
 rw [List.take_add_one, List.getElem?_eq_getElem h]; rfl
theorem okGo_end {l : List Blk} {i : Nat} (h : l.length ≤ i) : okGo l i = true := by
 unfold okGo; rw [List.drop_of_length_le h]; rfl
theorem validL_loop {w0 : World} {p : OA} {c a2 : Nat} {R : Ending → World → Prop} {l : List Blk} (a0 : BlksL (lkW w0) p l) (hn : l.length ≤ 24) (b7 : l.length ≤ c) (V : ∀ L v, Fin R [] [] w0 v → Fin R L [] w0 v) :
  ∀ (g i : Nat), g + i = l.length → Fin R [] [] w0 (.bool (okGo l i)) → validL_c0 a2 p l.length c p l.length c (l.length : Int) (i : Int) w0 R
 | 0, i, hg, H => by
  apply validL_c0_vc
  refine no (by omega) (V _ _ (finEq H ?_))
  rw [okGo_end (by omega)]
 | g + 1, i, hg, H => by
  apply validL_c0_vc
  have hi : i < l.length := by omega
  obtain ⟨M, o1, c1, rfl, a8, a9, a5, a3, b0, b1, b3⟩ := a0.get hi
  rw [okGo_step hi] at H
  refine yes (by omega) ⟨M, o1, rfl, by omega, c1, l[i].id, l[i].kind, l[i].text, l[i].story, l[i].ref, l[i].lab.unt, a5, l[i].lab.after.length, a3, l[i].lab.appr, l[i].lab.den, a8, ⟨by simpa using b0, by simpa using a9⟩, fun B2 => ?_⟩
  refine CallH.pw (fun c8 a4 => follows_c (b1.mono (lkW_kept a4)) b3 (a4.here (a2, rulesObj) (by simp))) ⟨_, rfl, rfl, fun a1 => ⟨by omega, ?_⟩, fun a1 => V _ _ (finEq H ?_)⟩
  ·rw [a1, Bool.true_and] at H
   rw [Int.toNat_natCast]
   have c5 : ∀ (q k : Nat), q + k = i → Fin R [] [] w0 (.bool (dupGo (l.take i) l[i] k && okGo l (i + 1))) →
     validL_c1 a2 B2 (some ⟨M, o1, none⟩) l.length c (some ⟨M, o1, none⟩) l.length c (l.length : Int) (i : Int) (some ⟨M, o1, none⟩) i c (i : Int) (k : Int) l[i].id l[i].kind l[i].text l[i].story l[i].ref l[i].lab.unt a5 l[i].lab.after.length a3 l[i].lab.appr l[i].lab.den w0 R := by
    intro q
    induction q with
    | zero =>
     intro k c2 O
     apply validL_c1_vc
     refine no (by omega) ?_
     rw [wi64 (by omega), show (i : Int) + 1 = ((i + 1 : Nat) : Int) by omega]
     refine validL_loop a0 hn b7 V g (i + 1) (by omega) (finEq O ?_)
     rw [dup_end (by rw [List.length_take]; omega), Bool.true_and]
    | succ q ih =>
     intro k c2 O
     apply validL_c1_vc
     have c3 : k < l.length := by omega
     have c4 : k < (l.take i).length := by rw [List.length_take]; omega
     obtain ⟨B3, d1, a6, b8, b4, b5, c6, a7, b6, c9, d0⟩ := a0.get c3
     cases b8
     have b9 : (l.take i)[k] = l[k] := List.getElem_take
     rw [dup_step c4, b9] at O
     refine yes (by omega) ⟨M, o1, rfl, by omega, a6, l[k].id, l[k].kind, l[k].text, l[k].story, l[k].ref, l[k].lab.unt, c6, l[k].lab.after.length, a7, l[k].lab.appr, l[k].lab.den, b4, ⟨by simpa using b6, by simpa using b5⟩, fun c7 => ⟨fun Z => V _ _ (finEq O ?_), fun Z => ?_⟩⟩
     ·rw [decide_eq_false (show ¬ l[k].id ≠ l[i].id from fun h => h Z), Bool.false_and, Bool.false_and]
     ·rw [wi64 (by omega), show (k : Int) + 1 = ((k + 1 : Nat) : Int) by omega]
      refine ih (k + 1) (by omega) (finEq O ?_)
      rw [decide_eq_true (show l[k].id ≠ l[i].id from Z), Bool.true_and]
   exact c5 i 0 (by omega) H
  ·rw [a1, Bool.false_and]
theorem validL_c {p : OA} {c : Nat} {l : List Blk} (O : BlksL (lkW W) p l) (M : l.length ≤ c) : PW TP 141 ⟨[.slice p l.length c]⟩ W (.bool (listOk l)) := by
 refine validL_vc p l.length c (Mem.start [] W) ⟨fun h => finPW ?_, fun h => CallH.rules fun V => ⟨V, rfl, rfl, validL_loop O (by omega) M pwLoose l.length 0 (by omega) (finPW ?_)⟩⟩
 ·rw [listOk, decide_eq_false (by omega), Bool.false_and]
 ·rw [listOk, decide_eq_true (by omega), Bool.true_and]; rfl
theorem same_vc (e f : Int) (k : BA) (j i l : Int) (h : OA) (g c : Nat) (b d p q : Int) (x : BA) (w u y : Int) (t : OA) (s n : Nat) (m o : Int) (hm : Mem [] [] w0 W) (H : VP [] w0 R (.np 2 (.cells #[IV e, IV f, .string k, IV j, IV i, IV l, .slice h g c, IV b, IV d] 149) fun B => .np 0 (.cells #[IV p, IV q, .string x, IV w, IV u, IV y, .slice t s n, IV m, IV o] 149) fun A => .hp [(B, .cells #[IV e, IV f, .string k, IV j, IV i, IV l, .slice h g c, IV b, IV d] 149), (A, .cells #[IV p, IV q, .string x, IV w, IV u, IV y, .slice t s n, IV m, IV o] 149)] fun a => .ru [5,200,1,201] <| .P 2 10 (e = p) (.ru [1,200,1,201] <| .P 3 17 (f = q) (.ru [1,200,1,201] <| .sE 3 24 k x (.ru [1,200,1,201] <| .P 3 31 (j = w) (.ru [1,200,1,201] <| .P 3 38 (i = u) (.ru [1,200,1,201] <| .cl 0 108 [.agg #[IV l, .slice h g c, IV b, IV d], .agg #[IV y, .slice t s n, IV m, IV o]] a <| .ex fun z => .rt (.bool z) a <| .re 3 (.bool z) a) <| .re 8 (.bool false) a) <| .re 15 (.bool false) a) <| .re 22 (.bool false) a) <| .re 29 (.bool false) a) <| .re 36 (.bool false) a)) : Calls TP 148 ⟨[.agg #[IV e, IV f, .string k, IV j, IV i, IV l, .slice h g c, IV b, IV d], .agg #[IV p, IV q, .string x, IV w, IV u, IV y, .slice t s n, IV m, IV o]]⟩ W R := VC.cs Tryz.func148 hm _ H
noncomputable def eqBlks_c0 (c : OA) (b a : Nat) (f : OA) (e d : Nat) (g h : Int) : Cut := ⟨TP, [], 147, 32, (KC Tryz.f147 116), [(1, .slice c b a), (2, .func (.func 148) #[] #[]), (15, .slice f e d), (16, IV g), (17, IV h)], []⟩
theorem eqBlks_c0_vc (U : OA) (G F : Nat) (V : OA) (N M : Nat) (O a : Int) (H : VP [] w0 R (.P 5 18 (a < O) (.r 7 <| .x2 fun e c => .sp V e c [15] <| .iL e c N M 9 a (c + ((Int.toNat a) * 9)) <| .x5 fun Y s t u w => .x5 fun x y C A z => .x2 fun D E => .lWa e (c + ((Int.toNat a) * 9)) 9 149 Y [IV s, IV t, .string u, IV w, IV x, IV y, .slice C A z, IV D, IV E] <| .np 0 (.cells #[IV 0, IV 0, sZ, IV 0, IV 0, IV 0, .slice none 0 0, IV 0, IV 0] 149) fun B => .ru [1,200] <| .r 5 <| .x2 fun d b => .sp U d b [1,22] <| .iL d b G F 9 a (b + ((Int.toNat a) * 9)) <| .x5 fun Z g h i j => .x5 fun k l o n m => .x2 fun p q => .lWa d (b + ((Int.toNat a) * 9)) 9 149 Z [IV g, IV h, .string i, IV j, IV k, IV l, .slice o n m, IV p, IV q] <| .np 0 (.cells #[IV 0, IV 0, sZ, IV 0, IV 0, IV 0, .slice none 0 0, IV 0, IV 0] 149) fun X => .hp [(B, .cells #[IV s, IV t, .string u, IV w, IV x, IV y, .slice C A z, IV D, IV E] 149), (X, .cells #[IV g, IV h, .string i, IV j, IV k, IV l, .slice o n m, IV p, IV q] 149)] fun f => .ru [201,4,200,201] <| .cl 0 148 [.agg #[IV s, IV t, .string u, IV w, IV x, IV y, .slice C A z, IV D, IV E], .agg #[IV g, IV h, .string i, IV j, IV k, IV l, .slice o n m, IV p, IV q]] f <| .ex fun Q => .rt (.bool Q) f <| .B 0 29 Q (.ct 10 [] (eqBlks_c0 (some ⟨d, b, none⟩) G F (some ⟨e, c, none⟩) N M O (IntKind.i64.wrap (a + 1)))) <| .re 7 (.bool false) f) <| .re 6 (.bool true) [])) : eqBlks_c0 U G F V N M O a w0 R := VC.go Tryz.func147 _ H
theorem eqBlks_vc (d : OA) (a c : Nat) (f : OA) (b e : Nat) (hm : Mem [] [] w0 W) (H : VP [] w0 R (.I 13 14 ((a : Int) = (b : Int)) (.re 5 (.bool false) []) <| .ct 11 [] (eqBlks_c0 f b e d a c (a : Int) 0))) : Calls TP 147 ⟨[.slice d a c, .slice f b e, .func (.func 148) #[] #[]]⟩ W R := VC.cs Tryz.func147 hm _ H
theorem sameL_vc (c : OA) (b a : Nat) (f : OA) (e d : Nat) (hm : Mem [] [] w0 W) (H : VP [] w0 R (.cl 8 147 [.slice c b a, .slice f e d, .func (.func 148) #[] #[]] [] <| .ex fun g => .rt (.bool g) [] <| .re 2 (.bool g) [])) : Calls TP 107 ⟨[.slice c b a, .slice f e d]⟩ W R := VC.cs Tryz.func107 hm _ H
theorem QCall.pw {L : SHeap} {v : Value} (h : ∀ W, Mem L S w0 W → PW P g args W v) : QCall P g args L S w0 v :=
 fun W hm => (h W hm).mono fun _ _ M => ⟨M.1, hm.after M.2⟩
theorem QCallB.pw {L : SHeap} {v : Value} (h : ∀ W, Mem L S w0 W → PW P g args W v) : QCallB P g args L S w0 v := h
theorem Blk.ext' {x y : Blk} : x = y ↔ x.id = y.id ∧ x.kind = y.kind ∧ x.text = y.text ∧ x.story = y.story ∧ x.ref = y.ref ∧ x.lab = y.lab := by
 cases x; cases y; simp
theorem Blk.ne {x y : Blk} (h : ¬ (x.id = y.id ∧ x.kind = y.kind ∧ x.text = y.text ∧ x.story = y.story ∧ x.ref = y.ref ∧ x.lab = y.lab)) : (Value.bool false) = .bool (decide (x = y)) := by
 rw [decide_eq_false (fun e => h (Blk.ext'.1 e))]
theorem Blk.eqLab {x y : Blk} (M : x.id = y.id) (O : x.kind = y.kind) (V : x.text = y.text) (Z : x.story = y.story) (a0 : x.ref = y.ref) : decide (x.lab = y.lab) = decide (x = y) := by
 simp only [Blk.ext', M, O, V, Z, a0, true_and]
theorem same_c {p q : OA} {c d : Nat} {x y : Blk} (a3 : IntsL (lkW W) p x.lab.after) (a4 : IntsL (lkW W) q y.lab.after) (a2 : x.Fits) :
  PW TP 148 ⟨[.agg ⟨x.cells p c⟩, .agg ⟨y.cells q d⟩]⟩ W (.bool (decide (x = y))) := by
 refine same_vc x.id x.kind x.text x.story x.ref x.lab.unt p x.lab.after.length c x.lab.appr x.lab.den y.id y.kind y.text y.story y.ref y.lab.unt q y.lab.after.length d y.lab.appr y.lab.den (Mem.start [] W) fun B a5 => ?_
 refine ⟨fun M => ⟨fun O => ⟨fun V => ⟨fun Z => ⟨fun a0 => ?_, fun a0 => finPW (Blk.ne fun h => a0 h.2.2.2.2.1)⟩, fun Z => finPW (Blk.ne fun h => Z h.2.2.2.1)⟩, fun V => finPW (Blk.ne fun h => V h.2.2.1)⟩, fun O => finPW (Blk.ne fun h => O h.2.1)⟩, fun M => finPW (Blk.ne fun h => M h.1)⟩
 exact CallH.pw (fun a6 a1 => labSame_c (a3.mono (lkW_kept a1)) (a4.mono (lkW_kept a1)) a2.2) ⟨_, rfl, rfl, finPW (by rw [Blk.eqLab M O V Z a0])⟩
theorem eqBlks_loop {w0 : World} {p q : OA} {a6 a7 : Nat} {R : Ending → World → Prop} {a b : List Blk} (Z : BlksL (lkW w0) p a) (a0 : BlksL (lkW w0) q b) (b8 : a.length = b.length) (hm : a.length ≤ 9223372036854775807) (M : ∀ L v, Fin R [] [] w0 v → Fin R L [] w0 v) :
  ∀ (g i : Nat), g + i = a.length → Fin R [] [] w0 (.bool (decide (a.drop i = b.drop i))) → eqBlks_c0 q b.length a7 p a.length a6 (a.length : Int) (i : Int) w0 R
 | 0, i, hg, H => by
  apply eqBlks_c0_vc
  refine no (by omega) (finEq H ?_)
  rw [List.drop_of_length_le (by omega), List.drop_of_length_le (by omega)]
  simp
 | g + 1, i, hg, H => by
  apply eqBlks_c0_vc
  have O : i < a.length := by omega
  have V : i < b.length := by omega
  obtain ⟨a2, o1, c1, rfl, a8, a9, c2, a4, b0, b1, b3⟩ := Z.get O
  obtain ⟨B2, b9, a3, rfl, b4, b5, c3, a5, b6, b7, c6⟩ := a0.get V
  simp only [drop_eq O V] at H
  refine yes (by omega) ⟨a2, o1, rfl, by omega, c1, a[i].id, a[i].kind, a[i].text, a[i].story, a[i].ref, a[i].lab.unt, c2, a[i].lab.after.length, a4, a[i].lab.appr, a[i].lab.den, a8, ⟨by simpa using b0, by simpa using a9⟩, fun B3 =>
   ⟨B2, b9, rfl, by omega, a3, b[i].id, b[i].kind, b[i].text, b[i].story, b[i].ref, b[i].lab.unt, c3, b[i].lab.after.length, a5, b[i].lab.appr, b[i].lab.den, b4, ⟨by simpa using b6, by simpa using b5⟩, fun c4 => ?_⟩⟩
  refine CallH.pw (fun c5 a1 => same_c (b1.mono (lkW_kept a1)) (b7.mono (lkW_kept a1)) b3) ⟨_, rfl, rfl, fun h => ?_, fun h => M _ _ (finEq H ?_)⟩
  ·have h := of_decide_eq_true h
   rw [wi64 (by omega), show (i : Int) + 1 = ((i + 1 : Nat) : Int) by omega]
   refine eqBlks_loop Z a0 b8 hm M g (i + 1) (by omega) (finEq H ?_)
   simp [h]
  ·have h := of_decide_eq_false h
   simp [h]
theorem sameL_c {p q : OA} {M O : Nat} {a b : List Blk} (V : BlksL (lkW W) p a) (Z : BlksL (lkW W) q b) (hm : a.length ≤ 9223372036854775807) :
  PW TP 107 ⟨[.slice p a.length M, .slice q b.length O]⟩ W (.bool (decide (a = b))) := by
 refine sameL_vc p a.length M q b.length O (Mem.start [] W) (CallH.pw (v := .bool (decide (a = b))) (fun a1 a0 => ?_) ⟨_, rfl, rfl, finPW rfl⟩)
 have V := V.mono (lkW_kept a0)
 have Z := Z.mono (lkW_kept a0)
 refine eqBlks_vc p a.length M q b.length O (Mem.start [] a1) ⟨fun h => finPW ?_, fun h => eqBlks_loop V Z (by omega) hm pwLoose a.length 0 (by omega) (finPW ?_)⟩
 ·rw [decide_eq_false]
  intro a2; subst a2; exact h rfl
 ·simp
abbrev yB7aa (a : Nat) : SHeap := [(a, .cells #[PP a, .slice none 0 0] 103)]
theorem ws0_vc (B : Nat) (a : BA) (hm : Mem [(B, .cells #[.pointer none, .slice none 0 0] 103)] S w0 W)
 (H :
 (a.size ≤ 9223372036854775807 ∧ a.size * 1 ≤ 140737488355328) ∧ ((a.size = 0 →
 ∀ g : Int, g = (a.size : Int) →
 Fin R (yB7aa B) S w0 (.tuple #[IV g, .nilIface])) ∧
 (0 < a.size → ∀ (d b : Nat) (e : List Value), a.size ≤ b → ((bytesL a.data.toList) ++ e).length = b * 1 →
 ∀ h : Int, h = (a.size : Int) →
 Fin R [(B, .cells #[PP B, .slice (SO d) a.size b] 103), (d, .cells ⟨((bytesL a.data.toList) ++ e)⟩ 5)] S w0 (.tuple #[IV h, .nilIface])))) :
 Calls TP 109 ⟨[PP B, .string a]⟩ W R:= by
 refine AtE.cs 19 Tryz.func109 hm (.ru 8 (.il 150 [PP B] 20 Tryz.func150 (.ru 5 (.ld 0 0 (.ru 6 (.ptrConv 0 (t := 103) (B := B) (off := 0) (c := ([.pointer none, .slice none 0 0] : List Value)) (E := 103) (fz := (0, 0)) (sz := 1) (by kernel_rfl) (by simp) (.ru 1 (.ptrBack 0 (u := 103) (B := B) (off := 0) (n := 2) (c := ([.pointer none, .slice none 0 0] : List Value)) (E := 103) (fz := (0, 0)) (by kernel_rfl) rfl (.ru 2 (.store 0 0 (T := 101) (v := PP B) (by kernel_rfl) (.ru 1 (.rk Tryz.func150 (.nm (KR Tryz.f109 6 []) [(0, PP B), (1, .string a)] (yB7aa B) (.ru 7 (.ld 0 1 (.ru 1 (.appendS (T := 47) (U := 9) (E := 5) (z := .int .u8 0) (sz := 1) (bytes := 1) (x := .string a) a.size (bytesL a.data.toList) (by kernel_rfl) (srcStr (by kernel_rfl) _) H.1 (fun f => ?_) (fun f d b e i j => ?_))))))))))))))))))
 ·replace H := H.2.1 f
  refine .ru 2 (.store 0 1 (T := 47) (v := .slice none 0 0) (by kernel_rfl) (.ru 6 (.lI 4 H fun g H => (.ru 2 (.rt Tryz.func109 H)))))
 ·skip
  replace H := H.2.2 f d b e i j
  refine .ru 2 (.store 0 1 (T := 47) (v := .slice (SO d) a.size b) (by kernel_rfl) (.ru 6 (.lI 4 H fun h H => (.ru 2 (.rt Tryz.func109 H)))))
theorem ws1_vc (B : Nat) (b : BA) (hm : Mem (yB7aa B) S w0 W)
 (H :
 (b.size ≤ 9223372036854775807 ∧ b.size * 1 ≤ 140737488355328) ∧ ((b.size = 0 →
 ∀ f : Int, f = (b.size : Int) →
 Fin R (yB7aa B) S w0 (.tuple #[IV f, .nilIface])) ∧
 (0 < b.size → ∀ (c d : Nat) (r : List Value), b.size ≤ d → ((bytesL b.data.toList) ++ r).length = d * 1 →
 ∀ g : Int, g = (b.size : Int) →
 Fin R [(B, .cells #[PP B, .slice (SO c) b.size d] 103), (c, .cells ⟨((bytesL b.data.toList) ++ r)⟩ 5)] S w0 (.tuple #[IV g, .nilIface])))) :
 Calls TP 109 ⟨[PP B, .string b]⟩ W R:= by
 refine AtE.cs 19 Tryz.func109 hm (.ru 8 (.il 150 [PP B] 20 Tryz.func150 (.ru 5 (.ld 0 0 (.ru 8 (.ld 0 0 (.ru 1 (.neqSame (T := 101) (E := 103) (a := ⟨B, 0, none⟩) (by kernel_rfl) (.ru 3 (.rk Tryz.func150 (.ru 7 (.ld 0 1 (.ru 1 (.appendS (T := 47) (U := 9) (E := 5) (z := .int .u8 0) (sz := 1) (bytes := 1) (x := .string b) b.size (bytesL b.data.toList) (by kernel_rfl) (srcStr (by kernel_rfl) _) H.1 (fun e => ?_) (fun e c d r h i => ?_)))))))))))))))
 ·replace H := H.2.1 e
  refine .nm (KR Tryz.f109 14 [7,8,9]) [(1, .string b), (8, PP B), (14, .slice none 0 0)] (yB7aa B) (.ru 2 (.store 0 1 (T := 47) (v := .slice none 0 0) (by kernel_rfl) (.ru 6 (.lI 4 H fun f H => (.ru 2 (.rt Tryz.func109 H))))))
 ·skip
  replace H := H.2.2 e c d r h i
  refine .nm (KR Tryz.f109 14 [7,8,9]) [(1, .string b), (8, PP B), (14, .slice (SO c) b.size d)] [(B, .cells #[PP B, .slice none 0 0] 103), (c, .cells ⟨((bytesL b.data.toList) ++ r)⟩ 5)] (.ru 2 (.store 0 1 (T := 47) (v := .slice (SO c) b.size d) (by kernel_rfl) (.ru 6 (.lI 4 H fun g H => (.ru 2 (.rt Tryz.func109 H))))))
theorem ws2_vc (B : Nat) (b : BA) (g c f : Nat) (cs : List Value) (hm : Mem [(B, .cells #[PP B, .slice (SO g) c (f + 1)] 103), (g, .cells ⟨cs⟩ 5)] S w0 W)
 (H :
 (c ≤ (f + 1) ∧ (cs).length = (f + 1) * 1) ∧ ((c + b.size) ≤ 9223372036854775807 ∧ (c + b.size) * 1 ≤ 140737488355328) ∧
 ∀ (d e : Nat) (r : List Value), (c + b.size) ≤ e → ((cs).take (c * 1) ++ (bytesL b.data.toList) ++ r).length = e * 1 →
 ∀ h : Int, h = (b.size : Int) →
 Fin R [(B, .cells #[PP B, .slice (SO d) (c + b.size) e] 103), (d, .cells ⟨((cs).take (c * 1) ++ (bytesL b.data.toList) ++ r)⟩ 5)] S w0 (.tuple #[IV h, .nilIface])) :
 Calls TP 109 ⟨[PP B, .string b]⟩ W R:= by
 refine AtE.cs 19 Tryz.func109 hm (.ru 8 (.il 150 [PP B] 20 Tryz.func150 (.ru 5 (.ld 0 0 (.ru 8 (.ld 0 0 (.ru 1 (.neqSame (T := 101) (E := 103) (a := ⟨B, 0, none⟩) (by kernel_rfl) (.ru 3 (.rk Tryz.func150 (.ru 7 (.ld 0 1 (.ru 1 (.appendOS 1 (T := 47) (U := 9) (E := 5) (z := .int .u8 0) (sz := 1) (bytes := 1) (len := c) (cap := (f + 1)) (x := .string b) (cs := cs) b.size (bytesL b.data.toList) (by kernel_rfl) (srcStr (by kernel_rfl) _) H.1 H.2.1 (fun d e r i j => ?_)))))))))))))))
 replace H := H.2.2 d e r i j
 refine .nm (KR Tryz.f109 14 [7,8,9]) [(1, .string b), (8, PP B), (14, .slice (SO d) (c + b.size) e)] [(B, .cells #[PP B, .slice (SO g) c (f + 1)] 103), (d, .cells ⟨((cs).take (c * 1) ++ (bytesL b.data.toList) ++ r)⟩ 5)] (.ru 2 (.store 0 1 (T := 47) (v := .slice (SO d) (c + b.size) e) (by kernel_rfl) (.ru 6 (.lI 4 H fun h H => (.ru 2 (.rt Tryz.func109 H))))))
theorem bs0_vc (B : Nat) (hm : Mem [(B, .cells #[.pointer none, .slice none 0 0] 103)] S w0 W) (H : VP S w0 R (.r 5 <| .dr 10 <| .qu [3,100,4,100,1] <| .dn <| .re 3 (sZ) [(B, .cells #[.pointer none, .slice none 0 0] 103)])) : Calls TP 60 ⟨[PP B]⟩ W R := VC.cs Tryz.func60 hm _ H
theorem bs1_vc (B : Nat) (hm : Mem (yB7aa B) S w0 W) (H : VP S w0 R (.r 5 <| .dr 10 <| .qu [3,100,4,100,1] <| .dn <| .re 3 (sZ) (yB7aa B))) : Calls TP 60 ⟨[PP B]⟩ W R := VC.cs Tryz.func60 hm _ H
theorem bs2_vc (B b a f : Nat) (cs : List Value) (hm : Mem [(B, .cells #[PP B, .slice (SO b) a (f + 1)] 103), (b, .cells ⟨cs⟩ 5)] S w0 W)
 (H :
 ∃ d : List UInt8, ((cs).take a = bytesL d ∧ d.length = a ∧ 0 < a ∧ a ≤ 9223372036854775807) ∧
 ∀ e : BA, e = ⟨d.toArray⟩ →
 Fin R [(B, .cells #[PP B, .slice (SO b) a (f + 1)] 103)] S w0 (.string e)) :
 Calls TP 60 ⟨[PP B]⟩ W R:= by
 refine AtE.cs 14 Tryz.func60 hm (.ru 5 (.nm (KC Tryz.f60 6) [(0, PP B)] [(B, .cells #[PP B, .slice (SO b) a (f + 1)] 103), (b, .cells ⟨cs⟩ 5)] (.dr 10 (.pu (.pu (.pu (.ld 0 1 (.pu (.pu (.pu (.pu (.ld 0 1 (.pu (.dn ?_))))))))))))))
 obtain ⟨d, g, H⟩ := H
 refine .unsafeStr 1 (B := b) (E := 5) (pt := 158) (it := 3) (n := a) (c := cs) (l := d) (by kernel_rfl) g (.ru 1 (.letS 2 (n := ⟨d.toArray⟩) (by kernel_rfl) (fun e h => ?_)))
 replace H := H e h
 refine .ru 1 (.rt Tryz.func60 H)
theorem dkFin {L : SHeap} {v : Value} (h : K v L) : Fin (fun e M => ∃ v L', e = .returned v ∧ Mem L' S W M ∧ K v L') L S W v :=
 fun _ hm => ⟨v, L, rfl, hm, h⟩
def EffW (P : Program) (g : FuncId) (args : Array Value) (L0 : SHeap) (Pre : World → Prop) (K : Value → SHeap → Prop) : Prop :=
 ∀ W, Mem L0 (L0.map (·.1)) W W → Pre W → Calls P g args W fun e W' => ∃ v L', e = .returned v ∧ Mem L' (L0.map (·.1)) W W' ∧ K v L'
theorem CallH.effW {L : SHeap} {L0 L1 : SHeap} {a2 : World → Prop} (h : EffW P g args L0 a2 K) (b4 : ∀ W, Mem L S w0 W → a2 W) (hp : (L0 ++ L1).Perm L)
  (a3 : ∀ v L', K v L' → ∃ a0, (L' ++ L1).Perm a0 ∧ K' v a0) : CallH P g args L S w0 K' := by
 intro W hm
 have b7 : EffC P g args L0 K → CallH P g args L S w0 K' := fun h => CallH.eff h hp a3
 have M : Mem (L0 ++ L1) S w0 W := hm.perm hp
 have a5 := M.nodup
 rw [List.map_append, List.nodup_append] at a5
 obtain ⟨b5, n1, a7⟩ := a5
 refine (h W ⟨b5, fun p hp => M.here p (List.mem_append_left _ hp), fun p hp => .inr (List.mem_map_of_mem hp), Kept.refl _ W⟩ (b4 W hm)).mono ?_
 rintro e b6 ⟨v, L', rfl, O, b0⟩
 obtain ⟨a0, b3, b1⟩ := a3 v L' b0
 refine ⟨v, a0, rfl, Mem.perm (L := L' ++ L1) ⟨?_, ?_, ?_, ?_⟩ b3.symm, b1⟩
 ·rw [List.map_append, List.nodup_append]
  refine ⟨O.nodup, n1, ?_⟩
  intro a a8 b a4 a9
  subst a9
  obtain ⟨p, hp, rfl⟩ := List.mem_map.1 a8
  obtain ⟨q, V, Z⟩ := List.mem_map.1 a4
  rcases O.own p hp with h1 | h1
  ·have := M.lt (List.mem_append_right L0 V)
   omega
  ·exact a7 _ h1 _ a4 rfl
 ·intro p hp
  rcases List.mem_append.1 hp with hp | hp
  ·exact O.here p hp
  ·rw [O.kept.block p.1 (M.lt (List.mem_append_right _ hp)) (fun a1 => a7 _ a1 _ (List.mem_map_of_mem hp) rfl)]
   exact M.here p (List.mem_append_right _ hp)
 ·intro p hp
  rcases List.mem_append.1 hp with hp | hp
  ·rcases O.own p hp with h1 | h1
   ·exact .inl (Nat.le_trans M.kept.size h1)
   ·obtain ⟨q, V, Z⟩ := List.mem_map.1 h1
    have := M.own q (List.mem_append_left _ V)
    rw [Z] at this; exact this
  ·exact M.own p (List.mem_append_right _ hp)
 ·refine ⟨O.kept.os.trans M.kept.os, O.kept.tape.trans M.kept.tape, O.kept.output.trans M.kept.output, Nat.le_trans M.kept.size O.kept.size, fun i hi a6 => ?_⟩
  rw [O.kept.block i (Nat.lt_of_lt_of_le hi M.kept.size) (fun a1 => ?_)]
  ·exact M.kept.block i hi a6
  ·obtain ⟨q, V, Z⟩ := List.mem_map.1 a1
   rcases M.own q (List.mem_append_left _ V) with h1 | h1
   ·rw [Z] at h1; omega
   ·rw [Z] at h1; exact a6 h1
abbrev bHdr (B : Nat) (p : Value) (v : Value) : Nat × Obj := (B, .cells #[p, v] 103)
def BRep (B : Nat) (s : List UInt8) (F : SHeap) : Prop :=
 (s = [] ∧ F = [bHdr B (.pointer none) (.slice none 0 0)]) ∨ (s = [] ∧ F = [bHdr B (.pointer (SO B)) (.slice none 0 0)]) ∨
 ∃ (Q cap : Nat) (cs : List Value), 0 < s.length ∧ s.length ≤ cap + 1 ∧ cs.length = (cap + 1) * 1 ∧ cs.take s.length = bytesL s ∧
  F = [bHdr B (.pointer (SO B)) (.slice (SO Q) s.length (cap + 1)), (Q, .cells ⟨cs⟩ 5)]
theorem BRep.new (B : Nat) : BRep B [] [bHdr B (.pointer none) (.slice none 0 0)] := .inl ⟨rfl, rfl⟩
theorem BRep.row {B Q cap : Nat} {s : List UInt8} {cs : List Value} (M : 0 < s.length) (O : s.length ≤ cap) (V : cs.length = cap * 1) (Z : cs.take s.length = bytesL s) :
  BRep B s [bHdr B (.pointer (SO B)) (.slice (SO Q) s.length cap), (Q, .cells ⟨cs⟩ 5)] := by
 obtain ⟨c, rfl⟩ : ∃ c, cap = c + 1 := ⟨cap - 1, by omega⟩
 exact .inr (.inr ⟨Q, c, cs, M, O, V, Z, rfl⟩)
theorem take_bytes (l : List UInt8) (r : List Value) : (bytesL l ++ r).take l.length = bytesL l := by
 rw [List.take_append_of_le_length (by rw [bytesL_len]; exact Nat.le_refl _), List.take_of_length_le (by rw [bytesL_len]; exact Nat.le_refl _)]
theorem write_e {B : Nat} {l : List UInt8} {s : BA} {F : SHeap} (h : BRep B l F) (a0 : l.length + s.size ≤ 140737488355328) :
  EffC TP 109 ⟨[.pointer (SO B), .string s]⟩ F (fun v F' => v = .tuple #[.int .i64 (s.size : Int), .nilIface] ∧ BRep B (l ++ bts s) F') := by
 intro W hm
 have V : (bts s).length = s.size := bts_len s
 rcases h with ⟨rfl, rfl⟩ | ⟨rfl, rfl⟩ | ⟨Q, cap, cs, h0, O, M, h3, rfl⟩
 ·simp only [List.length_nil, Nat.zero_add] at a0
  refine ws0_vc B s hm ⟨by omega, fun a3 => ?_, fun hp Z cap r O M => ?_⟩
  ·rintro _ rfl
   exact dkFin ⟨rfl, .inr (.inl ⟨by rw [List.nil_append]; exact List.length_eq_zero_iff.1 (by omega), rfl⟩)⟩
  ·rintro _ rfl
   refine dkFin ⟨rfl, ?_⟩
   rw [List.nil_append, ← V]
   exact BRep.row (by omega) (by omega) M (take_bytes _ _)
 ·simp only [List.length_nil, Nat.zero_add] at a0
  refine ws1_vc B s hm ⟨by omega, fun a3 => ?_, fun hp Z cap r O M => ?_⟩
  ·rintro _ rfl
   exact dkFin ⟨rfl, .inr (.inl ⟨by rw [List.nil_append]; exact List.length_eq_zero_iff.1 (by omega), rfl⟩)⟩
  ·rintro _ rfl
   refine dkFin ⟨rfl, ?_⟩
   rw [List.nil_append, ← V]
   exact BRep.row (by omega) (by omega) M (take_bytes _ _)
 ·refine ws2_vc B s Q l.length cap cs hm ⟨⟨O, M⟩, by omega, fun Z a4 r a1 a2 => ?_⟩
  rintro _ rfl
  refine dkFin ⟨rfl, ?_⟩
  rw [Nat.mul_one, h3, ← bytesL_app] at a2 ⊢
  have e : l.length + s.size = (l ++ bts s).length := by rw [List.length_append, V]
  rw [e] at a1 ⊢
  exact BRep.row (by omega) a1 a2 (take_bytes _ _)
theorem string_e {B : Nat} {l : List UInt8} {F : SHeap} (h : BRep B l F) (M : l.length ≤ 9223372036854775807) : EffC TP 60 ⟨[.pointer (SO B)]⟩ F (fun v F' => v = .string ⟨l.toArray⟩) := by
 intro W hm
 rcases h with ⟨rfl, rfl⟩ | ⟨rfl, rfl⟩ | ⟨Q, cap, cs, h0, h1, h2, h3, rfl⟩
 ·exact bs0_vc B hm (dkFin rfl)
 ·exact bs1_vc B hm (dkFin rfl)
 ·refine bs2_vc B Q l.length cap cs hm ⟨l, ⟨h3, rfl, h0, M⟩, ?_⟩
  rintro _ rfl
  exact dkFin rfl
noncomputable def putInts_c0 (b : Nat) (f : OA) (e d : Nat) (g c : Int) (a : SHeap) (S : List Nat) : Cut := ⟨TP, S, 182, 23, (KC Tryz.f182 12), [(0, PP b), (8, .slice f e d), (9, IV g), (10, IV c)], (a)⟩
theorem putInts_c0_vc (e : Nat) (k : OA) (g f : Nat) (h a : Int) (b : SHeap) (H : VP S w0 R (.P 5 11 (a < h) (.r 6 <| .x2 fun d c => .sp k d c [8] <| .iL d c g f 1 a (c + (Int.toNat a)) <| .x2 fun (l : List Value) m1 => .lgs d (c + (Int.toNat a)) 3 l (IV m1) <| .cl 5 48 [IV m1] (b) <| .x2 fun j m => .rt (.tuple #[.string j, IV m]) (b) <| .cl 9 109 [PP e, .string j] (b) <| .x3 fun r31 (n : Value) (i : SHeap) => .rt (.tuple #[IV r31, n]) (i) <| .cT 7 [] 0 (putInts_c0 e (some ⟨d, c, none⟩) g f h (IntKind.i64.wrap (a + 1)) i S)) <| .re 2 (.tuple #[]) (b))) : putInts_c0 e k g f h a b S w0 R := VC.go Tryz.func182 _ H
theorem putInts_vc (B : Nat) (d : OA) (a c : Nat) (b : SHeap) (hm : Mem (b) S w0 W) (H : VP S w0 R (.cT 8 [] 0 (putInts_c0 B d a c (a : Int) 0 b S))) : Calls TP 182 ⟨[PP B, .slice d a c]⟩ W R := VC.cs Tryz.func182 hm _ H
noncomputable def encode_c0 (b : Nat) (e : OA) (d c : Nat) (f g : Int) (a : SHeap) : Cut := ⟨TP, [], 169, 63, (KC Tryz.f169 500), [(4, PP b), (16, .slice e d c), (17, IV f), (18, IV g)], (a)⟩
theorem encode_c0_vc (n : Nat) (M : OA) (y x : Nat) (z p : Int) (u : SHeap) (H : VP [] w0 R (.P 5 19 (p < z) (.r 6 <| .x2 fun s q => .sp M s q [16] <| .iL s q y x 9 p (q + ((Int.toNat p) * 9)) <| .x5 fun N a b i d => .x5 fun e f k c j => .x2 fun g h => .lWa s (q + ((Int.toNat p) * 9)) 9 149 N [IV a, IV b, .string i, IV d, IV e, IV f, .slice k c j, IV g, IV h] <| .nf 0 (.cells #[IV 0, IV 0, sZ, IV 0, IV 0, IV 0, .slice none 0 0, IV 0, IV 0] 149) fun m => .ru [200,4,200,1,200] <| .ns true 2 (.cells #[IV a, IV b] 3) fun l => .cl 0 182 [PP n, .slice (SO l) 2 2] ((l, .cells #[IV a, IV b] 3) :: (m, .cells #[IV a, IV b, .string i, IV d, IV e, IV f, .slice k c j, IV g, IV h] 149) :: u) <| .ex fun A => .rt (.tuple #[]) ((l, .cells #[IV a, IV b] 3) :: (m, .cells #[IV a, IV b, .string i, IV d, IV e, IV f, .slice k c j, IV g, IV h] 149) :: A) <| .hp ((l, .cells #[IV a, IV b] 3) :: (m, .cells #[IV a, IV b, .string i, IV d, IV e, IV f, .slice k c j, IV g, IV h] 149) :: A) fun w => .ru [4,201] <| .cl 0 91 [.string i] w <| .x2 fun G O => .rt (.tuple #[.string G, IV O]) w <| .cl 9 109 [PP n, .string G] w <| .x3 fun r41 (Q : Value) F3 => .rt (.tuple #[IV r41, Q]) ((l, .cells #[IV a, IV b] 3) :: (m, .cells #[IV a, IV b, .string i, IV d, IV e, IV f, .slice k c j, IV g, IV h] 149) :: F3) <| .ru [4,201,1,201,2,201,2,201] <| .r 1 <| .ns true 4 (.cells #[IV d, IV e, IV f, IV (c : Int)] 3) fun o => .cl 0 182 [PP n, .slice (SO o) 4 4] ((o, .cells #[IV d, IV e, IV f, IV (c : Int)] 3) :: (l, .cells #[IV a, IV b] 3) :: (m, .cells #[IV a, IV b, .string i, IV d, IV e, IV f, .slice k c j, IV g, IV h] 149) :: F3) <| .ex fun C => .rt (.tuple #[]) ((o, .cells #[IV d, IV e, IV f, IV (c : Int)] 3) :: (l, .cells #[IV a, IV b] 3) :: (m, .cells #[IV a, IV b, .string i, IV d, IV e, IV f, .slice k c j, IV g, IV h] 149) :: C) <| .ru [5,202] <| .cl 0 182 [PP n, .slice k c j] ((o, .cells #[IV d, IV e, IV f, IV (c : Int)] 3) :: (l, .cells #[IV a, IV b] 3) :: (m, .cells #[IV a, IV b, .string i, IV d, IV e, IV f, .slice k c j, IV g, IV h] 149) :: C) <| .ex fun D => .rt (.tuple #[]) ((o, .cells #[IV d, IV e, IV f, IV (c : Int)] 3) :: (l, .cells #[IV a, IV b] 3) :: (m, .cells #[IV a, IV b, .string i, IV d, IV e, IV f, .slice k c j, IV g, IV h] 149) :: D) <| .ru [4,202,2,202] <| .ns true 2 (.cells #[IV g, IV h] 3) fun t => .cl 0 182 [PP n, .slice (SO t) 2 2] ((t, .cells #[IV g, IV h] 3) :: (o, .cells #[IV d, IV e, IV f, IV (c : Int)] 3) :: (l, .cells #[IV a, IV b] 3) :: (m, .cells #[IV a, IV b, .string i, IV d, IV e, IV f, .slice k c j, IV g, IV h] 149) :: D) <| .ex fun E => .rt (.tuple #[]) ((t, .cells #[IV g, IV h] 3) :: (o, .cells #[IV d, IV e, IV f, IV (c : Int)] 3) :: (l, .cells #[IV a, IV b] 3) :: (m, .cells #[IV a, IV b, .string i, IV d, IV e, IV f, .slice k c j, IV g, IV h] 149) :: E) <| .cT 7 [] 4 (encode_c0 n (some ⟨s, q, none⟩) y x z (IntKind.i64.wrap (p + 1)) E)) <| .cl 4 60 [PP n] (u) <| .x2 fun r61 (F : SHeap) => .rt (.string r61) (F) <| .re 3 (.tuple #[.string r61, IV 0]) (F))) : encode_c0 n M y x z p u w0 R := VC.go Tryz.func169 _ H
theorem encode_vc (d : OA) (a c : Nat) (hm : Mem [] [] w0 W) (H : VP [] w0 R (.cl 9 141 [.slice d a c] [] <| .ex fun f => .rt (.bool f) [] <| .B 0 10 f (.np 6 (.cells #[.pointer none, .slice none 0 0] 103) fun B => .r 5 <| .ns false 1 (.cells #[IV (a : Int)] 3) fun b => .cl 0 182 [PP B, .slice (SO b) 1 1] [(B, .cells #[.pointer none, .slice none 0 0] 103), (b, .cells #[IV (a : Int)] 3)] <| .ex fun e => .rt (.tuple #[]) ((b, .cells #[IV (a : Int)] 3) :: e) <| .cT 10 [] 1 (encode_c0 B d a c (a : Int) 0 e)) <| .re 8 (.tuple #[sZ, IV 30]) [])) : Calls TP 169 ⟨[.slice d a c]⟩ W R := VC.cs Tryz.func169 hm _ H
abbrev ba (l : List UInt8) : BA := ⟨l.toArray⟩
theorem ba_size (a : List UInt8) : (ba a).size = a.length := by rw [← bts_len, bts_mk]
theorem encB_ba (n : Int) : encB n = ba (enc n) := bts_inj (by rw [encB_bts, bts_mk])
theorem encSB_ba (s : BA) : encSB s = ba (encS (bts s)) := bts_inj (by rw [encSB_bts, bts_mk])
theorem encS_len (t : List UInt8) : (encS t).length ≤ t.length + 10 := by
 unfold encS; rw [List.length_append]; have := enc_len t.length; omega
def encIs (l : List Int) : List UInt8 := l.flatMap enc
def Blk.enc (b : Blk) : List UInt8 :=
 Wire.enc b.id ++ (Wire.enc b.kind ++ (encS (bts b.text) ++ (Wire.enc b.story ++ (Wire.enc b.ref ++ (Wire.enc b.lab.unt ++ (Wire.enc b.lab.after.length ++ (encIs b.lab.after ++ (Wire.enc b.lab.appr ++ Wire.enc b.lab.den))))))))
def encBs (l : List Blk) : List UInt8 := l.flatMap Blk.enc
def encL (l : List Blk) : List UInt8 := Wire.enc (l.length : Int) ++ encBs l
def encAns (l : List Blk) : Value := if listOk l = true then .tuple #[.string (ba (encL l)), .int .i64 0] else .tuple #[.string ⟨#[]⟩, .int .i64 30]
theorem asc_spec : ∀ (l : List Int) (last : Int), ascOk last l = true → 0 ≤ last → last ≤ 64 → last + l.length ≤ 64 ∧ ∀ x ∈ l, last < x ∧ x ≤ 64
 | [], last, _, h0, h1 => ⟨by simpa using h1, by simp⟩
 | x :: r, last, h, h0, h1 => by
  simp only [ascOk, Bool.and_eq_true, decide_eq_true_eq] at h
  obtain ⟨⟨a0, O⟩, V⟩ := h
  obtain ⟨a1, Z⟩ := asc_spec r x V (by omega) O
  refine ⟨by simp only [List.length_cons]; omega, fun y M => ?_⟩
  rcases List.mem_cons.1 M with rfl | M
  ·omega
  ·have := Z y M; omega
structure Blk.Good (b : Blk) : Prop where
 id : 1 ≤ b.id ∧ b.id ≤ 1000
 kind : 1 ≤ b.kind ∧ b.kind ≤ 5
 text : b.text.size ≤ 300
 story : 0 ≤ b.story ∧ b.story ≤ 64
 ref : 0 ≤ b.ref ∧ b.ref ≤ 1000
 unt : 0 ≤ b.lab.unt ∧ b.lab.unt ≤ 1000000000
 appr : 0 ≤ b.lab.appr ∧ b.lab.appr ≤ 5
 den : 0 ≤ b.lab.den ∧ b.lab.den ≤ 15
 len : b.lab.after.length ≤ 64
 after : ∀ x ∈ b.lab.after, 0 < x ∧ x ≤ 64
theorem Blk.good {b : Blk} (h : b.ok = true) : b.Good := by
 simp only [Blk.ok, Bool.and_eq_true, decide_eq_true_eq] at h
 obtain ⟨a1, V, M⟩ := h
 simp only [Lab.ok, Bool.and_eq_true, decide_eq_true_eq] at V
 obtain ⟨V, a0⟩ := V
 obtain ⟨a2, Z⟩ := asc_spec _ _ a0 (by omega) (by omega)
 have O : (1 ≤ b.kind ∧ b.kind ≤ 5) ∧ b.text.size ≤ 300 ∧ (0 ≤ b.story ∧ b.story ≤ 64) ∧ 0 ≤ b.ref ∧ b.ref ≤ 1000 := by
  unfold Blk.kindOk at M
  simp only [fillOk, txtOk, nameOk, Blk.noRef] at M
  repeat' split at M
  all_goals simp only [Bool.and_eq_true, decide_eq_true_eq, Bool.false_eq_true] at M
  all_goals omega
 exact ⟨a1, O.1, O.2.1, O.2.2.1, O.2.2.2, by omega, by omega, by omega, by omega, Z⟩
theorem listGo_all : ∀ (l M : List Blk), listGo M l = true → ∀ b ∈ l, b.ok = true
 | [], _, _, _, hb => by cases hb
 | x :: r, M, h, b, hb => by
  simp only [listGo, Bool.and_eq_true] at h
  rcases List.mem_cons.1 hb with rfl | hb
  ·exact h.1
  ·exact listGo_all r _ h.2.2 b hb
theorem listOk_all {l : List Blk} (h : listOk l = true) : l.length ≤ 24 ∧ ∀ b ∈ l, b.ok = true := by
 simp only [listOk, Bool.and_eq_true, decide_eq_true_eq] at h
 exact ⟨h.1, listGo_all l _ h.2⟩
theorem encIs_len (l : List Int) : (encIs l).length ≤ 10 * l.length := by
 induction l with
 | nil => simp [encIs]
 | cons x r ih => simp only [encIs, List.flatMap_cons, List.length_append, List.length_cons] at *; have := enc_len x; omega
theorem encBlk_len {b : Blk} (h : b.Good) : b.enc.length ≤ 1040 := by
 have M := encS_len (bts b.text)
 rw [bts_len] at M
 have O := encIs_len b.lab.after
 have := h.text; have := h.len
 unfold Blk.enc
 simp only [List.length_append]
 have := enc_len b.id; have := enc_len b.kind; have := enc_len b.story; have := enc_len b.ref; have := enc_len b.lab.unt; have := enc_len (b.lab.after.length : Int); have := enc_len b.lab.appr; have := enc_len b.lab.den
 omega
theorem encBs_len : ∀ (l : List Blk), (∀ b ∈ l, b.ok = true) → (encBs l).length ≤ 1040 * l.length
 | [], _ => by simp [encBs]
 | b :: r, h => by
  have ih := encBs_len r (fun x M => h x (by simp [M]))
  have := encBlk_len (Blk.good (h b (by simp)))
  simp only [encBs, List.flatMap_cons, List.length_append, List.length_cons] at *
  omega
theorem encBs_take {l : List Blk} {i : Nat} (h : i < l.length) : encBs (l.take (i + 1)) = encBs (l.take i) ++ l[i].enc := by
 have e : l.take (i + 1) = l.take i ++ [l[i]] := by rw [List.take_add_one, List.getElem?_eq_getElem h]; rfl
 rw [e, encBs, List.flatMap_append, List.flatMap_cons, List.flatMap_nil, List.append_nil]; rfl
theorem encIs_take {l : List Int} {i : Nat} (h : i < l.length) : encIs (l.take (i + 1)) = encIs (l.take i) ++ Wire.enc l[i] := by
 have e : l.take (i + 1) = l.take i ++ [l[i]] := by rw [List.take_add_one, List.getElem?_eq_getElem h]; rfl
 rw [e, encIs, List.flatMap_append, List.flatMap_cons, List.flatMap_nil, List.append_nil]; rfl
theorem okI {n : Int} (h : -1000000000000 ≤ n ∧ n ≤ 1000000000000) : okInt n := by unfold okInt maxInt; omega
theorem putI {n : Int} (h : okInt n) : PureC TP 48 ⟨[.int .i64 n]⟩ (.tuple #[.string (ba (Wire.enc n)), .int .i64 0]) := by
 have := PutInt_c n
 rw [putAns, if_pos h, encB_ba] at this
 exact this
theorem putS {s : BA} (h : s.size ≤ 65536) : PureC TP 91 ⟨[.string s]⟩ (.tuple #[.string (ba (encS (bts s))), .int .i64 0]) := by
 have := PutString_c s
 rw [putSAns, if_pos h, encSB_ba] at this
 exact this
theorem CallH.effF {F : SHeap} (h : EffC P g args F K) (M : ∀ v F', K v F' → K' v F') : CallH P g args F S w0 K' :=
 CallH.eff (L1 := []) h (by simp) fun v L' O => ⟨L', by simp, M v L' O⟩
theorem CallH.effT {F : SHeap} (told : SHeap) (h : EffC P g args F K) (M : ∀ v F', K v F' → K' v (told ++ F')) : CallH P g args (told ++ F) S w0 K' :=
 CallH.eff (L1 := told) h List.perm_append_comm fun v L' O => ⟨told ++ L', List.perm_append_comm, M v L' O⟩
theorem CallH.effWT {F : SHeap} {M : World → Prop} (told : SHeap) (h : EffW P g args F M K) (Z : ∀ W, Mem (told ++ F) S w0 W → M W) (O : ∀ v F', K v F' → K' v (told ++ F')) : CallH P g args (told ++ F) S w0 K' :=
 CallH.effW (L1 := told) h Z List.perm_append_comm fun v L' V => ⟨told ++ L', List.perm_append_comm, O v L' V⟩
def lkX (S : List Nat) (w : World) : Lk := fun b c => b ∉ S ∧ blkW w b = some c
theorem lkX_of {told F : SHeap} (hm : Mem (told ++ F) [] w0 W) : ∀ b c, lkM told w0 b c → lkX (F.map (·.1)) W b c := by
 rintro b c (⟨t, fz, h⟩ | h)
 ·refine ⟨fun M => ?_, ?_⟩
  ·have V := hm.nodup
   rw [List.map_append, List.nodup_append] at V
   exact V.2.2 b (List.mem_map_of_mem h) b M rfl
  ·have := hm.here _ (List.mem_append_left F h)
   simp only at this
   simp [blkW, this]
 ·refine ⟨fun M => ?_, lkW_kept hm b c h⟩
  obtain ⟨q, Z, rfl⟩ := List.mem_map.1 M
  have O := hm.own q (List.mem_append_right told Z)
  simp only [List.not_mem_nil, or_false] at O
  unfold lkW blkW at h
  rw [Array.getElem?_eq_none O] at h
  cases h
theorem ints_told {told : SHeap} {B : Nat} {ns : List Int} {t : TypeId} (h : (B, Obj.cells ⟨ns.map (.int .i64)⟩ t) ∈ told) : IntsL (lkM told w0) (SO B) ns := by
 intro _
 refine ⟨B, 0, ns.map (.int .i64), rfl, .inl ⟨t, _, h⟩, fun i hi => ?_⟩
 rw [Nat.zero_add, List.getElem?_map, List.getElem?_eq_getElem hi]; rfl
theorem putInts_loop {w0 : World} {S : List Nat} {B : Nat} {p : OA} {c : Nat} {ns : List Int} (hp : IntsL (lkX S w0) p ns) (O : ∀ x ∈ ns, okInt x) (hn : ns.length ≤ 1000000) {l : List UInt8} (a1 : l.length ≤ 1000000000) :
  ∀ (g i : Nat) (F : SHeap), g + i = ns.length → BRep B (l ++ encIs (ns.take i)) F →
   putInts_c0 B p ns.length c (ns.length : Int) (i : Int) F S w0 (fun e V => ∃ v L', e = .returned v ∧ Mem L' S w0 V ∧ v = .tuple #[] ∧ BRep B (l ++ encIs ns) L')
 | 0, i, F, hg, hF => by
  apply putInts_c0_vc
  refine no (by omega) (dkFin ⟨rfl, ?_⟩)
  rw [List.take_of_length_le (by omega)] at hF
  exact hF
 | g + 1, i, F, hg, hF => by
  apply putInts_c0_vc
  have hi : i < ns.length := by omega
  obtain ⟨b, o, cc, rfl, M, Z⟩ := hp.get hi
  refine yes (by omega) ⟨b, o, rfl, by omega, cc, ns[i], M.1, M.2, by simpa using Z, ?_⟩
  refine CallH.pure (putI (O _ (List.getElem_mem hi))) ⟨_, _, rfl, rfl, ?_⟩
  have a0 := encIs_len (ns.take i)
  rw [List.length_take] at a0
  have a2 := enc_len ns[i]
  refine CallH.effF (write_e hF (by rw [List.length_append, ba_size]; omega)) fun v F' ⟨hv, hF'⟩ => ⟨_, _, F', hv, rfl, ?_⟩
  rw [wi64 (by omega), show (i : Int) + 1 = ((i + 1 : Nat) : Int) by omega]
  refine putInts_loop hp O hn a1 g (i + 1) F' (by omega) ?_
  rw [encIs_take hi, ← List.append_assoc]
  rwa [bts_mk] at hF'
theorem putInts_e {B : Nat} {p : OA} {c : Nat} {ns : List Int} (V : ∀ x ∈ ns, okInt x) (hn : ns.length ≤ 1000000) {l : List UInt8} (O : l.length ≤ 1000000000) {F : SHeap} (M : BRep B l F) :
  EffW TP 182 ⟨[.pointer (SO B), .slice p ns.length c]⟩ F (fun W => IntsL (lkX (F.map (·.1)) W) p ns) (fun v F' => v = .tuple #[] ∧ BRep B (l ++ encIs ns) F') := by
 intro W hm hp
 refine putInts_vc B p ns.length c F hm (putInts_loop hp V hn O ns.length 0 F (by omega) ?_)
 simpa [encIs] using M
theorem enc_parts (b : Blk) (p : List UInt8) : p ++ encIs [b.id, b.kind] ++ encS (bts b.text) ++ encIs [b.story, b.ref, b.lab.unt, (b.lab.after.length : Int)] ++ encIs b.lab.after ++ encIs [b.lab.appr, b.lab.den] = p ++ b.enc := by
 simp [Blk.enc, encIs]
theorem encode_loop {w0 : World} {B : Nat} {p : OA} {c : Nat} {l : List Blk} (a3 : BlksL (lkW w0) p l) (a1 : listOk l = true) :
  ∀ (g i : Nat) (F : SHeap), g + i = l.length → BRep B (Wire.enc (l.length : Int) ++ encBs (l.take i)) F →
   encode_c0 B p l.length c (l.length : Int) (i : Int) F w0 (fun e a0 => e = .returned (encAns l) ∧ Below w0.heap.size w0 a0)
 | 0, i, F, hg, hF => by
  apply encode_c0_vc
  rw [List.take_of_length_le (by omega)] at hF
  have b9 := encBs_len l (listOk_all a1).2
  have c2 := enc_len (l.length : Int)
  have c3 := (listOk_all a1).1
  refine no (by omega) (CallH.effF (string_e hF (by rw [List.length_append]; omega)) fun v F' O => ⟨_, F', O, rfl, finPW ?_⟩)
  rw [encAns, if_pos a1]; rfl
 | g + 1, i, F, hg, hF => by
  apply encode_c0_vc
  have hi : i < l.length := by omega
  obtain ⟨a4, o1, c1, rfl, a6, a7, b5, a5, a8, a9, b8⟩ := a3.get hi
  have a2 := listOk_all a1
  have V := Blk.good (a2.2 _ (List.getElem_mem hi))
  have k1 := encBs_len (l.take i) (fun b b0 => a2.2 b (List.mem_of_mem_take b0))
  rw [List.length_take] at k1
  have d3 := enc_len (l.length : Int)
  have d4 := a2.1
  have c4 := V.id; have c5 := V.kind; have c6 := V.text; have c7 := V.story; have c8 := V.ref; have c9 := V.unt; have d0 := V.appr; have d1 := V.den; have d2 := V.len
  refine yes (by omega) ⟨a4, o1, rfl, by omega, c1, l[i].id, l[i].kind, l[i].text, l[i].story, l[i].ref, l[i].lab.unt, b5, l[i].lab.after.length, a5, l[i].lab.appr, l[i].lab.den, a6, ⟨by simpa using a8, by simpa using a7⟩, fun B2 B3 => ?_⟩
  have b1 := encIs_len [l[i].id, l[i].kind]
  have b3 := encS_len (bts l[i].text); rw [bts_len] at b3
  have b4 := encIs_len [l[i].story, l[i].ref, l[i].lab.unt, (l[i].lab.after.length : Int)]
  have d5 := encIs_len l[i].lab.after
  simp only [List.length_cons, List.length_nil] at b1 b4
  refine CallH.effWT [_, _] (putInts_e (ns := [l[i].id, l[i].kind]) (fun x M => ?_) (by simp) (by rw [List.length_append]; omega) hF) (fun a0 Z => (ints_told (told := [_, _]) (ns := [l[i].id, l[i].kind]) (t := 3) (by simp)).mono (lkX_of Z)) fun v F2 ⟨O, hF2⟩ => ⟨F2, O, rfl, ?_⟩
  ·rcases List.mem_cons.1 M with rfl | M
   ·exact okI (by omega)
   ·rw [List.mem_singleton.1 M]; exact okI (by omega)
  refine CallH.pure (putS (by omega)) ⟨_, _, rfl, rfl, ?_⟩
  refine CallH.effT [_, _] (write_e hF2 (by simp only [List.length_append, ba_size]; omega)) fun v F3 ⟨O, hF3⟩ => ⟨_, _, F3, O, rfl, fun b6 => ?_⟩
  rw [bts_mk] at hF3
  refine CallH.effWT [_, _, _] (putInts_e (ns := [l[i].story, l[i].ref, l[i].lab.unt, (l[i].lab.after.length : Int)]) (fun x M => ?_) (by simp) (by simp only [List.length_append]; omega) hF3) (fun a0 Z => (ints_told (told := [_, _, _]) (ns := [l[i].story, l[i].ref, l[i].lab.unt, (l[i].lab.after.length : Int)]) (t := 3) (by simp)).mono (lkX_of Z)) fun v F4 ⟨O, hF4⟩ => ⟨F4, O, rfl, ?_⟩
  ·simp only [List.mem_cons, List.not_mem_nil, or_false] at M
   rcases M with rfl | rfl | rfl | rfl <;> exact okI (by omega)
  refine CallH.effWT [_, _, _] (putInts_e (ns := l[i].lab.after) (fun x M => ?_) (by omega) (by simp only [List.length_append]; omega) hF4) (fun a0 Z => (a9.mono lkM_old).mono (lkX_of Z)) fun v F5 ⟨O, hF5⟩ => ⟨F5, O, rfl, fun b7 => ?_⟩
  ·have := V.after x M; exact okI (by omega)
  refine CallH.effWT [_, _, _, _] (putInts_e (ns := [l[i].lab.appr, l[i].lab.den]) (fun x M => ?_) (by simp) (by simp only [List.length_append]; omega) hF5) (fun a0 Z => (ints_told (told := [_, _, _, _]) (ns := [l[i].lab.appr, l[i].lab.den]) (t := 3) (by simp)).mono (lkX_of Z)) fun v F6 ⟨O, hF6⟩ => ⟨F6, O, rfl, ?_⟩
  ·rcases List.mem_cons.1 M with rfl | M
   ·exact okI (by omega)
   ·rw [List.mem_singleton.1 M]; exact okI (by omega)
  rw [wi64 (by omega), show (i : Int) + 1 = ((i + 1 : Nat) : Int) by omega]
  refine encode_loop a3 a1 g (i + 1) F6 (by omega) ?_
  rw [encBs_take hi, ← List.append_assoc, ← enc_parts]
  exact hF6
theorem encode_c {p : OA} {c : Nat} {l : List Blk} (V : BlksL (lkW W) p l) (a0 : l.length ≤ c) : PW TP 169 ⟨[.slice p l.length c]⟩ W (encAns l) := by
 refine encode_vc p l.length c (Mem.start [] W) (CallH.pw (fun Z O => validL_c (V.mono (lkW_kept O)) a0) ⟨_, rfl, rfl, fun h B M => ?_, fun h => finPW ?_⟩)
 ·have a2 := (listOk_all h).1
  refine CallH.effW (L0 := [bHdr B (.pointer none) (.slice none 0 0)]) (L1 := [(M, .cells #[.int .i64 (l.length : Int)] 3)]) (putInts_e (ns := [(l.length : Int)]) (l := []) (fun x a1 => ?_) (by simp) (by simp) (BRep.new B)) (fun Z O => (ints_told (told := [(M, .cells #[.int .i64 (l.length : Int)] 3)]) (ns := [(l.length : Int)]) (t := 3) (by simp)).mono (lkX_of (O.perm (List.perm_append_comm (l₁ := [(M, Obj.cells #[.int .i64 (l.length : Int)] 3)]) (l₂ := [bHdr B (.pointer none) (.slice none 0 0)]))))) (List.Perm.refl _) fun v F ⟨hv, hF⟩ => ⟨_, List.perm_append_comm, F, hv, rfl, ?_⟩
  ·rw [List.mem_singleton.1 a1]; exact okI (by omega)
  ·refine encode_loop V h l.length 0 F (by omega) ?_
   simpa [encIs, encBs] using hF
 ·rw [encAns, if_neg (by rw [h]; simp)]
abbrev RS := Nat × Int
def rdI (s : List UInt8) (st : RS) : Int × RS :=
 if st.2 = 0 then match rdInt (s.drop st.1) with
  | none => (0, (st.1, 10))
  | some (n, k) => (n, (st.1 + k, 0))
 else (0, st)
def rdT (s : List UInt8) (st : RS) : BA × RS :=
 if st.2 = 0 then match rdStr (s.drop st.1) with
  | none => (⟨#[]⟩, (st.1, 10))
  | some (t, k) => (⟨t.toArray⟩, (st.1 + k, 0))
 else (⟨#[]⟩, st)
def rdMany {α : Type} (f : RS → α × RS) : Nat → RS → List α × RS
 | 0, st => ([], st)
 | n + 1, st => if st.2 = 0 then ((f st).1 :: (rdMany f n (f st).2).1, (rdMany f n (f st).2).2) else ([], st)
def rdCount (s : List UInt8) (most : Int) (st : RS) : Int × RS :=
 if (rdI s st).2.2 = 0 ∧ ((rdI s st).1 < 0 ∨ most < (rdI s st).1) then ((rdI s st).1, ((rdI s st).2.1, 30)) else rdI s st
def rdList {α : Type} (f : RS → α × RS) (s : List UInt8) (most : Int) (st : RS) : List α × RS := rdMany f (rdCount s most st).1.toNat (rdCount s most st).2
def rdB1 (s : List UInt8) (st : RS) := rdI s st
def rdB2 (s : List UInt8) (st : RS) := rdI s (rdB1 s st).2
def rdB3 (s : List UInt8) (st : RS) := rdT s (rdB2 s st).2
def rdB4 (s : List UInt8) (st : RS) := rdI s (rdB3 s st).2
def rdB5 (s : List UInt8) (st : RS) := rdI s (rdB4 s st).2
def rdB6 (s : List UInt8) (st : RS) := rdI s (rdB5 s st).2
def rdB7 (s : List UInt8) (st : RS) := rdList (rdI s) s 64 (rdB6 s st).2
def rdB8 (s : List UInt8) (st : RS) := rdI s (rdB7 s st).2
def rdB9 (s : List UInt8) (st : RS) := rdI s (rdB8 s st).2
def rdBlk (s : List UInt8) (st : RS) : Blk × RS :=
 (⟨(rdB1 s st).1, (rdB2 s st).1, (rdB3 s st).1, (rdB4 s st).1, (rdB5 s st).1, ⟨(rdB6 s st).1, (rdB7 s st).1, (rdB8 s st).1, (rdB9 s st).1⟩⟩, (rdB9 s st).2)
def decRun (s : List UInt8) : List Blk × RS := rdList (rdBlk s) s 24 (0, 0)
def decSpec (s : List UInt8) : List Blk × Int :=
 if ¬ (decRun s).2.2 = 0 then ([], (decRun s).2.2) else if (decRun s).2.1 < s.length then ([], 10) else if listOk (decRun s).1 = true then ((decRun s).1, 0) else ([], 30)
theorem rdStr_inv' {l t : List UInt8} {k : Nat} (h : rdStr l = some (t, k)) : k ≤ l.length ∧ t.length ≤ 65536 := by
 unfold rdStr at h
 split at h
 ·cases h
 ·next n j hr =>
  split at h
  ·next hc =>
   have := (rdInt_inv hr).2.1
   simp only [Option.some.injEq, Prod.mk.injEq] at h
   obtain ⟨rfl, rfl⟩ := h
   refine ⟨by omega, ?_⟩
   rw [List.length_take]; omega
  ·cases h
theorem rdI_le {s : List UInt8} {st : RS} (h : st.1 ≤ s.length) : (rdI s st).2.1 ≤ s.length := by
 unfold rdI
 split
 ·split
  ·exact h
  ·next n k hr =>
   have := (rdInt_inv hr).2.1
   rw [List.length_drop] at this
   simp only; omega
 ·exact h
theorem rdT_le {s : List UInt8} {st : RS} (h : st.1 ≤ s.length) : (rdT s st).2.1 ≤ s.length ∧ (rdT s st).1.size ≤ 65536 := by
 unfold rdT
 split
 ·split
  ·exact ⟨h, (show (0 : Nat) ≤ 65536 by decide)⟩
  ·next n k hr =>
   have := rdStr_inv' hr
   rw [List.length_drop] at this
   exact ⟨by simp only; omega, by rw [ba_size]; exact this.2⟩
 ·exact ⟨h, (show (0 : Nat) ≤ 65536 by decide)⟩
theorem rdMany_le {α : Type} {f : RS → α × RS} {s : List UInt8} (M : ∀ st, st.1 ≤ s.length → (f st).2.1 ≤ s.length) : ∀ (n : Nat) (st : RS), st.1 ≤ s.length → (rdMany f n st).2.1 ≤ s.length ∧ (rdMany f n st).1.length ≤ n
 | 0, st, h => ⟨h, Nat.le_refl _⟩
 | n + 1, st, h => by
  unfold rdMany
  split
  ·have := rdMany_le M n (f st).2 (M st h)
   exact ⟨this.1, by simp only [List.length_cons]; omega⟩
  ·exact ⟨h, by simp⟩
theorem rdMany_err {α : Type} {f : RS → α × RS} {n : Nat} {st : RS} (h : ¬ st.2 = 0) : rdMany f n st = ([], st) := by
 cases n with
 | zero => rfl
 | succ n => rw [rdMany, if_neg h]
theorem rdCount_le {s : List UInt8} {most : Int} {st : RS} (h : st.1 ≤ s.length) : (rdCount s most st).2.1 ≤ s.length := by
 unfold rdCount
 split
 ·exact rdI_le h
 ·exact rdI_le h
theorem rdCount_ok {s : List UInt8} {most : Int} {st : RS} (h : (rdCount s most st).2.2 = 0) : 0 ≤ (rdCount s most st).1 ∧ (rdCount s most st).1 ≤ most := by
 unfold rdCount at *
 split at h
 ·simp at h
 ·next hn =>
  rw [if_neg hn]
  omega
theorem rdList_le {α : Type} {f : RS → α × RS} {s : List UInt8} {most : Nat} (M : ∀ st, st.1 ≤ s.length → (f st).2.1 ≤ s.length) {st : RS} (h : st.1 ≤ s.length) : (rdList f s most st).2.1 ≤ s.length ∧ (rdList f s most st).1.length ≤ most := by
 unfold rdList
 have := rdMany_le M (rdCount s most st).1.toNat (rdCount s most st).2 (rdCount_le h)
 refine ⟨this.1, ?_⟩
 by_cases he : (rdCount s most st).2.2 = 0
 ·have := rdCount_ok he
  omega
 ·rw [rdMany_err he]; simp
theorem rdB_le {s : List UInt8} {st : RS} (h : st.1 ≤ s.length) : (rdB1 s st).2.1 ≤ s.length ∧ (rdB2 s st).2.1 ≤ s.length ∧ (rdB3 s st).2.1 ≤ s.length ∧ (rdB4 s st).2.1 ≤ s.length ∧ (rdB5 s st).2.1 ≤ s.length ∧ (rdB6 s st).2.1 ≤ s.length ∧ (rdB7 s st).2.1 ≤ s.length ∧ (rdB8 s st).2.1 ≤ s.length ∧ (rdB9 s st).2.1 ≤ s.length := by
 have M := rdI_le h
 have O := rdI_le (s := s) M
 have V := (rdT_le (s := s) O).1
 have Z := rdI_le (s := s) V
 have a0 := rdI_le (s := s) Z
 have a1 := rdI_le (s := s) a0
 have a2 := (rdList_le (f := rdI s) (most := 64) (fun st => rdI_le) a1).1
 have a3 := rdI_le (s := s) a2
 have a4 := rdI_le (s := s) a3
 exact ⟨M, O, V, Z, a0, a1, a2, a3, a4⟩
theorem rdBlk_le {s : List UInt8} {st : RS} (h : st.1 ≤ s.length) : (rdBlk s st).2.1 ≤ s.length := (rdB_le h).2.2.2.2.2.2.2.2
theorem rdBlk_fits {s : List UInt8} {st : RS} (h : st.1 ≤ s.length) : (rdBlk s st).1.Fits := by
 obtain ⟨V, M, Z, a0, a1, O, a2, a3, a4⟩ := rdB_le h
 refine ⟨?_, ?_⟩
 ·have := (rdT_le (s := s) M).2
  show (rdB3 s st).1.size ≤ _
  unfold rdB3; omega
 ·have := (rdList_le (f := rdI s) (most := 64) (fun st => rdI_le) O).2
  show (rdB7 s st).1.length ≤ _
  exact Nat.le_trans this (by decide)
theorem drop_next {s x r : List UInt8} {a : Nat} (h : s.drop a = x ++ r) : s.drop (a + x.length) = r := by
 rw [← List.drop_drop, h, List.drop_left]
theorem rdI_fwd {s r : List UInt8} {a : Nat} {n : Int} (hn : okInt n) (h : s.drop a = Wire.enc n ++ r) : rdI s (a, 0) = (n, (a + (Wire.enc n).length, 0)) := by
 simp only [rdI, if_pos]
 rw [h, rdInt_enc hn]
theorem rdT_fwd {s r : List UInt8} {a : Nat} {t : BA} (M : t.size ≤ 65536) (h : s.drop a = encS (bts t) ++ r) : rdT s (a, 0) = (t, (a + (encS (bts t)).length, 0)) := by
 simp only [rdT, if_pos]
 rw [h, rdStr_enc (by rw [bts_len]; exact M)]
theorem rdMany_fwd {α : Type} {f : RS → α × RS} {e : α → List UInt8} {s : List UInt8} : ∀ (l : List α) (a : Nat) (r : List UInt8), (∀ x ∈ l, ∀ a r, s.drop a = e x ++ r → f (a, 0) = (x, (a + (e x).length, 0))) → s.drop a = l.flatMap e ++ r →
  rdMany f l.length (a, 0) = (l, (a + (l.flatMap e).length, 0))
 | [], a, r, hf, h => rfl
 | x :: t, a, r, hf, h => by
  rw [List.flatMap_cons, List.append_assoc] at h
  have M := hf x List.mem_cons_self a _ h
  have O := rdMany_fwd t (a + (e x).length) r (fun y V => hf y (List.mem_cons_of_mem _ V)) (drop_next h)
  rw [List.length_cons, rdMany, if_pos rfl, M, O, List.flatMap_cons, List.length_append, Nat.add_assoc]
theorem rdList_fwd {α : Type} {f : RS → α × RS} {e : α → List UInt8} {s : List UInt8} {l : List α} {a most : Nat} {r : List UInt8} (Z : l.length ≤ most) (hm : most ≤ 65536) (V : ∀ x ∈ l, ∀ a r, s.drop a = e x ++ r → f (a, 0) = (x, (a + (e x).length, 0)))
  (h : s.drop a = Wire.enc (l.length : Int) ++ (l.flatMap e ++ r)) : rdList f s most (a, 0) = (l, (a + ((Wire.enc (l.length : Int)).length + (l.flatMap e).length), 0)) := by
 have M := rdI_fwd (okI (by omega)) h
 have O : rdCount s most (a, 0) = ((l.length : Int), (a + (Wire.enc (l.length : Int)).length, 0)) := by
  rw [rdCount, M, if_neg (by simp only; omega)]
 rw [rdList, O]
 simp only [Int.toNat_natCast]
 rw [rdMany_fwd l _ r V (drop_next h), Nat.add_assoc]
theorem rdBlk_fwd {s r : List UInt8} {a : Nat} {b : Blk} (M : b.Good) (h : s.drop a = b.enc ++ r) : rdBlk s (a, 0) = (b, (a + b.enc.length, 0)) := by
 have c7 := M.id; have c8 := M.kind; have c9 := M.text; have d0 := M.story; have d1 := M.ref; have d2 := M.unt; have d3 := M.appr; have d4 := M.den; have d5 := M.len
 unfold Blk.enc at h
 simp only [List.append_assoc] at h
 have b4 := rdI_fwd (okI (by omega)) h; have V := drop_next h
 have b5 := rdI_fwd (okI (by omega)) V; have Z := drop_next V
 have b6 := rdT_fwd (by omega) Z; have a0 := drop_next Z
 have b7 := rdI_fwd (okI (by omega)) a0; have a1 := drop_next a0
 have b8 := rdI_fwd (okI (by omega)) a1; have a2 := drop_next a1
 have b9 := rdI_fwd (okI (by omega)) a2; have a3 := drop_next a2
 have c2 := rdList_fwd (f := rdI s) (e := Wire.enc) (most := 64) (l := b.lab.after) (by omega) (by omega) (fun x c5 a r h => rdI_fwd (okI (by have := M.after x c5; omega)) h) a3
 have O := drop_next (drop_next a3)
 rw [Nat.add_assoc] at O
 have c3 := rdI_fwd (okI (by omega)) O; have b3 := drop_next O
 have c4 := rdI_fwd (okI (by omega)) b3
 have a4 : rdB1 s (a, 0) = _ := b4
 have a5 : rdB2 s (a, 0) = _ := (congrArg (fun x : (Int) × RS => rdI s x.2) a4).trans b5
 have a6 : rdB3 s (a, 0) = _ := (congrArg (fun x : (Int) × RS => rdT s x.2) a5).trans b6
 have a7 : rdB4 s (a, 0) = _ := (congrArg (fun x : (BA) × RS => rdI s x.2) a6).trans b7
 have a8 : rdB5 s (a, 0) = _ := (congrArg (fun x : (Int) × RS => rdI s x.2) a7).trans b8
 have a9 : rdB6 s (a, 0) = _ := (congrArg (fun x : (Int) × RS => rdI s x.2) a8).trans b9
 have b0 : rdB7 s (a, 0) = _ := (congrArg (fun x : (Int) × RS => rdList (rdI s) s 64 x.2) a9).trans c2
 have b1 : rdB8 s (a, 0) = _ := (congrArg (fun x : (List Int) × RS => rdI s x.2) b0).trans c3
 have c6 : rdB9 s (a, 0) = _ := (congrArg (fun x : (Int) × RS => rdI s x.2) b1).trans c4
 rw [rdBlk, a4, a5, a6, a7, a8, a9, b0, b1, c6]
 simp only [Prod.mk.injEq, and_true, true_and]
 unfold Blk.enc
 simp only [List.length_append]
 have : encIs b.lab.after = b.lab.after.flatMap Wire.enc := rfl
 omega
theorem decRun_fwd {l : List Blk} (h : listOk l = true) (r : List UInt8) : decRun (encL l ++ r) = (l, ((encL l).length, 0)) := by
 obtain ⟨M, O⟩ := listOk_all h
 have := rdList_fwd (f := rdBlk (encL l ++ r)) (e := Blk.enc) (s := encL l ++ r) (a := 0) (l := l) (most := 24) (r := r) M (by omega) (fun b V a r h => rdBlk_fwd (Blk.good (O b V)) h) (by rw [List.drop_zero, encL, encBs, List.append_assoc])
 rw [decRun]
 refine this.trans ?_
 rw [Nat.zero_add, encL, List.length_append]; rfl
theorem dec_enc {l : List Blk} (h : listOk l = true) : decSpec (encL l) = (l, 0) := by
 have := decRun_fwd h []
 rw [List.append_nil] at this
 rw [decSpec, this, if_neg (by simp), if_neg (by simp), if_pos h]
theorem rdI_inv {s : List UInt8} {st : RS} (h : (rdI s st).2.2 = 0) : st.2 = 0 ∧ okInt (rdI s st).1 ∧ s.drop st.1 = Wire.enc (rdI s st).1 ++ s.drop (rdI s st).2.1 := by
 unfold rdI at *
 split at h
 ·next he =>
  split at h
  ·simp at h
  ·next n k hr =>
   rw [if_pos he]
   have M := rdInt_split hr
   rw [List.drop_drop] at M
   exact ⟨he, (rdInt_inv hr).1, M⟩
 ·next he => exact absurd h he
theorem rdT_inv {s : List UInt8} {st : RS} (h : (rdT s st).2.2 = 0) : st.2 = 0 ∧ s.drop st.1 = encS (bts (rdT s st).1) ++ s.drop (rdT s st).2.1 := by
 unfold rdT at *
 split at h
 ·next he =>
  split at h
  ·simp at h
  ·next n k hr =>
   rw [if_pos he]
   have M := rdStr_split hr
   rw [List.drop_drop] at M
   refine ⟨he, ?_⟩
   simp only [bts_mk]
   exact M
 ·next he => exact absurd h he
theorem rdMany_inv {α : Type} {f : RS → α × RS} {e : α → List UInt8} {s : List UInt8} (O : ∀ st, (f st).2.2 = 0 → st.2 = 0 ∧ s.drop st.1 = e (f st).1 ++ s.drop (f st).2.1) : ∀ (n : Nat) (st : RS), (rdMany f n st).2.2 = 0 →
  st.2 = 0 ∧ (rdMany f n st).1.length = n ∧ s.drop st.1 = (rdMany f n st).1.flatMap e ++ s.drop (rdMany f n st).2.1
 | 0, st, h => ⟨h, rfl, rfl⟩
 | n + 1, st, h => by
  unfold rdMany at *
  split at h
  ·next he =>
   rw [if_pos he]
   have M := rdMany_inv O n (f st).2 h
   have V := O st M.1
   refine ⟨he, by simp only [List.length_cons]; rw [M.2.1], ?_⟩
   simp only [List.flatMap_cons]
   rw [List.append_assoc, ← M.2.2]
   exact V.2
  ·next he => exact absurd h he
theorem rdList_inv {α : Type} {f : RS → α × RS} {e : α → List UInt8} {s : List UInt8} {most : Int} (a0 : ∀ st, (f st).2.2 = 0 → st.2 = 0 ∧ s.drop st.1 = e (f st).1 ++ s.drop (f st).2.1) {st : RS} (h : (rdList f s most st).2.2 = 0) :
  st.2 = 0 ∧ s.drop st.1 = Wire.enc ((rdList f s most st).1.length : Int) ++ ((rdList f s most st).1.flatMap e ++ s.drop (rdList f s most st).2.1) := by
 unfold rdList at *
 have M := rdMany_inv a0 _ _ h
 have O := rdCount_ok M.1
 have Z : rdCount s most st = rdI s st := by
  unfold rdCount at M ⊢
  split
  ·next hc => rw [if_pos hc] at M; simp at M
  ·rfl
 rw [Z] at M O ⊢
 have V := rdI_inv M.1
 refine ⟨V.1, ?_⟩
 rw [M.2.1, Int.toNat_of_nonneg O.1, ← M.2.2]
 exact V.2.2
theorem rdBlk_inv {s : List UInt8} {st : RS} (h : (rdBlk s st).2.2 = 0) : st.2 = 0 ∧ s.drop st.1 = (rdBlk s st).1.enc ++ s.drop (rdBlk s st).2.1 := by
 have b3 : (rdI s (rdB8 s st).2).2.2 = 0 := h
 have a3 := rdI_inv b3
 have a2 := rdI_inv (s := s) (st := (rdB7 s st).2) a3.1
 have a1 := rdList_inv (e := Wire.enc) (f := rdI s) (most := 64) (fun st h => ⟨(rdI_inv h).1, (rdI_inv h).2.2⟩) (st := (rdB6 s st).2) a2.1
 have a0 := rdI_inv (s := s) (st := (rdB5 s st).2) a1.1
 have Z := rdI_inv (s := s) (st := (rdB4 s st).2) a0.1
 have V := rdI_inv (s := s) (st := (rdB3 s st).2) Z.1
 have O := rdT_inv (s := s) (st := (rdB2 s st).2) V.1
 have M := rdI_inv (s := s) (st := (rdB1 s st).2) O.1
 have k1 := rdI_inv (s := s) (st := st) M.1
 refine ⟨k1.1, ?_⟩
 have e1 : s.drop st.1 = Wire.enc (rdB1 s st).1 ++ s.drop (rdB1 s st).2.1 := k1.2.2
 have a4 : s.drop (rdB1 s st).2.1 = Wire.enc (rdB2 s st).1 ++ s.drop (rdB2 s st).2.1 := M.2.2
 have a5 : s.drop (rdB2 s st).2.1 = encS (bts (rdB3 s st).1) ++ s.drop (rdB3 s st).2.1 := O.2
 have a6 : s.drop (rdB3 s st).2.1 = Wire.enc (rdB4 s st).1 ++ s.drop (rdB4 s st).2.1 := V.2.2
 have a7 : s.drop (rdB4 s st).2.1 = Wire.enc (rdB5 s st).1 ++ s.drop (rdB5 s st).2.1 := Z.2.2
 have a8 : s.drop (rdB5 s st).2.1 = Wire.enc (rdB6 s st).1 ++ s.drop (rdB6 s st).2.1 := a0.2.2
 have a9 : s.drop (rdB6 s st).2.1 = Wire.enc ((rdB7 s st).1.length : Int) ++ ((rdB7 s st).1.flatMap Wire.enc ++ s.drop (rdB7 s st).2.1) := a1.2
 have b0 : s.drop (rdB7 s st).2.1 = Wire.enc (rdB8 s st).1 ++ s.drop (rdB8 s st).2.1 := a2.2.2
 have b1 : s.drop (rdB8 s st).2.1 = Wire.enc (rdB9 s st).1 ++ s.drop (rdB9 s st).2.1 := a3.2.2
 rw [e1, a4, a5, a6, a7, a8, a9, b0, b1]
 unfold Blk.enc rdBlk
 simp only [List.append_assoc]; rfl
theorem decRun_inv {s : List UInt8} (h : (decRun s).2.2 = 0) : s = encL (decRun s).1 ++ s.drop (decRun s).2.1 := by
 have := (rdList_inv (e := Blk.enc) (f := rdBlk s) (s := s) (most := 24) (fun st h => rdBlk_inv h) (st := (0, 0)) h).2
 rw [List.drop_zero] at this
 rw [encL, encBs, List.append_assoc]
 exact this
theorem enc_dec {s : List UInt8} {l : List Blk} (h : decSpec s = (l, 0)) : listOk l = true ∧ encL l = s := by
 unfold decSpec at h
 split at h
 ·next h1 =>
  simp only [Prod.mk.injEq] at h
  exact absurd h.2 h1
 ·next h1 =>
  split at h
  ·simp at h
  ·next h2 =>
   split at h
   ·next h3 =>
    simp only [Prod.mk.injEq, and_true] at h
    subst h
    have M := decRun_inv (Decidable.not_not.1 h1)
    rw [List.drop_of_length_le (by omega), List.append_nil] at M
    exact ⟨h3, M.symm⟩
   ·simp at h
theorem rdI_err {s : List UInt8} {st : RS} (h : ¬ st.2 = 0) : (rdI s st).2 = st := by rw [rdI, if_neg h]
theorem rdT_err {s : List UInt8} {st : RS} (h : ¬ st.2 = 0) : (rdT s st).2 = st := by rw [rdT, if_neg h]
theorem decode_len (s : List UInt8) : (decSpec s).1.length ≤ 24 := by
 have h := (rdList_le (f := rdBlk s) (s := s) (most := 24) (fun _ => rdBlk_le) (st := (0, 0)) (Nat.zero_le _)).2
 have M : (decRun s).1.length ≤ 24 := h
 unfold decSpec
 split
 ·exact Nat.zero_le _
 ·split
  ·exact Nat.zero_le _
  ·split
   ·exact M
   ·exact Nat.zero_le _
abbrev e0 : BA := ⟨#[]⟩
def Lab.zero : Lab := ⟨0, [], 0, 0⟩
def Fct.zero : Fct := ⟨0, 0, 0, 0, e0, 0, 0, e0, e0, [], [], Lab.zero, 0, 0, 0, e0, e0, 0, 0, 0⟩
inductive Fld where
 | n | time | kind | story | lang | rev | base | title | author | topics | blocks | label | editor | block | sentence | text | name | partner | cls | unt
deriving DecidableEq
inductive FTy where
 | int | str | topics | blocks | label
deriving DecidableEq
def Fld.ty : Fld → FTy
 | .n | .time | .kind | .story | .rev | .base | .editor | .block | .sentence | .partner | .cls | .unt => .int
 | .lang | .title | .author | .text | .name => .str
 | .topics => .topics
 | .blocks => .blocks
 | .label => .label
def Fld.off : Fld → Nat
 | .n => 0 | .time => 1 | .kind => 2 | .story => 3 | .lang => 4 | .rev => 5 | .base => 6 | .title => 7 | .author => 8 | .topics => 9 | .blocks => 10 | .label => 11
 | .editor => 15 | .block => 16 | .sentence => 17 | .text => 18 | .name => 19 | .partner => 20 | .cls => 21 | .unt => 22
abbrev FTy.T : FTy → Type
 | .int => Int
 | .str => BA
 | .topics => List BA
 | .blocks => List Blk
 | .label => Lab
def Fct.get (f : Fct) : (x : Fld) → x.ty.T
 | .n => f.n | .time => f.time | .kind => f.kind | .story => f.story | .lang => f.lang | .rev => f.rev | .base => f.base | .title => f.title | .author => f.author
 | .topics => f.topics | .blocks => f.blocks | .label => f.lab | .editor => f.editor | .block => f.block | .sentence => f.sentence | .text => f.text | .name => f.name | .partner => f.partner | .cls => f.cls | .unt => f.unt
def Fct.set (f : Fct) : (x : Fld) → x.ty.T → Fct
 | .n, v => { f with n := v } | .time, v => { f with time := v } | .kind, v => { f with kind := v } | .story, v => { f with story := v } | .lang, v => { f with lang := v }
 | .rev, v => { f with rev := v } | .base, v => { f with base := v } | .title, v => { f with title := v } | .author, v => { f with author := v } | .topics, v => { f with topics := v }
 | .blocks, v => { f with blocks := v } | .label, v => { f with lab := v } | .editor, v => { f with editor := v } | .block, v => { f with block := v } | .sentence, v => { f with sentence := v }
 | .text, v => { f with text := v } | .name, v => { f with name := v } | .partner, v => { f with partner := v } | .cls, v => { f with cls := v } | .unt, v => { f with unt := v }
theorem Fct.get_set (f : Fct) (x : Fld) (v : x.ty.T) : (f.set x v).get x = v := by cases x <;> rfl
theorem Fct.get_set_ne (f : Fct) {x y : Fld} (h : x ≠ y) (v : x.ty.T) : (f.set x v).get y = f.get y := by
 cases x <;> cases y <;> first | rfl | exact absurd rfl h
theorem Fct.ext_get {f g : Fct} (h : ∀ x, f.get x = g.get x) : f = g := by
 have M := h .n; have O := h .time; have a8 := h .kind; have a9 := h .story; have b0 := h .lang; have b1 := h .rev; have b3 := h .base; have b4 := h .title; have b5 := h .author
 have b6 := h .topics; have V := h .blocks; have Z := h .label; have a0 := h .editor; have a1 := h .block; have a2 := h .sentence; have a3 := h .text; have a4 := h .name; have a5 := h .partner; have a6 := h .cls; have a7 := h .unt
 cases f; cases g
 simp only [Fct.get] at *
 subst M O a8 a9 b0 b1 b3 b4 b5 b6 V Z a0 a1 a2 a3 a4 a5 a6 a7
 rfl
def kfields (k : Int) : List Fld :=
 if k = 1 then [.story, .lang, .rev, .base, .title, .author, .topics, .blocks, .label]
 else if k = 2 then [.story, .editor]
 else if k = 3 then [.story, .label]
 else if k = 4 then [.story, .lang, .block, .sentence, .text]
 else if k = 5 then [.story, .text]
 else if k = 6 then [.story]
 else if k = 7 then [.name, .text]
 else if k = 8 then [.partner, .cls, .unt]
 else if k = 9 then [.partner, .unt]
 else if k = 10 then [.story]
 else []
theorem kfields_facts (k : Int) : (kfields k).Nodup ∧ Fld.n ∉ kfields k ∧ Fld.time ∉ kfields k ∧ Fld.kind ∉ kfields k := by
 unfold kfields
 repeat' split
 all_goals decide
def Fct.bare (n time kind : Int) : Fct := { Fct.zero with n := n, time := time, kind := kind }
def Fct.used (f : Fct) : Fct := (kfields f.kind).foldl (fun g x => g.set x (f.get x)) (Fct.bare f.n f.time f.kind)
def srcB (b : Int) : Bool := decide (b = 10) || txtB b
def srcOk (s : BA) : Bool := decide (s.size ≤ 1000) && scan s srcB 0
def tLe (a b : BA) : Bool := Op.bytesLess a.toList b.toList || (a.toList == b.toList)
def tAfter : Option BA → BA → Bool
 | none, _ => true
 | some a, t => !tLe t a
def topicsGo : Option BA → List BA → Bool
 | _, [] => true
 | last, t :: r => nameOk t && (tAfter last t && topicsGo (some t) r)
def topicsOk (l : List BA) : Bool := decide (l.length ≤ 4) && topicsGo none l
def Fct.rvOk (f : Fct) : Bool := nameOk f.lang && (decide (1 ≤ f.rev ∧ f.rev ≤ 100) && (decide (0 ≤ f.base ∧ f.base ≤ f.rev - 1) && (fillOk f.title && (nameOk f.author && (topicsOk f.topics && (listOk f.blocks && f.lab.ok))))))
def Fct.coOk (f : Fct) : Bool := nameOk f.lang && (decide (1 ≤ f.block ∧ f.block ≤ 1000) && (decide (0 ≤ f.sentence ∧ f.sentence ≤ 299) && fillOk f.text))
def Fct.stOk (f : Fct) : Bool := decide (1 ≤ f.story ∧ f.story ≤ 64)
def Fct.paOk (f : Fct) : Bool := decide (1 ≤ f.partner ∧ f.partner ≤ 8 ∧ 0 ≤ f.unt ∧ f.unt ≤ 1000000000)
def Fct.vals (f : Fct) : Bool :=
 if f.kind = 1 then f.stOk && f.rvOk
 else if f.kind = 2 then f.stOk && decide (1 ≤ f.editor ∧ f.editor ≤ 5)
 else if f.kind = 3 then f.stOk && f.lab.ok
 else if f.kind = 4 then f.stOk && f.coOk
 else if f.kind = 5 then f.stOk && fillOk f.text
 else if f.kind = 6 then f.stOk
 else if f.kind = 7 then nameOk f.name && srcOk f.text
 else if f.kind = 8 then f.paOk && decide (0 ≤ f.cls ∧ f.cls ≤ 3)
 else if f.kind = 9 then f.paOk
 else if f.kind = 10 then f.stOk
 else false
def Fct.ok (f : Fct) : Bool := decide (0 ≤ f.n ∧ f.n ≤ 500 ∧ 0 ≤ f.time ∧ f.time ≤ 1000000000) && (f.vals && decide (f = f.used))
def putV : (t : FTy) → t.T → List UInt8
 | .int, n => Wire.enc n
 | .str, s => encS (bts s)
 | .topics, l => Wire.enc (l.length : Int) ++ l.flatMap fun s : BA => encS (bts s)
 | .blocks, l => encS (encL l)
 | .label, l => Wire.enc l.unt ++ (Wire.enc (l.after.length : Int) ++ (l.after.flatMap Wire.enc ++ (Wire.enc l.appr ++ Wire.enc l.den)))
def Fct.put (f : Fct) (x : Fld) : List UInt8 := putV x.ty (f.get x)
def Fct.head (f : Fct) : List UInt8 := Wire.enc f.n ++ (Wire.enc f.time ++ Wire.enc f.kind)
def encF (f : Fct) : List UInt8 := f.head ++ (kfields f.kind).flatMap f.put
def vOk : (t : FTy) → t.T → Prop
 | .int, n => okInt n
 | .str, s => s.size ≤ 65536
 | .topics, (l : List BA) => l.length ≤ 4 ∧ ∀ s ∈ l, s.size ≤ 65536
 | .blocks, l => listOk l = true
 | .label, l => okInt l.unt ∧ l.after.length ≤ 64 ∧ (∀ x ∈ l.after, okInt x) ∧ okInt l.appr ∧ okInt l.den
def fcnt (s : List UInt8) (most : Int) (st : RS) : Int × RS :=
 if (rdI s st).2.2 = 0 ∧ ((rdI s st).1 < 0 ∨ most < (rdI s st).1) then ((rdI s st).1, ((rdI s st).2.1, 50)) else rdI s st
def flist {α : Type} (f : RS → α × RS) (s : List UInt8) (most : Int) (st : RS) : List α × RS := rdMany f (fcnt s most st).1.toNat (fcnt s most st).2
def rdBlks (s : List UInt8) (st : RS) : List Blk × RS :=
 if (rdT s st).2.2 = 0 then (if (decSpec (bts (rdT s st).1)).2 = 0 then ((decSpec (bts (rdT s st).1)).1, (rdT s st).2) else ([], ((rdT s st).2.1, 50))) else ([], (rdT s st).2)
def rdL1 (s : List UInt8) (st : RS) := rdI s st
def rdL2 (s : List UInt8) (st : RS) := flist (rdI s) s 64 (rdL1 s st).2
def rdL3 (s : List UInt8) (st : RS) := rdI s (rdL2 s st).2
def rdL4 (s : List UInt8) (st : RS) := rdI s (rdL3 s st).2
def rdLab (s : List UInt8) (st : RS) : Lab × RS := (⟨(rdL1 s st).1, (rdL2 s st).1, (rdL3 s st).1, (rdL4 s st).1⟩, (rdL4 s st).2)
def rdV (s : List UInt8) : (t : FTy) → RS → t.T × RS
 | .int, st => rdI s st
 | .str, st => rdT s st
 | .topics, st => flist (rdT s) s 4 st
 | .blocks, st => rdBlks s st
 | .label, st => rdLab s st
def rdFld (s : List UInt8) (r : Fct × RS) (x : Fld) : Fct × RS := (r.1.set x (rdV s x.ty r.2).1, (rdV s x.ty r.2).2)
def rdH1 (s : List UInt8) := rdI s (0, 0)
def rdH2 (s : List UInt8) := rdI s (rdH1 s).2
def rdH3 (s : List UInt8) := rdI s (rdH2 s).2
def rdKind (s : List UInt8) : RS := if (rdH3 s).2.2 = 0 ∧ kfields (rdH3 s).1 = [] then ((rdH3 s).2.1, 50) else (rdH3 s).2
def decFRun (s : List UInt8) : Fct × RS := (kfields (rdH3 s).1).foldl (rdFld s) (Fct.bare (rdH1 s).1 (rdH2 s).1 (rdH3 s).1, rdKind s)
def decF (s : List UInt8) : Fct × Int :=
 if ¬ (decFRun s).2.2 = 0 then (Fct.zero, (decFRun s).2.2) else if (decFRun s).2.1 < s.length then (Fct.zero, 10) else if (decFRun s).1.ok = true then ((decFRun s).1, 0) else (Fct.zero, 50)
theorem encL_le {l : List Blk} (h : listOk l = true) : (encL l).length ≤ 30000 := by
 have M := encBs_len l (listOk_all h).2
 have O := (listOk_all h).1
 have V := enc_len (l.length : Int)
 rw [encL, List.length_append]; omega
theorem flist_fwd {α : Type} {f : RS → α × RS} {e : α → List UInt8} {s : List UInt8} {l : List α} {a most : Nat} {r : List UInt8} (Z : l.length ≤ most) (hm : most ≤ 65536) (V : ∀ x ∈ l, ∀ a r, s.drop a = e x ++ r → f (a, 0) = (x, (a + (e x).length, 0)))
  (h : s.drop a = Wire.enc (l.length : Int) ++ (l.flatMap e ++ r)) : flist f s most (a, 0) = (l, (a + ((Wire.enc (l.length : Int)).length + (l.flatMap e).length), 0)) := by
 have M := rdI_fwd (okI (by omega)) h
 have O : fcnt s most (a, 0) = ((l.length : Int), (a + (Wire.enc (l.length : Int)).length, 0)) := by
  rw [fcnt, M, if_neg (by simp only; omega)]
 rw [flist, O]
 simp only [Int.toNat_natCast]
 rw [rdMany_fwd l _ r V (drop_next h), Nat.add_assoc]
theorem rdV_fwd {s r : List UInt8} {a : Nat} : ∀ {t : FTy} {v : t.T}, vOk t v → s.drop a = putV t v ++ r → rdV s t (a, 0) = (v, (a + (putV t v).length, 0))
 | .int, n, hn, h => rdI_fwd hn h
 | .str, v, hv, h => rdT_fwd hv h
 | .topics, l, hl, h => by
  have a4 : s.drop a = Wire.enc (l.length : Int) ++ ((l.flatMap fun s : BA => encS (bts s)) ++ r) := by rw [← List.append_assoc]; exact h
  have := flist_fwd (f := rdT s) (e := fun s : BA => encS (bts s)) (most := 4) hl.1 (by omega) (fun x V a r h => rdT_fwd (hl.2 x V) h) a4
  refine this.trans ?_
  simp only [putV, List.length_append]
 | .blocks, l, hl, h => by
  have O : rdT s (a, 0) = (ba (encL l), (a + (encS (encL l)).length, 0)) := by
   have := rdT_fwd (s := s) (r := r) (a := a) (t := ba (encL l)) (by rw [ba_size]; have := encL_le hl; omega) (by rw [bts_mk]; exact h)
   rw [bts_mk] at this
   exact this
  show rdBlks s (a, 0) = _
  rw [rdBlks, O, if_pos rfl, bts_mk, dec_enc hl, if_pos rfl]
  rfl
 | .label, l, ⟨O, h2, h3, h4, h5⟩, h => by
  have h : s.drop a = Wire.enc l.unt ++ (Wire.enc (l.after.length : Int) ++ (l.after.flatMap Wire.enc ++ (Wire.enc l.appr ++ (Wire.enc l.den ++ r)))) := by rw [h]; simp only [putV, List.append_assoc]
  have k1 := rdI_fwd O h; have Z := drop_next h
  have a5 := flist_fwd (f := rdI s) (e := Wire.enc) (most := 64) h2 (by omega) (fun x V a r h => rdI_fwd (h3 x V) h) Z
  have M := drop_next (drop_next Z)
  rw [Nat.add_assoc] at M
  have a6 := rdI_fwd h4 M; have a3 := drop_next M
  have a7 := rdI_fwd h5 a3
  have a0 : rdL1 s (a, 0) = _ := k1
  have a1 : rdL2 s (a, 0) = _ := (congrArg (fun x : (Int) × RS => flist (rdI s) s 64 x.2) a0).trans a5
  have a2 : rdL3 s (a, 0) = _ := (congrArg (fun x : (List Int) × RS => rdI s x.2) a1).trans a6
  have a8 : rdL4 s (a, 0) = _ := (congrArg (fun x : (Int) × RS => rdI s x.2) a2).trans a7
  show rdLab s (a, 0) = _
  rw [rdLab, a0, a1, a2, a8]
  simp only [Prod.mk.injEq, and_true, putV, List.length_append]
  refine ⟨trivial, by omega⟩
theorem fold_fwd {s : List UInt8} {f : Fct} : ∀ (l : List Fld) (g : Fct) (a : Nat) (r : List UInt8), (∀ x ∈ l, vOk x.ty (f.get x)) → s.drop a = l.flatMap f.put ++ r →
  l.foldl (rdFld s) (g, (a, 0)) = (l.foldl (fun g x => g.set x (f.get x)) g, (a + (l.flatMap f.put).length, 0))
 | [], g, a, r, _, h => rfl
 | x :: l, g, a, r, hv, h => by
  rw [List.flatMap_cons, List.append_assoc] at h
  have M := rdV_fwd (hv x List.mem_cons_self) h
  have O : rdFld s (g, (a, 0)) x = (g.set x (f.get x), (a + (f.put x).length, 0)) := by rw [rdFld, M]; rfl
  rw [List.foldl_cons, O, fold_fwd l _ _ r (fun y V => hv y (List.mem_cons_of_mem _ V)) (drop_next h), List.flatMap_cons, List.length_append, Nat.add_assoc]
  rfl
theorem Lab.ok_vOk {l : Lab} (h : l.ok = true) : vOk .label l := by
 simp only [Lab.ok, Bool.and_eq_true, decide_eq_true_eq] at h
 obtain ⟨a0, O⟩ := h
 obtain ⟨Z, M⟩ := asc_spec _ _ O (by omega) (by omega)
 exact ⟨okI (by omega), by omega, fun x V => okI (by have := M x V; omega), okI (by omega), okI (by omega)⟩
theorem nameOk_sz {s : BA} (h : nameOk s = true) : s.size ≤ 20 := by
 simp only [nameOk, Bool.and_eq_true, decide_eq_true_eq] at h; omega
theorem fillOk_sz {s : BA} (h : fillOk s = true) : s.size ≤ 300 := by
 simp only [fillOk, txtOk, Bool.and_eq_true, decide_eq_true_eq] at h; omega
theorem srcOk_sz {s : BA} (h : srcOk s = true) : s.size ≤ 1000 := by
 simp only [srcOk, Bool.and_eq_true, decide_eq_true_eq] at h; omega
theorem topicsGo_all : ∀ (l : List BA) (last : Option BA), topicsGo last l = true → ∀ s ∈ l, nameOk s = true
 | [], _, _, _, hb => by cases hb
 | t :: r, last, h, s, hs => by
  simp only [topicsGo, Bool.and_eq_true] at h
  rcases List.mem_cons.1 hs with rfl | hs
  ·exact h.1
  ·exact topicsGo_all r (some t) h.2.2 s hs
theorem topicsOk_all {l : List BA} (h : topicsOk l = true) : l.length ≤ 4 ∧ ∀ s ∈ l, nameOk s = true := by
 simp only [topicsOk, Bool.and_eq_true, decide_eq_true_eq] at h
 exact ⟨h.1, topicsGo_all l none h.2⟩
theorem vals_kind {f : Fct} (h : f.vals = true) : 1 ≤ f.kind ∧ f.kind ≤ 10 := by
 unfold Fct.vals at h
 repeat' split at h
 all_goals first | omega | simp at h
theorem kfields_pos {k : Int} (h : 1 ≤ k ∧ k ≤ 10) : kfields k ≠ [] := by
 unfold kfields
 repeat' split
 all_goals first | omega | simp
theorem vals_vOk {f : Fct} (h : f.vals = true) : ∀ x ∈ kfields f.kind, vOk x.ty (f.get x) := by
 have M := vals_kind h
 have M : f.kind = 1 ∨ f.kind = 2 ∨ f.kind = 3 ∨ f.kind = 4 ∨ f.kind = 5 ∨ f.kind = 6 ∨ f.kind = 7 ∨ f.kind = 8 ∨ f.kind = 9 ∨ f.kind = 10 := by omega
 have I : ∀ {n : Int}, (0 ≤ n ∧ n ≤ 1000000000) → okInt n := fun h => okI (by omega)
 have N : ∀ {s : BA}, nameOk s = true → s.size ≤ 65536 := fun h => by have := nameOk_sz h; omega
 have F : ∀ {s : BA}, fillOk s = true → s.size ≤ 65536 := fun h => by have := fillOk_sz h; omega
 rcases M with M | M | M | M | M | M | M | M | M | M
 ·have e : kfields f.kind = [.story, .lang, .rev, .base, .title, .author, .topics, .blocks, .label] := by rw [M]; rfl
  have O : f.vals = (f.stOk && f.rvOk) := by unfold Fct.vals; rw [if_pos M]
  rw [O] at h
  simp only [Fct.stOk, Fct.rvOk, Bool.and_eq_true, decide_eq_true_eq] at h
  obtain ⟨a1, V, a2, a3, Z, a4, a5, a6, a7⟩ := h
  have a0 := topicsOk_all a5
  rw [e]
  simp only [List.forall_mem_cons]
  exact ⟨I (by simp only [Fct.get]; omega), N V, I (by simp only [Fct.get]; omega), I (by simp only [Fct.get]; omega), F Z, N a4, ⟨a0.1, fun s a8 => N (a0.2 s a8)⟩, a6, Lab.ok_vOk a7, by simp⟩
 ·have e : kfields f.kind = [.story, .editor] := by rw [M]; rfl
  have O : f.vals = (f.stOk && decide (1 ≤ f.editor ∧ f.editor ≤ 5)) := by unfold Fct.vals; simp only [M, reduceIte, Int.reduceEq]
  rw [O] at h
  simp only [Fct.stOk, Bool.and_eq_true, decide_eq_true_eq] at h
  rw [e]
  simp only [List.forall_mem_cons]
  exact ⟨I (by simp only [Fct.get]; omega), I (by simp only [Fct.get]; omega), by simp⟩
 ·have e : kfields f.kind = [.story, .label] := by rw [M]; rfl
  have O : f.vals = (f.stOk && f.lab.ok) := by unfold Fct.vals; simp only [M, reduceIte, Int.reduceEq]
  rw [O] at h
  simp only [Fct.stOk, Bool.and_eq_true, decide_eq_true_eq] at h
  rw [e]
  simp only [List.forall_mem_cons]
  exact ⟨I (by simp only [Fct.get]; omega), Lab.ok_vOk h.2, by simp⟩
 ·have e : kfields f.kind = [.story, .lang, .block, .sentence, .text] := by rw [M]; rfl
  have O : f.vals = (f.stOk && f.coOk) := by unfold Fct.vals; simp only [M, reduceIte, Int.reduceEq]
  rw [O] at h
  simp only [Fct.stOk, Fct.coOk, Bool.and_eq_true, decide_eq_true_eq] at h
  obtain ⟨a1, V, a2, a3, Z⟩ := h
  rw [e]
  simp only [List.forall_mem_cons]
  exact ⟨I (by simp only [Fct.get]; omega), N V, I (by simp only [Fct.get]; omega), I (by simp only [Fct.get]; omega), F Z, by simp⟩
 ·have e : kfields f.kind = [.story, .text] := by rw [M]; rfl
  have O : f.vals = (f.stOk && fillOk f.text) := by unfold Fct.vals; simp only [M, reduceIte, Int.reduceEq]
  rw [O] at h
  simp only [Fct.stOk, Bool.and_eq_true, decide_eq_true_eq] at h
  rw [e]
  simp only [List.forall_mem_cons]
  exact ⟨I (by simp only [Fct.get]; omega), F h.2, by simp⟩
 ·have e : kfields f.kind = [.story] := by rw [M]; rfl
  have O : f.vals = f.stOk := by unfold Fct.vals; simp only [M, reduceIte, Int.reduceEq]
  rw [O] at h
  simp only [Fct.stOk, decide_eq_true_eq] at h
  rw [e]
  simp only [List.forall_mem_cons]
  exact ⟨I (by simp only [Fct.get]; omega), by simp⟩
 ·have e : kfields f.kind = [.name, .text] := by rw [M]; rfl
  have O : f.vals = (nameOk f.name && srcOk f.text) := by unfold Fct.vals; simp only [M, reduceIte, Int.reduceEq]
  rw [O] at h
  simp only [Bool.and_eq_true] at h
  rw [e]
  simp only [List.forall_mem_cons]
  exact ⟨N h.1, Nat.le_trans (srcOk_sz h.2) (by decide), by simp⟩
 ·have e : kfields f.kind = [.partner, .cls, .unt] := by rw [M]; rfl
  have O : f.vals = (f.paOk && decide (0 ≤ f.cls ∧ f.cls ≤ 3)) := by unfold Fct.vals; simp only [M, reduceIte, Int.reduceEq]
  rw [O] at h
  simp only [Fct.paOk, Bool.and_eq_true, decide_eq_true_eq] at h
  rw [e]
  simp only [List.forall_mem_cons]
  exact ⟨I (by simp only [Fct.get]; omega), I (by simp only [Fct.get]; omega), I (by simp only [Fct.get]; omega), by simp⟩
 ·have e : kfields f.kind = [.partner, .unt] := by rw [M]; rfl
  have O : f.vals = f.paOk := by unfold Fct.vals; simp only [M, reduceIte, Int.reduceEq]
  rw [O] at h
  simp only [Fct.paOk, decide_eq_true_eq] at h
  rw [e]
  simp only [List.forall_mem_cons]
  exact ⟨I (by simp only [Fct.get]; omega), I (by simp only [Fct.get]; omega), by simp⟩
 ·have e : kfields f.kind = [.story] := by rw [M]; rfl
  have O : f.vals = f.stOk := by unfold Fct.vals; simp only [M, reduceIte, Int.reduceEq]
  rw [O] at h
  simp only [Fct.stOk, decide_eq_true_eq] at h
  rw [e]
  simp only [List.forall_mem_cons]
  exact ⟨I (by simp only [Fct.get]; omega), by simp⟩
structure Fct.Good (f : Fct) : Prop where
 n : 0 ≤ f.n ∧ f.n ≤ 500
 time : 0 ≤ f.time ∧ f.time ≤ 1000000000
 kind : 1 ≤ f.kind ∧ f.kind ≤ 10
 vals : f.vals = true
 fields : ∀ x ∈ kfields f.kind, vOk x.ty (f.get x)
 used : f = f.used
theorem Fct.good {f : Fct} (h : f.ok = true) : f.Good := by
 simp only [Fct.ok, Bool.and_eq_true, decide_eq_true_eq] at h
 obtain ⟨V, M, O⟩ := h
 exact ⟨by omega, by omega, vals_kind M, M, vals_vOk M, O⟩
theorem decFRun_fwd {f : Fct} (h : f.ok = true) (r : List UInt8) : decFRun (encF f ++ r) = (f, ((encF f).length, 0)) := by
 have g := Fct.good h
 have hn := g.n; have b0 := g.time; have a7 := g.kind
 generalize hs : encF f ++ r = s
 have V : s.drop 0 = Wire.enc f.n ++ (Wire.enc f.time ++ (Wire.enc f.kind ++ ((kfields f.kind).flatMap f.put ++ r))) := by
  rw [← hs, List.drop_zero, encF, Fct.head]; simp only [List.append_assoc]
 have a2 := rdI_fwd (okI (by omega)) V; have M := drop_next V
 have a3 := rdI_fwd (okI (by omega)) M; have O := drop_next M
 have a4 := rdI_fwd (okI (by omega)) O; have a1 := drop_next O
 have Z : rdH1 s = _ := a2
 have a0 : rdH2 s = _ := (congrArg (fun x : Int × RS => rdI s x.2) Z).trans a3
 have a9 : rdH3 s = _ := (congrArg (fun x : Int × RS => rdI s x.2) a0).trans a4
 have a5 := fold_fwd (f := f) (kfields f.kind) (Fct.bare f.n f.time f.kind) _ r g.fields a1
 rw [decFRun, rdKind, Z, a0, a9]
 simp only
 rw [if_neg (fun a6 => kfields_pos a7 a6.2), a5]
 have a8 : (kfields f.kind).foldl (fun g x => g.set x (f.get x)) (Fct.bare f.n f.time f.kind) = f := g.used.symm
 rw [a8]
 simp only [encF, Fct.head, List.length_append, Prod.mk.injEq, true_and, and_true]
 omega
theorem decF_enc {f : Fct} (h : f.ok = true) : decF (encF f) = (f, 0) := by
 have := decFRun_fwd h []
 rw [List.append_nil] at this
 rw [decF, this, if_neg (by simp), if_neg (by simp), if_pos h]
theorem flist_inv {α : Type} {f : RS → α × RS} {e : α → List UInt8} {s : List UInt8} {most : Int} (a0 : ∀ st, (f st).2.2 = 0 → st.2 = 0 ∧ s.drop st.1 = e (f st).1 ++ s.drop (f st).2.1) {st : RS} (h : (flist f s most st).2.2 = 0) :
  st.2 = 0 ∧ s.drop st.1 = Wire.enc ((flist f s most st).1.length : Int) ++ ((flist f s most st).1.flatMap e ++ s.drop (flist f s most st).2.1) := by
 unfold flist at *
 have M := rdMany_inv a0 _ _ h
 have O : 0 ≤ (fcnt s most st).1 ∧ fcnt s most st = rdI s st := by
  have := M.1
  unfold fcnt at this ⊢
  split at this
  ·simp at this
  ·next hc =>
   rw [if_neg hc]
   refine ⟨?_, rfl⟩
   apply Decidable.byContradiction
   intro a1
   exact hc ⟨this, .inl (by omega)⟩
 have Z := O.2
 rw [Z] at M O ⊢
 have V := rdI_inv M.1
 refine ⟨V.1, ?_⟩
 rw [M.2.1, Int.toNat_of_nonneg O.1, ← M.2.2]
 exact V.2.2
theorem rdV_inv {s : List UInt8} : ∀ {t : FTy} {st : RS}, (rdV s t st).2.2 = 0 → st.2 = 0 ∧ s.drop st.1 = putV t (rdV s t st).1 ++ s.drop (rdV s t st).2.1
 | .int, st, h => ⟨(rdI_inv h).1, (rdI_inv h).2.2⟩
 | .str, st, h => rdT_inv h
 | .topics, st, h => by
  have := flist_inv (f := rdT s) (e := fun t : BA => encS (bts t)) (s := s) (fun st h => rdT_inv h) (st := st) h
  refine ⟨this.1, this.2.trans ?_⟩
  rw [← List.append_assoc]; rfl
 | .blocks, st, h => by
  have h : (rdBlks s st).2.2 = 0 := h
  show st.2 = 0 ∧ s.drop st.1 = putV .blocks (rdBlks s st).1 ++ s.drop (rdBlks s st).2.1
  by_cases h1 : (rdT s st).2.2 = 0
  ·by_cases h2 : (decSpec (bts (rdT s st).1)).2 = 0
   ·have O := rdT_inv h1
    have M := enc_dec (s := bts (rdT s st).1) (l := (decSpec (bts (rdT s st).1)).1) (Prod.ext rfl h2)
    rw [rdBlks, if_pos h1, if_pos h2]
    refine ⟨O.1, ?_⟩
    show s.drop st.1 = encS (encL _) ++ _
    rw [M.2]
    exact O.2
   ·rw [rdBlks, if_pos h1, if_neg h2] at h
    simp at h
  ·rw [rdBlks, if_neg h1] at h
   exact absurd h h1
 | .label, st, h => by
  have M : (rdI s (rdL3 s st).2).2.2 = 0 := h
  have a0 := rdI_inv M
  have Z := rdI_inv (s := s) (st := (rdL2 s st).2) a0.1
  have V := flist_inv (e := Wire.enc) (f := rdI s) (most := 64) (fun st h => ⟨(rdI_inv h).1, (rdI_inv h).2.2⟩) (st := (rdL1 s st).2) Z.1
  have k1 := rdI_inv (s := s) (st := st) V.1
  refine ⟨k1.1, ?_⟩
  have e1 : s.drop st.1 = Wire.enc (rdL1 s st).1 ++ s.drop (rdL1 s st).2.1 := k1.2.2
  have a1 : s.drop (rdL1 s st).2.1 = Wire.enc ((rdL2 s st).1.length : Int) ++ ((rdL2 s st).1.flatMap Wire.enc ++ s.drop (rdL2 s st).2.1) := V.2
  have a2 : s.drop (rdL2 s st).2.1 = Wire.enc (rdL3 s st).1 ++ s.drop (rdL3 s st).2.1 := Z.2.2
  have a3 : s.drop (rdL3 s st).2.1 = Wire.enc (rdL4 s st).1 ++ s.drop (rdL4 s st).2.1 := a0.2.2
  rw [e1, a1, a2, a3]
  show _ = (Wire.enc (rdL1 s st).1 ++ (Wire.enc ((rdL2 s st).1.length : Int) ++ ((rdL2 s st).1.flatMap Wire.enc ++ (Wire.enc (rdL3 s st).1 ++ Wire.enc (rdL4 s st).1)))) ++ s.drop (rdL4 s st).2.1
  simp only [List.append_assoc]
theorem fold_keep {s : List UInt8} {y : Fld} : ∀ (l : List Fld) (r : Fct × RS), y ∉ l → (l.foldl (rdFld s) r).1.get y = r.1.get y
 | [], r, _ => rfl
 | x :: l, r, h => by
  rw [List.foldl_cons, fold_keep l _ (fun M => h (List.mem_cons_of_mem _ M)), rdFld]
  exact Fct.get_set_ne _ (fun M => h (by rw [M]; exact List.mem_cons_self)) _
theorem fold_inv {s : List UInt8} : ∀ (l : List Fld) (r : Fct × RS), l.Nodup → (l.foldl (rdFld s) r).2.2 = 0 → r.2.2 = 0 ∧ s.drop r.2.1 = l.flatMap (l.foldl (rdFld s) r).1.put ++ s.drop (l.foldl (rdFld s) r).2.1
 | [], r, _, h => ⟨h, rfl⟩
 | x :: l, r, hd, h => by
  rw [List.nodup_cons] at hd
  rw [List.foldl_cons] at h ⊢
  have M := fold_inv l (rdFld s r x) hd.2 h
  have O := rdV_inv (s := s) (t := x.ty) (st := r.2) M.1
  refine ⟨O.1, ?_⟩
  have V : (l.foldl (rdFld s) (rdFld s r x)).1.put x = putV x.ty (rdV s x.ty r.2).1 := by
   unfold Fct.put
   rw [fold_keep l _ hd.1, rdFld, Fct.get_set]
  rw [List.flatMap_cons, V, List.append_assoc, ← M.2]
  exact O.2
theorem decFRun_inv {s : List UInt8} (h : (decFRun s).2.2 = 0) : s = encF (decFRun s).1 ++ s.drop (decFRun s).2.1 := by
 have M := kfields_facts (rdH3 s).1
 have O := fold_inv (s := s) (kfields (rdH3 s).1) (Fct.bare (rdH1 s).1 (rdH2 s).1 (rdH3 s).1, rdKind s) M.1 h
 have V : rdKind s = (rdH3 s).2 := by
  have := O.1
  unfold rdKind at this ⊢
  simp only at this
  split
  ·next hc => rw [if_pos hc] at this; simp at this
  ·rfl
 have a4 : (rdH3 s).2.2 = 0 := by rw [← V]; exact O.1
 have a0 := rdI_inv (s := s) (st := (rdH2 s).2) a4
 have Z := rdI_inv (s := s) (st := (rdH1 s).2) a0.1
 have k1 := rdI_inv (s := s) (st := (0, 0)) Z.1
 have n1 : (decFRun s).1.n = (rdH1 s).1 := fold_keep (s := s) (y := .n) (kfields (rdH3 s).1) (Fct.bare (rdH1 s).1 (rdH2 s).1 (rdH3 s).1, rdKind s) M.2.1
 have n2 : (decFRun s).1.time = (rdH2 s).1 := fold_keep (s := s) (y := .time) (kfields (rdH3 s).1) (Fct.bare (rdH1 s).1 (rdH2 s).1 (rdH3 s).1, rdKind s) M.2.2.1
 have a5 : (decFRun s).1.kind = (rdH3 s).1 := fold_keep (s := s) (y := .kind) (kfields (rdH3 s).1) (Fct.bare (rdH1 s).1 (rdH2 s).1 (rdH3 s).1, rdKind s) M.2.2.2
 have e1 : s = Wire.enc (rdH1 s).1 ++ s.drop (rdH1 s).2.1 := by have := k1.2.2; rwa [List.drop_zero] at this
 have a1 : s.drop (rdH1 s).2.1 = Wire.enc (rdH2 s).1 ++ s.drop (rdH2 s).2.1 := Z.2.2
 have a2 : s.drop (rdH2 s).2.1 = Wire.enc (rdH3 s).1 ++ s.drop (rdH3 s).2.1 := a0.2.2
 have a3 : s.drop (rdH3 s).2.1 = (kfields (rdH3 s).1).flatMap (decFRun s).1.put ++ s.drop (decFRun s).2.1 := by rw [← V]; exact O.2
 rw [encF, Fct.head, n1, n2, a5]
 simp only [List.append_assoc]
 rw [← a3, ← a2, ← a1]
 exact e1
theorem enc_decF {s : List UInt8} {f : Fct} (h : decF s = (f, 0)) : f.ok = true ∧ encF f = s := by
 unfold decF at h
 split at h
 ·next h1 =>
  simp only [Prod.mk.injEq] at h
  exact absurd h.2 h1
 ·next h1 =>
  split at h
  ·simp at h
  ·next h2 =>
   split at h
   ·next h3 =>
    simp only [Prod.mk.injEq, and_true] at h
    subst h
    have M := decFRun_inv (Decidable.not_not.1 h1)
    rw [List.drop_of_length_le (by omega), List.append_nil] at M
    exact ⟨h3, M.symm⟩
   ·simp at h
theorem decF_err (s : List UInt8) : ((decF s).2 = 0 ∧ (decF s).1.ok = true) ∨ ((decF s).1 = Fct.zero ∧ (decF s).2 ≠ 0) := by
 unfold decF
 split
 ·next h => exact .inr ⟨rfl, h⟩
 ·split
  ·exact .inr ⟨rfl, by simp⟩
  ·split
   ·next h => exact .inl ⟨rfl, h⟩
   ·exact .inr ⟨rfl, by simp⟩
theorem fcnt_err {s : List UInt8} {m : Int} {st : RS} (h : ¬ st.2 = 0) : (fcnt s m st).2 = st := by
 rw [fcnt, if_neg (fun M => h (by rw [rdI_err h] at M; exact M.1)), rdI_err h]
theorem flist_err {α : Type} {f : RS → α × RS} {s : List UInt8} {m : Int} {st : RS} (h : ¬ st.2 = 0) : (flist f s m st).2 = st := by
 rw [flist, rdMany_err (by rw [fcnt_err h]; exact h), fcnt_err h]
theorem rdV_err {s : List UInt8} : ∀ {t : FTy} {st : RS}, ¬ st.2 = 0 → (rdV s t st).2 = st
 | .int, st, h => rdI_err h
 | .str, st, h => rdT_err h
 | .topics, st, h => flist_err h
 | .blocks, st, h => by
  show (rdBlks s st).2 = st
  rw [rdBlks, if_neg (by rw [rdT_err h]; exact h)]
  exact rdT_err h
 | .label, st, h => by
  have e1 : (rdL1 s st).2 = st := rdI_err h
  have M : (rdL2 s st).2 = st := by rw [rdL2, e1]; exact flist_err h
  have O : (rdL3 s st).2 = st := by rw [rdL3, M]; exact rdI_err h
  show (rdL4 s st).2 = st
  rw [rdL4, O]; exact rdI_err h
theorem fold_err {s : List UInt8} : ∀ (l : List Fld) (r : Fct × RS), ¬ r.2.2 = 0 → (l.foldl (rdFld s) r).2 = r.2
 | [], r, _ => rfl
 | x :: l, r, h => by
  have M : (rdFld s r x).2 = r.2 := rdV_err h
  rw [List.foldl_cons, fold_err l _ (by rw [M]; exact h), M]
theorem fcnt_le {s : List UInt8} {m : Int} {st : RS} (h : st.1 ≤ s.length) : (fcnt s m st).2.1 ≤ s.length := by
 unfold fcnt
 split
 ·exact rdI_le h
 ·exact rdI_le h
theorem fcnt_ok {s : List UInt8} {m : Int} {st : RS} (h : (fcnt s m st).2.2 = 0) : 0 ≤ (fcnt s m st).1 ∧ (fcnt s m st).1 ≤ m := by
 unfold fcnt at *
 split at h
 ·simp at h
 ·next hn => rw [if_neg hn]; omega
theorem flist_le {α : Type} {f : RS → α × RS} {s : List UInt8} {m : Nat} (M : ∀ st, st.1 ≤ s.length → (f st).2.1 ≤ s.length) {st : RS} (h : st.1 ≤ s.length) : (flist f s m st).2.1 ≤ s.length ∧ (flist f s m st).1.length ≤ m := by
 unfold flist
 have := rdMany_le M (fcnt s m st).1.toNat (fcnt s m st).2 (fcnt_le h)
 refine ⟨this.1, ?_⟩
 by_cases he : (fcnt s m st).2.2 = 0
 ·have := fcnt_ok he
  omega
 ·rw [rdMany_err he]; simp
theorem rdBlks_le {s : List UInt8} {st : RS} (h : st.1 ≤ s.length) : (rdBlks s st).2.1 ≤ s.length := by
 unfold rdBlks
 split
 ·split
  ·exact (rdT_le h).1
  ·exact (rdT_le h).1
 ·exact (rdT_le h).1
theorem rdLab_le {s : List UInt8} {st : RS} (h : st.1 ≤ s.length) : (rdL1 s st).2.1 ≤ s.length ∧ (rdL2 s st).2.1 ≤ s.length ∧ (rdL3 s st).2.1 ≤ s.length ∧ (rdL4 s st).2.1 ≤ s.length := by
 have M : (rdL1 s st).2.1 ≤ s.length := rdI_le h
 have O : (rdL2 s st).2.1 ≤ s.length := (flist_le (f := rdI s) (m := 64) (fun st => rdI_le) M).1
 have V : (rdL3 s st).2.1 ≤ s.length := rdI_le O
 exact ⟨M, O, V, rdI_le V⟩
theorem rdV_le {s : List UInt8} : ∀ {t : FTy} {st : RS}, st.1 ≤ s.length → (rdV s t st).2.1 ≤ s.length
 | .int, st, h => rdI_le h
 | .str, st, h => (rdT_le h).1
 | .topics, st, h => (flist_le (f := rdT s) (m := 4) (fun st h => (rdT_le h).1) h).1
 | .blocks, st, h => rdBlks_le h
 | .label, st, h => (rdLab_le h).2.2.2
theorem rdH_le (s : List UInt8) : (rdH1 s).2.1 ≤ s.length ∧ (rdH2 s).2.1 ≤ s.length ∧ (rdH3 s).2.1 ≤ s.length := by
 have M : (rdH1 s).2.1 ≤ s.length := rdI_le (Nat.zero_le _)
 have O : (rdH2 s).2.1 ≤ s.length := rdI_le M
 exact ⟨M, O, rdI_le O⟩
noncomputable def consN_c0 (b : BA) (a : Int) : Cut := ⟨TP, [], 143, 28, (KC Tryz.f143 116), [(0, .string b), (3, .func (.func 145) #[] #[]), (9, IV a)], []⟩
theorem consN_c0_vc (b : BA) (a : Int) (H : VP [] w0 R (.P 8 19 (a < (b.size : Int)) (.r 9 <| .ix b a <| .il 0 Tryz.func145 [.int .u8 (bat b a)] <| .P 9 5 (97 ≤ (bat b a)) (.P 4 9 ((bat b a) ≤ 122) (.rk 13 <| .li 9 9 (IntKind.i64.wrap (a + 1)) fun c => .ct 2 [] (consN_c0 b c)) <| .P 3 12 (48 ≤ (bat b a)) (.P 5 17 ((bat b a) ≤ 57) (.rk 5 <| .li 9 9 (IntKind.i64.wrap (a + 1)) fun d => .ct 2 [] (consN_c0 b d)) <| .rk 5 <| .I 2 27 ((bat b a) = 45) (.re 5 (.bool false) []) <| .li 7 9 (IntKind.i64.wrap (a + 1)) fun e => .ct 2 [] (consN_c0 b e)) <| .rk 10 <| .I 2 27 ((bat b a) = 45) (.re 5 (.bool false) []) <| .li 7 9 (IntKind.i64.wrap (a + 1)) fun f => .ct 2 [] (consN_c0 b f)) <| .P 7 12 (48 ≤ (bat b a)) (.P 5 17 ((bat b a) ≤ 57) (.rk 5 <| .li 9 9 (IntKind.i64.wrap (a + 1)) fun g => .ct 2 [] (consN_c0 b g)) <| .rk 5 <| .I 2 27 ((bat b a) = 45) (.re 5 (.bool false) []) <| .li 7 9 (IntKind.i64.wrap (a + 1)) fun h => .ct 2 [] (consN_c0 b h)) <| .rk 10 <| .I 2 27 ((bat b a) = 45) (.re 5 (.bool false) []) <| .li 7 9 (IntKind.i64.wrap (a + 1)) fun i => .ct 2 [] (consN_c0 b i)) <| .re 6 (.bool true) [])) : consN_c0 b a w0 R := VC.go Tryz.func143 _ H
theorem consN_vc (a : BA) (b c : Int) (hm : Mem [] [] w0 W) (H : VP [] w0 R (.il 11 Tryz.func64 [IV (a.size : Int), IV b, IV c] <| .P 10 10 (b ≤ (a.size : Int)) (.rk 6 <| .I 2 15 ((a.size : Int) ≤ c) (.re 5 (.bool false) []) <| .ct 9 [] (consN_c0 a 0)) <| .rk 6 <| .re 7 (.bool false) [])) : Calls TP 143 ⟨[.string a, IV b, IV c, .func (.func 145) #[] #[]]⟩ W R := VC.cs Tryz.func143 hm _ H
noncomputable def consT_c0 (b : BA) (a : Int) : Cut := ⟨TP, [], 143, 28, (KC Tryz.f143 116), [(0, .string b), (3, .func (.func 144) #[] #[]), (9, IV a)], []⟩
theorem consT_c0_vc (b : BA) (a : Int) (H : VP [] w0 R (.P 8 19 (a < (b.size : Int)) (.r 9 <| .ix b a <| .il 0 Tryz.func144 [.int .u8 (bat b a)] <| .P 9 5 (32 ≤ (bat b a)) (.rk 5 <| .I 2 27 ((bat b a) ≤ 126) (.re 5 (.bool false) []) <| .li 7 9 (IntKind.i64.wrap (a + 1)) fun c => .ct 2 [] (consT_c0 b c)) <| .rk 5 <| .re 7 (.bool false) []) <| .re 6 (.bool true) [])) : consT_c0 b a w0 R := VC.go Tryz.func143 _ H
theorem consT_vc (a : BA) (b c : Int) (hm : Mem [] [] w0 W) (H : VP [] w0 R (.il 11 Tryz.func64 [IV (a.size : Int), IV b, IV c] <| .P 10 10 (b ≤ (a.size : Int)) (.rk 6 <| .I 2 15 ((a.size : Int) ≤ c) (.re 5 (.bool false) []) <| .ct 9 [] (consT_c0 a 0)) <| .rk 6 <| .re 7 (.bool false) [])) : Calls TP 143 ⟨[.string a, IV b, IV c, .func (.func 144) #[] #[]]⟩ W R := VC.cs Tryz.func143 hm _ H
noncomputable def consS_c0 (b : BA) (a : Int) : Cut := ⟨TP, [], 143, 28, (KC Tryz.f143 116), [(0, .string b), (3, .func (.func 146) #[] #[]), (9, IV a)], []⟩
theorem consS_c0_vc (b : BA) (a : Int) (H : VP [] w0 R (.P 8 19 (a < (b.size : Int)) (.r 9 <| .ix b a <| .il 0 Tryz.func146 [.int .u8 (bat b a)] <| .P 9 5 ((bat b a) = 10) (.rk 5 <| .li 9 9 (IntKind.i64.wrap (a + 1)) fun c => .ct 2 [] (consS_c0 b c)) <| .il 1 Tryz.func144 [.int .u8 (bat b a)] <| .P 9 5 (32 ≤ (bat b a)) (.rk 5 <| .rk 3 <| .I 2 27 ((bat b a) ≤ 126) (.re 5 (.bool false) []) <| .li 7 9 (IntKind.i64.wrap (a + 1)) fun d => .ct 2 [] (consS_c0 b d)) <| .rk 5 <| .rk 3 <| .re 7 (.bool false) []) <| .re 6 (.bool true) [])) : consS_c0 b a w0 R := VC.go Tryz.func143 _ H
theorem consS_vc (a : BA) (b c : Int) (hm : Mem [] [] w0 W) (H : VP [] w0 R (.il 11 Tryz.func64 [IV (a.size : Int), IV b, IV c] <| .P 10 10 (b ≤ (a.size : Int)) (.rk 6 <| .I 2 15 ((a.size : Int) ≤ c) (.re 5 (.bool false) []) <| .ct 9 [] (consS_c0 a 0)) <| .rk 6 <| .re 7 (.bool false) [])) : Calls TP 143 ⟨[.string a, IV b, IV c, .func (.func 146) #[] #[]]⟩ W R := VC.cs Tryz.func143 hm _ H
theorem fName_vc (b : BA) (hm : Mem [] [] w0 W) (H : VP [] w0 R (.cl 7 143 [.string b, IV 1, IV 20, .func (.func 145) #[] #[]] [] <| .ex fun a => .rt (.bool a) [] <| .re 2 (.bool a) [])) : Calls TP 104 ⟨[.string b]⟩ W R := VC.cs Tryz.func104 hm _ H
theorem fText_vc (b : BA) (hm : Mem [] [] w0 W) (H : VP [] w0 R (.cl 7 143 [.string b, IV 1, IV 300, .func (.func 144) #[] #[]] [] <| .ex fun a => .rt (.bool a) [] <| .re 2 (.bool a) [])) : Calls TP 103 ⟨[.string b]⟩ W R := VC.cs Tryz.func103 hm _ H
theorem fSource_vc (b : BA) (hm : Mem [] [] w0 W) (H : VP [] w0 R (.cl 7 143 [.string b, IV 0, IV 1000, .func (.func 146) #[] #[]] [] <| .ex fun a => .rt (.bool a) [] <| .re 2 (.bool a) [])) : Calls TP 105 ⟨[.string b]⟩ W R := VC.cs Tryz.func105 hm _ H
noncomputable def areTopics_c0 (c : OA) (a b : Nat) (d : Int) : Cut := ⟨TP, [], 140, 32, (KC Tryz.f140 116), [(0, .slice c a b), (8, .slice c a b), (9, IV (a : Int)), (10, IV d)], []⟩
theorem areTopics_c0_vc (d : OA) (b c : Nat) (a : Int) (H : VP [] w0 R (.P 5 11 (a < (b : Int)) (.r 7 <| .x2 fun i f => .iP d i f b c 1 a (f + (Int.toNat a)) <| .x2 fun l e => .lW i (f + (Int.toNat a)) 9 l (.string e) <| .cl 6 104 [.string e] [] <| .ex fun k => .rt (.bool k) [] <| .B 0 16 k (.P 5 21 (0 < a) (.r 4 <| .x2 fun j g => .iP d j g b c 1 (IntKind.i64.wrap (a - 1)) (g + (Int.toNat (IntKind.i64.wrap (a - 1)))) <| .x2 fun m h => .lW j (g + (Int.toNat (IntKind.i64.wrap (a - 1)))) 9 m (.string h) <| .B 4 30 ((Op.bytesLess e.toList h.toList) || (e.toList == h.toList)) (.re 5 (.bool false) []) <| .ct 8 [] (areTopics_c0 d b c (IntKind.i64.wrap (a + 1)))) <| .ct 18 [] (areTopics_c0 d b c (IntKind.i64.wrap (a + 1)))) <| .re 20 (.bool false) []) <| .re 6 (.bool true) [])) : areTopics_c0 d b c a w0 R := VC.go Tryz.func140 _ H
theorem areTopics_vc (c : OA) (a b : Nat) (hm : Mem [] [] w0 W) (H : VP [] w0 R (.P 11 7 (4 < (a : Int)) (.re 5 (.bool false) []) <| .ct 11 [] (areTopics_c0 c a b 0))) : Calls TP 140 ⟨[.slice c a b]⟩ W R := VC.cs Tryz.func140 hm _ H
noncomputable def eqStrs_c0 (c : OA) (a b : Nat) (f : OA) (e d : Nat) (g : Int) : Cut := ⟨TP, [], 106, 26, (KC Tryz.f106 116), [(0, .slice c a b), (1, .slice f e d), (12, IV (a : Int)), (13, IV g)], []⟩
theorem eqStrs_c0_vc (d : OA) (b c : Nat) (h : OA) (g f : Nat) (a : Int) (H : VP [] w0 R (.P 5 14 (a < (b : Int)) (.r 10 <| .dr 9 <| .qu [2] <| .x2 fun l e => .iP d l e b c 1 a (e + (Int.toNat a)) <| .x2 fun n j => .lW l (e + (Int.toNat a)) 9 n (.string j) <| .qu [2] <| .x2 fun m i => .iP h m i g f 1 a (i + (Int.toNat a)) <| .x2 fun o k => .lW m (i + (Int.toNat a)) 9 o (.string k) <| .qu [1] <| .dn <| .sN 1 24 j k (.re 5 (.bool false) []) <| .ct 8 [] (eqStrs_c0 d b c h g f (IntKind.i64.wrap (a + 1)))) <| .re 6 (.bool true) [])) : eqStrs_c0 d b c h g f a w0 R := VC.go Tryz.func106 _ H
theorem eqStrs_vc (d : OA) (a c : Nat) (f : OA) (b e : Nat) (hm : Mem [] [] w0 W) (H : VP [] w0 R (.I 13 10 ((a : Int) = (b : Int)) (.re 5 (.bool false) []) <| .ct 11 [] (eqStrs_c0 d a c f b e 0))) : Calls TP 106 ⟨[.slice d a c, .slice f b e]⟩ W R := VC.cs Tryz.func106 hm _ H
abbrev zF2aa (a : Fct) (b x2 x3 : Nat) (x4 x5 c : OA) : Array Value := #[IV a.n, IV a.time, IV a.kind, IV a.story, .string a.lang, IV a.rev, IV a.base, .string a.title, .string a.author, .slice x4 a.topics.length b, .slice x5 a.blocks.length x2, IV a.lab.unt, .slice c a.lab.after.length x3, IV a.lab.appr, IV a.lab.den, IV a.editor, IV a.block, IV a.sentence, .string a.text, .string a.name, IV a.partner, IV a.cls, IV a.unt]
theorem isRev_vc (b : Fct) (h : OA) (g : Nat) (f : OA) (e : Nat) (d : OA) (c : Nat) (hm : Mem [] [] w0 W) (H : VP [] w0 R (.np 2 (.cells (zF2aa b g e c h f d) 38) fun B => .hp [(B, .cells (zF2aa b g e c h f d) 38)] fun a => .ru [5,200] <| .cl 0 104 [.string b.lang] a <| .ex fun i => .rt (.bool i) a <| .B 1 6 i (.ru [1,200] <| .il 0 Tryz.func64 [IV b.rev, IV 1, IV 100] <| .P 10 10 (1 ≤ b.rev) (.rk 6 <| .P 2 11 (b.rev ≤ 100) (.ru [1,200,1,200] <| .il 1 Tryz.func64 [IV b.base, IV 0, IV (IntKind.i64.wrap (b.rev - 1))] <| .P 10 10 (0 ≤ b.base) (.rk 6 <| .P 2 19 (b.base ≤ (IntKind.i64.wrap (b.rev - 1))) (.ru [1,200] <| .cl 0 103 [.string b.title] a <| .ex fun j => .rt (.bool j) a <| .B 2 24 j (.ru [1,200] <| .cl 0 104 [.string b.author] a <| .ex fun k => .rt (.bool k) a <| .B 2 29 k (.ru [1,200] <| .cl 0 140 [.slice h b.topics.length g] a <| .ex fun l => .rt (.bool l) a <| .B 2 34 l (.ru [1,200] <| .cl 0 141 [.slice f b.blocks.length e] a <| .ex fun m => .rt (.bool m) a <| .B 2 39 m (.ru [1,200] <| .cl 0 101 [.agg #[IV b.lab.unt, .slice d b.lab.after.length c, IV b.lab.appr, IV b.lab.den]] a <| .ex fun n => .rt (.bool n) a <| .re 3 (.bool n) a) <| .re 6 (.bool false) a) <| .re 11 (.bool false) a) <| .re 16 (.bool false) a) <| .re 21 (.bool false) a) <| .re 26 (.bool false) a) <| .rk 6 <| .re 28 (.bool false) a) <| .re 34 (.bool false) a) <| .rk 6 <| .re 36 (.bool false) a) <| .re 39 (.bool false) a)) : Calls TP 100 ⟨[.agg (zF2aa b g e c h f d)]⟩ W R := VC.cs Tryz.func100 hm _ H
theorem isCor_vc (a : Fct) (h : OA) (g : Nat) (f : OA) (e : Nat) (d : OA) (c : Nat) (hm : Mem [] [] w0 W) (H : VP [] w0 R (.np 2 (.cells (zF2aa a g e c h f d) 38) fun B => .hp [(B, .cells (zF2aa a g e c h f d) 38)] fun b => .ru [5,200] <| .cl 0 104 [.string a.lang] b <| .ex fun i => .rt (.bool i) b <| .B 1 6 i (.ru [1,200] <| .il 0 Tryz.func64 [IV a.block, IV 1, IV 1000] <| .P 10 10 (1 ≤ a.block) (.rk 6 <| .P 2 11 (a.block ≤ 1000) (.ru [1,200] <| .il 0 Tryz.func64 [IV a.sentence, IV 0, IV 299] <| .P 10 10 (0 ≤ a.sentence) (.rk 6 <| .P 2 16 (a.sentence ≤ 299) (.ru [1,200] <| .cl 0 103 [.string a.text] b <| .ex fun j => .rt (.bool j) b <| .re 3 (.bool j) b) <| .re 6 (.bool false) b) <| .rk 6 <| .re 8 (.bool false) b) <| .re 11 (.bool false) b) <| .rk 6 <| .re 13 (.bool false) b) <| .re 16 (.bool false) b)) : Calls TP 102 ⟨[.agg (zF2aa a g e c h f d)]⟩ W R := VC.cs Tryz.func102 hm _ H
theorem fSame_vc (b : Fct) (i : OA) (h : Nat) (g : OA) (f : Nat) (e : OA) (d : Nat) (c : Fct) (p : OA) (o : Nat) (m : OA) (l : Nat) (k : OA) (j : Nat) (hm : Mem [] [] w0 W) (H : VP [] w0 R (.np 2 (.cells (zF2aa b h f d i g e) 38) fun B => .np 0 (.cells (zF2aa c o l j p m k) 38) fun u => .hp [(B, .cells (zF2aa b h f d i g e) 38), (u, .cells (zF2aa c o l j p m k) 38)] fun a => .ru [5,200,1,201] <| .P 2 10 (b.n = c.n) (.ru [1,200,1,201] <| .P 3 17 (b.time = c.time) (.ru [1,200,1,201] <| .P 3 24 (b.kind = c.kind) (.ru [1,200,1,201] <| .P 3 31 (b.story = c.story) (.ru [1,200,1,201] <| .sE 3 38 b.lang c.lang (.ru [1,200,1,201] <| .P 3 45 (b.rev = c.rev) (.ru [1,200,1,201] <| .P 3 52 (b.base = c.base) (.ru [1,200,1,201] <| .sE 3 59 b.title c.title (.ru [1,200,1,201] <| .sE 3 66 b.author c.author (.ru [1,200,1,201] <| .cl 0 106 [.slice i b.topics.length h, .slice p c.topics.length o] a <| .ex fun q => .rt (.bool q) a <| .B 2 73 q (.ru [1,200,1,201] <| .cl 0 107 [.slice g b.blocks.length f, .slice m c.blocks.length l] a <| .ex fun s => .rt (.bool s) a <| .B 2 80 s (.ru [1,200,1,201] <| .cl 0 108 [.agg #[IV b.lab.unt, .slice e b.lab.after.length d, IV b.lab.appr, IV b.lab.den], .agg #[IV c.lab.unt, .slice k c.lab.after.length j, IV c.lab.appr, IV c.lab.den]] a <| .ex fun t => .rt (.bool t) a <| .B 2 87 t (.ru [1,200,1,201] <| .P 3 94 (b.editor = c.editor) (.ru [1,200,1,201] <| .P 3 101 (b.block = c.block) (.ru [1,200,1,201] <| .P 3 108 (b.sentence = c.sentence) (.ru [1,200,1,201] <| .sE 3 115 b.text c.text (.ru [1,200,1,201] <| .sE 3 122 b.name c.name (.ru [1,200,1,201] <| .P 3 129 (b.partner = c.partner) (.ru [1,200,1,201] <| .P 3 136 (b.cls = c.cls) (.ru [1,200,1,201] <| .re 4 (.bool (decide (b.unt = c.unt))) a) <| .re 8 (.bool false) a) <| .re 15 (.bool false) a) <| .re 22 (.bool false) a) <| .re 29 (.bool false) a) <| .re 36 (.bool false) a) <| .re 43 (.bool false) a) <| .re 50 (.bool false) a) <| .re 57 (.bool false) a) <| .re 64 (.bool false) a) <| .re 71 (.bool false) a) <| .re 78 (.bool false) a) <| .re 85 (.bool false) a) <| .ru [90] <| .re 2 (.bool false) a) <| .ru [90] <| .re 9 (.bool false) a) <| .ru [90] <| .re 16 (.bool false) a) <| .ru [90] <| .re 23 (.bool false) a) <| .ru [90] <| .re 30 (.bool false) a) <| .ru [90] <| .re 37 (.bool false) a) <| .ru [90] <| .re 44 (.bool false) a)) : Calls TP 66 ⟨[.agg (zF2aa b h f d i g e), .agg (zF2aa c o l j p m k)]⟩ W R := VC.cs Tryz.func66 hm _ H
def Fct.Fits (f : Fct) : Prop :=
 (f.lang.size ≤ 9223372036854775807 ∧ f.title.size ≤ 9223372036854775807 ∧ f.author.size ≤ 9223372036854775807 ∧ f.text.size ≤ 9223372036854775807 ∧ f.name.size ≤ 9223372036854775807) ∧
 (f.topics.length ≤ 9223372036854775807 ∧ ∀ t ∈ f.topics, t.size ≤ 9223372036854775807) ∧ f.blocks.length ≤ 9223372036854775807 ∧ f.lab.after.length ≤ 9223372036854775807
structure FAt (lk : Lk) (f : Fct) (tp : OA) (tc : Nat) (bp : OA) (bc : Nat) (ap : OA) (ac : Nat) : Prop where
 tops : StrsL lk tp f.topics
 blks : BlksL lk bp f.blocks
 ints : IntsL lk ap f.lab.after
 ct : f.topics.length ≤ tc
 cb : f.blocks.length ≤ bc
 ca : f.lab.after.length ≤ ac
 fits : f.Fits
theorem FAt.mono {lk O : Lk} {f : Fct} {tp : OA} {tc : Nat} {bp : OA} {bc : Nat} {ap : OA} {ac : Nat} (h : FAt lk f tp tc bp bc ap ac) (M : ∀ b c, lk b c → O b c) : FAt O f tp tc bp bc ap ac :=
 ⟨h.tops.mono M, h.blks.mono M, h.ints.mono M, h.ct, h.cb, h.ca, h.fits⟩
def FctL (lk : Lk) (cs : List Value) (f : Fct) : Prop := ∃ tp tc bp bc ap ac, cs = f.cells tp tc bp bc ap ac ∧ FAt lk f tp tc bp bc ap ac
theorem consN_loop {s : BA} (M : s.size ≤ 9223372036854775807) : ∀ (g i : Nat), g + i = s.size → Fin R [] [] w0 (.bool (scan s nameB i)) → consN_c0 s (i : Int) w0 R
 | 0, i, hg, H => by
  apply consN_c0_vc
  exact no (by omega) (finEq H (by rw [scan_end (by omega)]))
 | g + 1, i, hg, H => by
  apply consN_c0_vc
  have hi : i < s.size := by omega
  have next : nameB (bat s i) = true → ∀ x : Int, x = IntKind.i64.wrap ((i : Int) + 1) → consN_c0 s x w0 R := by
   rintro hn _ rfl
   rw [wi64 (by omega), show (i : Int) + 1 = ((i + 1 : Nat) : Int) by omega]
   rw [scan_yes hi hn] at H
   exact consN_loop M g (i + 1) (by omega) H
  have stop : nameB (bat s i) = false → Fin R [] [] w0 (.bool false) := fun hn => finEq H (by rw [scan_no hi hn])
  refine yes (by omega) ?_
  repeat' (first
   | refine And.intro ?_ ?_
   | omega
   | exact stop (decide_eq_false (by omega))
   | exact next (decide_eq_true (by omega))
   | intro _)
theorem consT_loop {s : BA} (M : s.size ≤ 9223372036854775807) : ∀ (g i : Nat), g + i = s.size → Fin R [] [] w0 (.bool (scan s txtB i)) → consT_c0 s (i : Int) w0 R
 | 0, i, hg, H => by
  apply consT_c0_vc
  exact no (by omega) (finEq H (by rw [scan_end (by omega)]))
 | g + 1, i, hg, H => by
  apply consT_c0_vc
  have hi : i < s.size := by omega
  have next : txtB (bat s i) = true → ∀ x : Int, x = IntKind.i64.wrap ((i : Int) + 1) → consT_c0 s x w0 R := by
   rintro hn _ rfl
   rw [wi64 (by omega), show (i : Int) + 1 = ((i + 1 : Nat) : Int) by omega]
   rw [scan_yes hi hn] at H
   exact consT_loop M g (i + 1) (by omega) H
  have stop : txtB (bat s i) = false → Fin R [] [] w0 (.bool false) := fun hn => finEq H (by rw [scan_no hi hn])
  refine yes (by omega) ?_
  repeat' (first
   | refine And.intro ?_ ?_
   | omega
   | exact stop (decide_eq_false (by omega))
   | exact next (decide_eq_true (by omega))
   | intro _)
theorem srcB_yes {b : Int} (h : b = 10 ∨ (32 ≤ b ∧ b ≤ 126)) : srcB b = true := by
 simp only [srcB, txtB, Bool.or_eq_true, decide_eq_true_eq]; exact h
theorem srcB_no {b : Int} (h : ¬ (b = 10 ∨ (32 ≤ b ∧ b ≤ 126))) : srcB b = false := by
 cases hb : srcB b with
 | false => rfl
 | true => simp only [srcB, txtB, Bool.or_eq_true, decide_eq_true_eq] at hb; exact absurd hb h
theorem consS_loop {s : BA} (M : s.size ≤ 9223372036854775807) : ∀ (g i : Nat), g + i = s.size → Fin R [] [] w0 (.bool (scan s srcB i)) → consS_c0 s (i : Int) w0 R
 | 0, i, hg, H => by
  apply consS_c0_vc
  exact no (by omega) (finEq H (by rw [scan_end (by omega)]))
 | g + 1, i, hg, H => by
  apply consS_c0_vc
  have hi : i < s.size := by omega
  have next : srcB (bat s i) = true → ∀ x : Int, x = IntKind.i64.wrap ((i : Int) + 1) → consS_c0 s x w0 R := by
   rintro hn _ rfl
   rw [wi64 (by omega), show (i : Int) + 1 = ((i + 1 : Nat) : Int) by omega]
   rw [scan_yes hi hn] at H
   exact consS_loop M g (i + 1) (by omega) H
  have stop : srcB (bat s i) = false → Fin R [] [] w0 (.bool false) := fun hn => finEq H (by rw [scan_no hi hn])
  refine yes (by omega) ?_
  repeat' (first
   | refine And.intro ?_ ?_
   | omega
   | exact stop (srcB_no (by omega))
   | exact next (srcB_yes (by omega))
   | intro _)
theorem fName_c (s : BA) (O : s.size ≤ 9223372036854775807) : PureC TP 104 ⟨[.string s]⟩ (.bool (nameOk s)) := by
 have h : PureC TP 143 ⟨[.string s, .int .i64 1, .int .i64 20, .func (.func 145) #[] #[]]⟩ (.bool (nameOk s)) := fun W => by
  refine consN_vc s 1 20 (Mem.start [] W) ⟨fun h => ⟨fun M => finPure ?_, fun M => consN_loop O s.size 0 (by omega) (finPure ?_)⟩, fun h => finPure ?_⟩
  ·rw [nameOk, decide_eq_false (by omega), Bool.false_and]
  ·rw [nameOk, decide_eq_true (by omega), Bool.true_and]
  ·rw [nameOk, decide_eq_false (by omega), Bool.false_and]
 exact fun W => fName_vc s (Mem.start [] W) (CallH.pure h ⟨_, rfl, rfl, finPure rfl⟩)
theorem fText_c (s : BA) (O : s.size ≤ 9223372036854775807) : PureC TP 103 ⟨[.string s]⟩ (.bool (fillOk s)) := by
 have h : PureC TP 143 ⟨[.string s, .int .i64 1, .int .i64 300, .func (.func 144) #[] #[]]⟩ (.bool (fillOk s)) := fun W => by
  refine consT_vc s 1 300 (Mem.start [] W) ⟨fun h => ⟨fun M => finPure ?_, fun M => consT_loop O s.size 0 (by omega) (finPure ?_)⟩, fun h => finPure ?_⟩
  ·rw [fillOk, txtOk, decide_eq_false (p := s.size ≤ 300) (by omega), Bool.false_and, Bool.and_false]
  ·rw [fillOk, txtOk, decide_eq_true (p := s.size ≤ 300) (by omega), decide_eq_true (p := s.size ≠ 0) (by omega), Bool.true_and, Bool.true_and]
  ·rw [fillOk, decide_eq_false (p := s.size ≠ 0) (by omega), Bool.false_and]
 exact fun W => fText_vc s (Mem.start [] W) (CallH.pure h ⟨_, rfl, rfl, finPure rfl⟩)
theorem fSource_c (s : BA) (O : s.size ≤ 9223372036854775807) : PureC TP 105 ⟨[.string s]⟩ (.bool (srcOk s)) := by
 have h : PureC TP 143 ⟨[.string s, .int .i64 0, .int .i64 1000, .func (.func 146) #[] #[]]⟩ (.bool (srcOk s)) := fun W => by
  refine consS_vc s 0 1000 (Mem.start [] W) ⟨fun h => ⟨fun M => finPure ?_, fun M => consS_loop O s.size 0 (by omega) (finPure ?_)⟩, fun h => absurd h (by omega)⟩
  ·rw [srcOk, decide_eq_false (by omega), Bool.false_and]
  ·rw [srcOk, decide_eq_true (by omega), Bool.true_and]
 exact fun W => fSource_vc s (Mem.start [] W) (CallH.pure h ⟨_, rfl, rfl, finPure rfl⟩)
def prevT (l : List BA) : Nat → Option BA
 | 0 => none
 | k + 1 => l[k]?
theorem areTopics_loop {w0 : World} {p : OA} {c : Nat} {R : Ending → World → Prop} {l : List BA} (hp : StrsL (lkW w0) p l) (a0 : ∀ t ∈ l, t.size ≤ 9223372036854775807) (hm : l.length ≤ 9223372036854775807) :
  ∀ (g i : Nat), g + i = l.length → Fin R [] [] w0 (.bool (topicsGo (prevT l i) (l.drop i))) → areTopics_c0 p l.length c (i : Int) w0 R
 | 0, i, hg, H => by
  apply areTopics_c0_vc
  refine no (by omega) (finEq H ?_)
  rw [List.drop_of_length_le (by omega)]
  cases i <;> rfl
 | g + 1, i, hg, H => by
  apply areTopics_c0_vc
  have hi : i < l.length := by omega
  obtain ⟨b, o, cc, e1, a2, a3⟩ := hp.get hi
  rw [List.drop_eq_getElem_cons hi, topicsGo] at H
  have next : nameOk l[i] = true → tAfter (prevT l i) l[i] = true → areTopics_c0 p l.length c (IntKind.i64.wrap ((i : Int) + 1)) w0 R := fun M a7 => by
   rw [M, a7, Bool.true_and, Bool.true_and] at H
   rw [wi64 (by omega), show (i : Int) + 1 = ((i + 1 : Nat) : Int) by omega]
   refine areTopics_loop hp a0 hm g (i + 1) (by omega) (finEq H ?_)
   rw [prevT, List.getElem?_eq_getElem hi]
  refine yes (by omega) ⟨b, o, e1, by omega, cc, l[i], a2, by simpa using a3, CallH.pure (fName_c _ (a0 _ (List.getElem_mem hi))) ⟨_, rfl, rfl, fun M => ⟨fun a6 => ?_, fun a6 => ?_⟩, fun M => finEq H (by rw [M]; rfl)⟩⟩
  ·obtain ⟨k, rfl⟩ : ∃ k, i = k + 1 := ⟨i - 1, by omega⟩
   have V : k < l.length := by omega
   obtain ⟨b2, a9, a1, f1, a4, a5⟩ := hp.get V
   have a8 : IntKind.i64.wrap (((k + 1 : Nat) : Int) - 1) = (k : Int) := by rw [wi64 (by omega)]; omega
   have Z : prevT l (k + 1) = some l[k] := by rw [prevT, List.getElem?_eq_getElem V]
   try dsimp only
   rw [a8]
   refine ⟨b2, a9, f1, by omega, a1, l[k], a4, by simpa using a5, fun O => finEq H ?_, fun O => next M ?_⟩
   ·rw [M, Z, tAfter, tLe, O]; rfl
   ·rw [Z, tAfter, tLe, O]; rfl
  ·have : i = 0 := by omega
   subst this
   exact next M rfl
theorem areTopics_c {p : OA} {c : Nat} {l : List BA} (hp : StrsL (lkW W) p l) (M : ∀ t ∈ l, t.size ≤ 9223372036854775807) (hm : l.length ≤ 9223372036854775807) :
  PW TP 140 ⟨[.slice p l.length c]⟩ W (.bool (topicsOk l)) := by
 refine areTopics_vc p l.length c (Mem.start [] W) ⟨fun h => finPW ?_, fun h => areTopics_loop hp M hm l.length 0 (by omega) (finPW ?_)⟩
 ·rw [topicsOk, decide_eq_false (by omega), Bool.false_and]
 ·rw [topicsOk, decide_eq_true (by omega), Bool.true_and]; rfl
theorem eqStrs_loop {p q : OA} {a2 a3 : Nat} {a b : List BA} (V : StrsL (lkW w0) p a) (Z : StrsL (lkW w0) q b) (a8 : a.length = b.length) (hm : a.length ≤ 9223372036854775807) :
  ∀ (g i : Nat), g + i = a.length → Fin R [] [] w0 (.bool (decide (a.drop i = b.drop i))) → eqStrs_c0 p a.length a2 q b.length a3 (i : Int) w0 R
 | 0, i, hg, H => by
  apply eqStrs_c0_vc
  refine no (by omega) (finEq H ?_)
  rw [List.drop_of_length_le (by omega), List.drop_of_length_le (by omega)]
  simp
 | g + 1, i, hg, H => by
  apply eqStrs_c0_vc
  have M : i < a.length := by omega
  have O : i < b.length := by omega
  obtain ⟨a0, o1, c1, e1, a4, a5⟩ := V.get M
  obtain ⟨B2, a9, a1, f1, a6, a7⟩ := Z.get O
  simp only [drop_eq M O] at H
  refine yes (by omega) ⟨a0, o1, e1, by omega, c1, a[i], a4, by simpa using a5, B2, a9, f1, by omega, a1, b[i], a6, by simpa using a7, fun h => finEq H (by simp [h]), fun h => ?_⟩
  rw [wi64 (by omega), show (i : Int) + 1 = ((i + 1 : Nat) : Int) by omega]
  refine eqStrs_loop V Z a8 hm g (i + 1) (by omega) (finEq H ?_)
  simp [h]
theorem eqStrs_c {p q : OA} {M O : Nat} {a b : List BA} (V : StrsL (lkW W) p a) (a0 : StrsL (lkW W) q b) (hm : a.length ≤ 9223372036854775807) :
  PW TP 106 ⟨[.slice p a.length M, .slice q b.length O]⟩ W (.bool (decide (a = b))) := by
 refine eqStrs_vc p a.length M q b.length O (Mem.start [] W) ⟨fun h => finPW ?_, fun h => eqStrs_loop V a0 (by omega) hm a.length 0 (by omega) (finPW ?_)⟩
 ·rw [decide_eq_false]
  intro Z; subst Z; exact h rfl
 ·simp
theorem Fct.ne_of {x y : Fct} (z : Fld) (h : ¬ x.get z = y.get z) : (Value.bool false) = .bool (decide (x = y)) := by
 rw [decide_eq_false]
 intro e; exact h (by rw [e])
theorem fSame_c {x y : Fct} {a4 a2 a0 b0 a8 a6 : OA} {a3 a1 Z a9 a7 a5 : Nat} (O : FAt (lkW W) x a4 a3 a2 a1 a0 Z) (V : FAt (lkW W) y b0 a9 a8 a7 a6 a5) :
  PW TP 66 ⟨[.agg ⟨x.cells a4 a3 a2 a1 a0 Z⟩, .agg ⟨y.cells b0 a9 a8 a7 a6 a5⟩]⟩ W (.bool (decide (x = y))) := by
 refine fSame_vc x a4 a3 a2 a1 a0 Z y b0 a9 a8 a7 a6 a5 (Mem.start [] W) fun B b5 => ?_
 refine ⟨fun b6 => ⟨fun b7 => ⟨fun b8 => ⟨fun b9 => ⟨fun c2 => ⟨fun c3 => ⟨fun c4 => ⟨fun c5 => ⟨fun c6 => ?_, fun h => finPW (Fct.ne_of .author h)⟩, fun h => finPW (Fct.ne_of .title h)⟩, fun h => finPW (Fct.ne_of .base h)⟩, fun h => finPW (Fct.ne_of .rev h)⟩, fun h => finPW (Fct.ne_of .lang h)⟩, fun h => finPW (Fct.ne_of .story h)⟩, fun h => finPW (Fct.ne_of .kind h)⟩, fun h => finPW (Fct.ne_of .time h)⟩, fun h => finPW (Fct.ne_of .n h)⟩
 refine CallH.pw (fun b1 M => eqStrs_c (O.tops.mono (lkW_kept M)) (V.tops.mono (lkW_kept M)) O.fits.2.1.1) ⟨_, rfl, rfl, fun g1 => ?_, fun g => finPW (Fct.ne_of .topics (of_decide_eq_false (p := x.topics = y.topics) g))⟩
 refine CallH.pw (fun b1 M => sameL_c (O.blks.mono (lkW_kept M)) (V.blks.mono (lkW_kept M)) O.fits.2.2.1) ⟨_, rfl, rfl, fun b3 => ?_, fun g => finPW (Fct.ne_of .blocks (of_decide_eq_false (p := x.blocks = y.blocks) g))⟩
 refine CallH.pw (fun b1 M => labSame_c (O.ints.mono (lkW_kept M)) (V.ints.mono (lkW_kept M)) O.fits.2.2.2) ⟨_, rfl, rfl, fun b4 => ?_, fun g => finPW (Fct.ne_of .label (of_decide_eq_false (p := x.lab = y.lab) g))⟩
 have g1 := of_decide_eq_true g1; have b3 := of_decide_eq_true b3; have b4 := of_decide_eq_true b4
 refine ⟨fun k1 => ⟨fun c7 => ⟨fun c8 => ⟨fun c9 => ⟨fun d0 => ⟨fun d1 => ⟨fun d2 => finPW ?_, fun h => finPW (Fct.ne_of .cls h)⟩, fun h => finPW (Fct.ne_of .partner h)⟩, fun h => finPW (Fct.ne_of .name h)⟩, fun h => finPW (Fct.ne_of .text h)⟩, fun h => finPW (Fct.ne_of .sentence h)⟩, fun h => finPW (Fct.ne_of .block h)⟩, fun h => finPW (Fct.ne_of .editor h)⟩
 congr 1
 rw [decide_eq_decide]
 refine ⟨fun d3 => ?_, fun h => by rw [h]⟩
 apply Fct.ext_get
 intro z
 cases z <;> assumption
abbrev zF3aa (a : Fct) (b x2 x3 : Nat) (x4 x5 c : OA) : Array Value := #[IV a.n, IV a.time, IV a.kind, IV a.story, .string a.lang, IV a.rev, IV a.base, .string a.title, .string a.author, .slice x4 a.topics.length b, .slice x5 a.blocks.length x2, IV a.lab.unt, .slice c a.lab.after.length x3, IV a.lab.appr, IV a.lab.den, IV a.editor, IV a.block, IV a.sentence, .string a.text, .string a.name, IV a.partner, IV a.cls, IV a.unt]
abbrev zF3ab (a : Fct) : Array Value := #[IV a.n, IV a.time, IV a.kind, IV a.story, sZ, IV 0, IV 0, sZ, sZ, .slice none 0 0, .slice none 0 0, IV 0, .slice none 0 0, IV 0, IV 0, IV 0, IV 0, IV 0, sZ, sZ, IV 0, IV 0, IV 0]
abbrev zF3ac (a : Fct) (b x2 x3 : Nat) (x4 x5 c : OA) : Array Value := #[IV a.n, IV a.time, IV a.kind, IV a.story, .string a.lang, IV a.rev, IV a.base, .string a.title, .string a.author, .slice x4 a.topics.length b, .slice x5 a.blocks.length x2, IV a.lab.unt, .slice c a.lab.after.length x3, IV a.lab.appr, IV a.lab.den, IV 0, IV 0, IV 0, sZ, sZ, IV 0, IV 0, IV 0]
abbrev zF3ad (a : Fct) : Array Value := #[IV a.n, IV a.time, IV a.kind, IV a.story, sZ, IV 0, IV 0, sZ, sZ, .slice none 0 0, .slice none 0 0, IV 0, .slice none 0 0, IV 0, IV 0, IV a.editor, IV 0, IV 0, sZ, sZ, IV 0, IV 0, IV 0]
abbrev zF3ae (a : Fct) (b : Nat) (x2 : OA) : Array Value := #[IV a.n, IV a.time, IV a.kind, IV a.story, sZ, IV 0, IV 0, sZ, sZ, .slice none 0 0, .slice none 0 0, IV a.lab.unt, .slice x2 a.lab.after.length b, IV a.lab.appr, IV a.lab.den, IV 0, IV 0, IV 0, sZ, sZ, IV 0, IV 0, IV 0]
abbrev zF3af (a : Fct) : Array Value := #[IV a.n, IV a.time, IV a.kind, IV a.story, .string a.lang, IV 0, IV 0, sZ, sZ, .slice none 0 0, .slice none 0 0, IV 0, .slice none 0 0, IV 0, IV 0, IV 0, IV a.block, IV a.sentence, .string a.text, sZ, IV 0, IV 0, IV 0]
abbrev zF3ag (a : Fct) : Array Value := #[IV a.n, IV a.time, IV a.kind, IV a.story, sZ, IV 0, IV 0, sZ, sZ, .slice none 0 0, .slice none 0 0, IV 0, .slice none 0 0, IV 0, IV 0, IV 0, IV 0, IV 0, .string a.text, sZ, IV 0, IV 0, IV 0]
abbrev zF3ah (a : Fct) : Array Value := #[IV a.n, IV a.time, IV a.kind, IV 0, sZ, IV 0, IV 0, sZ, sZ, .slice none 0 0, .slice none 0 0, IV 0, .slice none 0 0, IV 0, IV 0, IV 0, IV 0, IV 0, .string a.text, .string a.name, IV 0, IV 0, IV 0]
abbrev zF3ai (a : Fct) : Array Value := #[IV a.n, IV a.time, IV a.kind, IV 0, sZ, IV 0, IV 0, sZ, sZ, .slice none 0 0, .slice none 0 0, IV 0, .slice none 0 0, IV 0, IV 0, IV 0, IV 0, IV 0, sZ, sZ, IV a.partner, IV a.cls, IV a.unt]
abbrev zF3aj : Array Value := #[IV 0, IV 0, IV 0, IV 0, sZ, IV 0, IV 0, sZ, sZ, .slice none 0 0, .slice none 0 0, IV 0, .slice none 0 0, IV 0, IV 0, IV 0, IV 0, IV 0, sZ, sZ, IV 0, IV 0, IV 0]
abbrev zF3ak (a : Fct) : Array Value := #[IV a.n, IV a.time, IV a.kind, IV 0, sZ, IV 0, IV 0, sZ, sZ, .slice none 0 0, .slice none 0 0, IV 0, .slice none 0 0, IV 0, IV 0, IV 0, IV 0, IV 0, sZ, sZ, IV a.partner, IV 0, IV a.unt]
noncomputable def used_c0 (d : Fct) (j : OA) (i : Nat) (h : OA) (g : Nat) (f : OA) (e a b c : Nat) (l k : Bool) : Cut := ⟨TP, [], 65, 171, (KC Tryz.f65 62), [(1, PP a), (2, PP b), (4, PP c), (5, .bool l), (6, .bool k)], [(a, .cells (zF3aa d i g e j h f) 38), (b, .cells zF3aj 38), (c, .cells (zF3ab d) 38)]⟩
theorem used_c0_vc (a : Fct) (g : OA) (f : Nat) (e : OA) (d : Nat) (c : OA) (b h j i : Nat) (k l : Bool) (H : VP [] w0 R (.ru [3,200] <| .P 7 29 (a.kind = 1) (.r 2 <| .dD <| .nm [1,2,4,5] <| .ph 20 [0,1,2,3,4,5,6,7,8,9,10] [11,12,13,14,15,16,17,18,19] 2 <| .qu [1,100,1,100,1,100,1,100,1,100,1] <| .dn <| .st 3 <| .st 0 <| .st 3 <| .st 0 <| .st 3 <| .st 0 <| .st 3 <| .st 0 <| .st 3 <| .dn <| .tl <| .r 2 <| .dD <| .nm [1,2,4,5] <| .ph 12 [0,1,2,3,4,5,6] [7,8,9,10,11] 2 <| .qu [1,100,1,100,1,100,1] <| .dn <| .st 3 <| .st 0 <| .st 3 <| .st 0 <| .st 3 <| .dn <| .tl <| .r 2 <| .pm [0,2,1] <| .dD <| .nm [1,2,4,5] <| .ph 7 [0,1,2,3,4,5] [6] 2 <| .qu [101,2] <| .zB 57 k (.qu [100] <| .ex fun p => .qc 100 [.agg (zF3aa a f d b g e c)] [(h, .cells (zF3aa a f d b g e c) 38), (i, .cells (zF3ac a f d b g e c) 38)] (.bool p) <| .qu [1] <| .dn <| .st 3 <| .dn <| .tl <| .r 2 <| .rc 2 0 (.tuple #[.agg (zF3ac a f d b g e c), .bool p]) [(h, .cells (zF3aa a f d b g e c) 38), (i, .cells (zF3ac a f d b g e c) 38), (j, .cells (zF3ac a f d b g e c) 38)]) <| .qu [3] <| .dn <| .st 3 <| .dn <| .tl <| .r 2 <| .rc 2 0 (.tuple #[.agg (zF3ac a f d b g e c), .bool false]) [(h, .cells (zF3aa a f d b g e c) 38), (i, .cells (zF3ac a f d b g e c) 38), (j, .cells (zF3ac a f d b g e c) 38)]) <| .P 6 61 (a.kind = 2) (.ru [4,200,1,202] <| .r 2 <| .pm [0,2,1] <| .dD <| .nm [1,2,4,5] <| .ph 8 [0,1,2,3,4,5,6] [7] 2 <| .qu [101,2] <| .zB 68 k (.qu [1,100] <| .ex fun q => .qc 64 [IV a.editor, IV 1, IV 5] [(h, .cells (zF3aa a f d b g e c) 38), (i, .cells (zF3ad a) 38)] (.bool q) <| .qu [1] <| .dn <| .st 3 <| .dn <| .tl <| .r 2 <| .rc 2 0 (.tuple #[.agg (zF3ad a), .bool q]) [(h, .cells (zF3aa a f d b g e c) 38), (i, .cells (zF3ad a) 38), (j, .cells (zF3ad a) 38)]) <| .qu [4] <| .dn <| .st 3 <| .dn <| .tl <| .r 2 <| .rc 2 0 (.tuple #[.agg (zF3ad a), .bool false]) [(h, .cells (zF3aa a f d b g e c) 38), (i, .cells (zF3ad a) 38), (j, .cells (zF3ad a) 38)]) <| .P 6 73 (a.kind = 3) (.ru [4,200,1,202] <| .r 2 <| .pm [0,2,1] <| .dD <| .nm [1,2,4,5] <| .ph 8 [0,1,2,3,4,5,6] [7] 2 <| .qu [101,2] <| .zB 80 k (.qu [1,100] <| .ex fun s => .qc 101 [.agg #[IV a.lab.unt, .slice c a.lab.after.length b, IV a.lab.appr, IV a.lab.den]] [(h, .cells (zF3aa a f d b g e c) 38), (i, .cells (zF3ae a b c) 38)] (.bool s) <| .qu [1] <| .dn <| .st 3 <| .dn <| .tl <| .r 2 <| .rc 2 0 (.tuple #[.agg (zF3ae a b c), .bool s]) [(h, .cells (zF3aa a f d b g e c) 38), (i, .cells (zF3ae a b c) 38), (j, .cells (zF3ae a b c) 38)]) <| .qu [4] <| .dn <| .st 3 <| .dn <| .tl <| .r 2 <| .rc 2 0 (.tuple #[.agg (zF3ae a b c), .bool false]) [(h, .cells (zF3aa a f d b g e c) 38), (i, .cells (zF3ae a b c) 38), (j, .cells (zF3ae a b c) 38)]) <| .P 6 85 (a.kind = 4) (.r 2 <| .dD <| .nm [1,2,4,5] <| .ph 16 [0,1,2,3,4,5,6,7,8] [9,10,11,12,13,14,15] 2 <| .qu [1,100,1,100,1,100,1,100,1] <| .dn <| .st 3 <| .st 0 <| .st 3 <| .st 0 <| .st 3 <| .st 0 <| .st 3 <| .dn <| .tl <| .r 2 <| .pm [0,2,1] <| .dD <| .nm [1,2,4,5] <| .ph 7 [0,1,2,3,4,5] [6] 2 <| .qu [101,2] <| .zB 101 k (.qu [100] <| .ex fun t => .qc 102 [.agg (zF3aa a f d b g e c)] [(h, .cells (zF3aa a f d b g e c) 38), (i, .cells (zF3af a) 38)] (.bool t) <| .qu [1] <| .dn <| .st 3 <| .dn <| .tl <| .r 2 <| .rc 2 0 (.tuple #[.agg (zF3af a), .bool t]) [(h, .cells (zF3aa a f d b g e c) 38), (i, .cells (zF3af a) 38), (j, .cells (zF3af a) 38)]) <| .qu [3] <| .dn <| .st 3 <| .dn <| .tl <| .r 2 <| .rc 2 0 (.tuple #[.agg (zF3af a), .bool false]) [(h, .cells (zF3aa a f d b g e c) 38), (i, .cells (zF3af a) 38), (j, .cells (zF3af a) 38)]) <| .P 6 105 (a.kind = 5) (.ru [4,200,1,202] <| .r 2 <| .pm [0,2,1] <| .dD <| .nm [1,2,4,5] <| .ph 8 [0,1,2,3,4,5,6] [7] 2 <| .qu [101,2] <| .zB 112 k (.qu [1,100] <| .ex fun u => .qc 103 [.string a.text] [(h, .cells (zF3aa a f d b g e c) 38), (i, .cells (zF3ag a) 38)] (.bool u) <| .qu [1] <| .dn <| .st 3 <| .dn <| .tl <| .r 2 <| .rc 2 0 (.tuple #[.agg (zF3ag a), .bool u]) [(h, .cells (zF3aa a f d b g e c) 38), (i, .cells (zF3ag a) 38), (j, .cells (zF3ag a) 38)]) <| .qu [4] <| .dn <| .st 3 <| .dn <| .tl <| .r 2 <| .rc 2 0 (.tuple #[.agg (zF3ag a), .bool false]) [(h, .cells (zF3aa a f d b g e c) 38), (i, .cells (zF3ag a) 38), (j, .cells (zF3ag a) 38)]) <| .P 7 117 (a.kind = 6) (.ru [5,202,1,201] <| .r 2 <| .rc 1 0 (.tuple #[.agg (zF3ab a), .bool k]) [(h, .cells (zF3aa a f d b g e c) 38), (j, .cells (zF3ab a) 38), (i, .cells (zF3ab a) 38)]) <| .P 5 117 (a.kind = 10) (.ru [3,202,1,201] <| .r 2 <| .rc 1 0 (.tuple #[.agg (zF3ab a), .bool k]) [(h, .cells (zF3aa a f d b g e c) 38), (j, .cells (zF3ab a) 38), (i, .cells (zF3ab a) 38)]) <| .P 6 122 (a.kind = 7) (.r 2 <| .dD <| .nm [1,2,4] <| .ph 10 [0,1,2,3,4] [5,6,7,8,9] 2 <| .qu [1,100,1,100,1] <| .dn <| .st 3 <| .st 0 <| .st 3 <| .st 0 <| .st 3 <| .dn <| .tl <| .r 2 <| .pm [0,2,1] <| .dD <| .nm [1,2,4] <| .ph 10 [0,1,2,3,4,5,6,7,8] [9] 2 <| .hp [(h, .cells (zF3aa a f d b g e c) 38), (i, .cells (zF3ah a) 38)] fun m => .qu [101,1,100] <| .ex fun w => .qc 104 [.string a.name] m (.bool w) <| .qu [1] <| .zB 135 w (.qu [1,100] <| .ex fun n => .qc 105 [.string a.text] m (.bool n) <| .qu [1] <| .dn <| .st 3 <| .dn <| .tl <| .r 2 <| .rc 2 0 (.tuple #[.agg (zF3ah a), .bool n]) [(h, .cells (zF3aa a f d b g e c) 38), (i, .cells (zF3ah a) 38), (j, .cells (zF3ah a) 38)]) <| .qu [4] <| .dn <| .st 3 <| .dn <| .tl <| .r 2 <| .rc 2 0 (.tuple #[.agg (zF3ah a), .bool false]) [(h, .cells (zF3aa a f d b g e c) 38), (i, .cells (zF3ah a) 38), (j, .cells (zF3ah a) 38)]) <| .P 6 140 (a.kind = 8) (.r 2 <| .dD <| .nm [1,2,4,6] <| .ph 14 [0,1,2,3,4,5,6] [7,8,9,10,11,12,13] 2 <| .qu [1,100,1,100,1,100,1] <| .dn <| .st 3 <| .st 0 <| .st 3 <| .st 0 <| .st 3 <| .st 0 <| .st 3 <| .dn <| .tl <| .r 2 <| .pm [0,2,1] <| .dD <| .nm [1,2,4,6] <| .ph 8 [0,1,2,3,4,5,6] [7] 2 <| .qu [101,2] <| .zB 154 l (.qu [1,100] <| .ex fun o => .qc 64 [IV a.cls, IV 0, IV 3] [(h, .cells (zF3aa a f d b g e c) 38), (i, .cells (zF3ai a) 38)] (.bool o) <| .qu [1] <| .dn <| .st 3 <| .dn <| .tl <| .r 2 <| .rc 2 0 (.tuple #[.agg (zF3ai a), .bool o]) [(h, .cells (zF3aa a f d b g e c) 38), (i, .cells (zF3ai a) 38), (j, .cells (zF3ai a) 38)]) <| .qu [4] <| .dn <| .st 3 <| .dn <| .tl <| .r 2 <| .rc 2 0 (.tuple #[.agg (zF3ai a), .bool false]) [(h, .cells (zF3aa a f d b g e c) 38), (i, .cells (zF3ai a) 38), (j, .cells (zF3ai a) 38)]) <| .P 6 159 (a.kind = 9) (.r 2 <| .dD <| .nm [1,2,4,6] <| .ph 10 [0,1,2,3,4] [5,6,7,8,9] 2 <| .qu [1,100,1,100,1] <| .dn <| .st 3 <| .st 0 <| .st 3 <| .st 0 <| .st 3 <| .dn <| .tl <| .ru [3,202,1,201] <| .r 2 <| .rc 1 0 (.tuple #[.agg (zF3ak a), .bool l]) [(h, .cells (zF3aa a f d b g e c) 38), (j, .cells (zF3ak a) 38), (i, .cells (zF3ak a) 38)]) <| .ru [5,202,201] <| .r 2 <| .rc 1 0 (.tuple #[.agg (zF3ab a), .bool false]) [(h, .cells (zF3aa a f d b g e c) 38), (j, .cells (zF3ab a) 38), (i, .cells (zF3ab a) 38)])) : used_c0 a g f e d c b h j i k l w0 R := VC.go Tryz.func65 _ H
theorem used_vc (a : Fct) (h : OA) (g : Nat) (f : OA) (e : Nat) (d : OA) (c : Nat) (hm : Mem [] [] w0 W) (H : VP [] w0 R (.np 2 (.cells (zF3aa a g e c h f d) 38) fun B => .np 0 (.cells zF3aj 38) fun i => .ru [5,200,1,200,1,200,1,200] <| .np 1 (.cells zF3aj 38) fun j => .hp [(B, .cells (zF3aa a g e c h f d) 38), (i, .cells zF3aj 38), (j, .cells (zF3ab a) 38)] fun b => .ru [202,4,200] <| .cl 0 64 [IV a.story, IV 1, IV 64] b <| .ex fun k => .rt (.bool k) b <| .ru [5,200] <| .cl 0 64 [IV a.partner, IV 1, IV 8] b <| .ex fun l => .rt (.bool l) b <| .B 1 22 l (.ru [1,200] <| .cl 0 64 [IV a.unt, IV 0, IV 1000000000] b <| .ex fun m => .rt (.bool m) b <| .ct 4 [0,1,2] (used_c0 a h g f e d c B i j k m)) <| .ct 7 [0,1,2] (used_c0 a h g f e d c B i j k false))) : Calls TP 65 ⟨[.agg (zF3aa a g e c h f d)]⟩ W R := VC.cs Tryz.func65 hm _ H
theorem within_vc (a c b : Int) (hm : Mem [] [] w0 W) (H : VP [] w0 R (.P 10 10 (c ≤ a) (.re 6 (.bool (decide (a ≤ b))) []) <| .re 6 (.bool false) [])) : Calls TP 64 ⟨[IV a, IV c, IV b]⟩ W R := VC.cs Tryz.func64 hm _ H
abbrev zF4aa (a : Fct) (b x2 x3 : Nat) (x4 x5 c : OA) : Array Value := #[IV a.n, IV a.time, IV a.kind, IV a.story, .string a.lang, IV a.rev, IV a.base, .string a.title, .string a.author, .slice x4 a.topics.length b, .slice x5 a.blocks.length x2, IV a.lab.unt, .slice c a.lab.after.length x3, IV a.lab.appr, IV a.lab.den, IV a.editor, IV a.block, IV a.sentence, .string a.text, .string a.name, IV a.partner, IV a.cls, IV a.unt]
theorem fValid_vc (a : Fct) (g : OA) (f : Nat) (e : OA) (d : Nat) (c : OA) (b : Nat) (hm : Mem [] [] w0 W) (H : VP [] w0 R (.np 2 (.cells (zF4aa a f d b g e c) 38) fun B => .hp [(B, .cells (zF4aa a f d b g e c) 38)] fun h => .ru [6,200] <| .il 0 Tryz.func64 [IV a.n, IV 0, IV 500] <| .P 10 10 (0 ≤ a.n) (.rk 6 <| .I 2 9 (a.n ≤ 500) (.re 11 (.bool false) h) <| .ru [1,200] <| .il 0 Tryz.func64 [IV a.time, IV 0, IV 1000000000] <| .P 10 10 (0 ≤ a.time) (.rk 6 <| .I 3 14 (a.time ≤ 1000000000) (.re 5 (.bool false) h) <| .ru [4,200] <| .cl 0 65 [.agg (zF4aa a f d b g e c)] h <| .x5 fun (j : Fct) utp utc ubp ubc => .x3 fun l k m => .rt (.tuple #[.agg (zF4aa j utc ubc k utp ubp l), .bool m]) h <| .np 3 (.cells #[IV 0, IV 0, IV 0, IV 0, sZ, IV 0, IV 0, sZ, sZ, .slice none 0 0, .slice none 0 0, IV 0, .slice none 0 0, IV 0, IV 0, IV 0, IV 0, IV 0, sZ, sZ, IV 0, IV 0, IV 0] 38) fun p => .hp [(B, .cells (zF4aa a f d b g e c) 38), (p, .cells (zF4aa j utc ubc k utp ubp l) 38)] fun i => .ru [201] <| .B 6 21 m (.ru [200,201] <| .cl 0 66 [.agg (zF4aa a f d b g e c), .agg (zF4aa j utc ubc k utp ubp l)] i <| .ex fun o => .rt (.bool o) i <| .re 3 (.bool o) i) <| .re 6 (.bool false) i) <| .rk 6 <| .re 8 (.bool false) h) <| .rk 6 <| .re 13 (.bool false) h)) : Calls TP 24 ⟨[.agg (zF4aa a f d b g e c)]⟩ W R := VC.cs Tryz.func24 hm _ H
abbrev zF5aa (a : Fct) (b x2 x3 : Nat) (x4 x5 c : OA) : Array Value := #[IV a.n, IV a.time, IV a.kind, IV a.story, .string a.lang, IV a.rev, IV a.base, .string a.title, .string a.author, .slice x4 a.topics.length b, .slice x5 a.blocks.length x2, IV a.lab.unt, .slice c a.lab.after.length x3, IV a.lab.appr, IV a.lab.den, IV a.editor, IV a.block, IV a.sentence, .string a.text, .string a.name, IV a.partner, IV a.cls, IV a.unt]
abbrev zF5ab : Array Value := #[IV 0, IV 0, IV 0, IV 0, sZ, IV 0, IV 0, sZ, sZ, .slice none 0 0, .slice none 0 0, IV 0, .slice none 0 0, IV 0, IV 0, IV 0, IV 0, IV 0, sZ, sZ, IV 0, IV 0, IV 0]
noncomputable def eqFcts_c0 (c : OA) (a b : Nat) (f : OA) (e d : Nat) (g : Int) : Cut := ⟨TP, [], 72, 32, (KC Tryz.f72 116), [(1, .slice f e d), (2, .func (.func 66) #[] #[]), (15, .slice c a b), (16, IV (a : Int)), (17, IV g)], []⟩
theorem eqFcts_c0_vc (m : OA) (d l : Nat) (s : OA) (q p : Nat) (c : Int) (H : VP [] w0 R (.P 5 18 (c < (d : Int)) (.r 7 <| .x2 fun w o => .iP m w o d l 23 c (o + ((Int.toNat c) * 23)) <| .x5 fun cw (a : Fct) m1tp m1tc m1bp => .x3 fun h g f => .lWa w (o + ((Int.toNat c) * 23)) 23 38 cw [IV a.n, IV a.time, IV a.kind, IV a.story, .string a.lang, IV a.rev, IV a.base, .string a.title, .string a.author, .slice m1tp a.topics.length m1tc, .slice m1bp a.blocks.length h, IV a.lab.unt, .slice g a.lab.after.length f, IV a.lab.appr, IV a.lab.den, IV a.editor, IV a.block, IV a.sentence, .string a.text, .string a.name, IV a.partner, IV a.cls, IV a.unt] <| .np 0 (.cells zF5ab 38) fun B => .ru [1,200] <| .r 5 <| .x2 fun x t => .iP s x t q p 23 c (t + ((Int.toNat c) * 23)) <| .x5 fun cw1 (b : Fct) m21tp m21tc m21bp => .x3 fun k j i => .lWa x (t + ((Int.toNat c) * 23)) 23 38 cw1 [IV b.n, IV b.time, IV b.kind, IV b.story, .string b.lang, IV b.rev, IV b.base, .string b.title, .string b.author, .slice m21tp b.topics.length m21tc, .slice m21bp b.blocks.length k, IV b.lab.unt, .slice j b.lab.after.length i, IV b.lab.appr, IV b.lab.den, IV b.editor, IV b.block, IV b.sentence, .string b.text, .string b.name, IV b.partner, IV b.cls, IV b.unt] <| .np 0 (.cells zF5ab 38) fun y => .hp [(B, .cells (zF5aa a m1tc h f m1tp m1bp g) 38), (y, .cells (zF5aa b m21tc k i m21tp m21bp j) 38)] fun e => .ru [201,4,200,201] <| .cl 0 66 [.agg (zF5aa a m1tc h f m1tp m1bp g), .agg (zF5aa b m21tc k i m21tp m21bp j)] e <| .ex fun u => .rt (.bool u) e <| .B 0 29 u (.ct 10 [] (eqFcts_c0 m d l s q p (IntKind.i64.wrap (c + 1)))) <| .re 7 (.bool false) e) <| .re 6 (.bool true) [])) : eqFcts_c0 m d l s q p c w0 R := VC.go Tryz.func72 _ H
theorem eqFcts_vc (d : OA) (a c : Nat) (f : OA) (b e : Nat) (hm : Mem [] [] w0 W) (H : VP [] w0 R (.I 13 14 ((a : Int) = (b : Int)) (.re 5 (.bool false) []) <| .ct 11 [] (eqFcts_c0 d a c f b e 0))) : Calls TP 72 ⟨[.slice d a c, .slice f b e, .func (.func 66) #[] #[]]⟩ W R := VC.cs Tryz.func72 hm _ H
theorem fSameL_vc (c : OA) (b a : Nat) (f : OA) (e d : Nat) (hm : Mem [] [] w0 W) (H : VP [] w0 R (.cl 8 72 [.slice c b a, .slice f e d, .func (.func 66) #[] #[]] [] <| .ex fun g => .rt (.bool g) [] <| .re 2 (.bool g) [])) : Calls TP 30 ⟨[.slice c b a, .slice f e d]⟩ W R := VC.cs Tryz.func30 hm _ H
theorem CallH.ex {L : SHeap} {Q : Value → Prop} (h : ∀ W, Mem L S w0 W → Calls P g args W fun e M => ∃ v, e = .returned v ∧ Below W.heap.size W M ∧ Q v) (O : ∀ v, Q v → K v L) : CallH P g args L S w0 K :=
 fun W hm => (h W hm).mono fun e M ⟨v, he, hb, hq⟩ => ⟨v, L, he, hm.after hb, O v hq⟩
theorem finEx {Q : Value → Prop} {v : Value} {L : SHeap} (h : Q v) : Fin (fun e M => ∃ v, e = .returned v ∧ Below W.heap.size W M ∧ Q v) L [] W v := fun _ hm => ⟨v, rfl, hm.kept.below, h⟩
theorem within_c (n a b : Int) : PureC TP 64 ⟨[.int .i64 n, .int .i64 a, .int .i64 b]⟩ (.bool (decide (a ≤ n ∧ n ≤ b))) := fun W => by
 refine within_vc n a b (Mem.start [] W) ⟨fun h => finPure ?_, fun h => finPure ?_⟩
 ·congr 1; rw [decide_eq_decide]; exact ⟨fun M => ⟨h, M⟩, fun M => M.2⟩
 ·rw [decide_eq_false]; exact fun M => h M.1
theorem isRev_c {f : Fct} (h : FAt (lkW W) f tp tc bp bc ap ac) : PW TP 100 ⟨[.agg ⟨f.cells tp tc bp bc ap ac⟩]⟩ W (.bool f.rvOk) := by
 obtain ⟨⟨b0, b1, b3, b6, b7⟩, ⟨t1, b4⟩, b5, a9⟩ := h.fits
 refine isRev_vc f tp tc bp bc ap ac (Mem.start [] W) fun B => ?_
 refine CallH.pure (fName_c _ b0) ⟨_, rfl, rfl, fun a0 => ?_, fun a0 => finPW (by rw [Fct.rvOk, a0]; rfl)⟩
 have a7 : ¬ (1 ≤ f.rev ∧ f.rev ≤ 100) → f.rvOk = false := fun hn => by rw [Fct.rvOk, decide_eq_false hn, Bool.false_and, Bool.and_false]
 refine ⟨fun a3 => ⟨fun a4 => ?_, fun a4 => finPW (by rw [a7 (by omega)])⟩, fun a3 => finPW (by rw [a7 (by omega)])⟩
 have a8 : ¬ (0 ≤ f.base ∧ f.base ≤ f.rev - 1) → f.rvOk = false := fun hn => by rw [Fct.rvOk, decide_eq_false hn, Bool.false_and, Bool.and_false, Bool.and_false]
 rw [wi64 (by omega)]
 refine ⟨fun a5 => ⟨fun a6 => ?_, fun a6 => finPW (by rw [a8 (by omega)])⟩, fun a5 => finPW (by rw [a8 (by omega)])⟩
 have e : f.rvOk = (fillOk f.title && (nameOk f.author && (topicsOk f.topics && (listOk f.blocks && f.lab.ok)))) := by
  rw [Fct.rvOk, a0, decide_eq_true (p := 1 ≤ f.rev ∧ f.rev ≤ 100) ⟨a3, a4⟩, decide_eq_true (p := 0 ≤ f.base ∧ f.base ≤ f.rev - 1) ⟨a5, a6⟩]; rfl
 rw [e]
 refine CallH.pure (fText_c _ b1) ⟨_, rfl, rfl, fun M => ?_, fun M => finPW (by rw [M]; rfl)⟩
 refine CallH.pure (fName_c _ b3) ⟨_, rfl, rfl, fun O => ?_, fun O => finPW (by rw [M, O]; rfl)⟩
 refine CallH.pw (fun a2 V => areTopics_c (h.tops.mono (lkW_kept V)) b4 t1) ⟨_, rfl, rfl, fun Z => ?_, fun Z => finPW (by rw [M, O, Z]; rfl)⟩
 refine CallH.pw (fun a2 V => validL_c (h.blks.mono (lkW_kept V)) h.cb) ⟨_, rfl, rfl, fun a1 => ?_, fun a1 => finPW (by rw [M, O, Z, a1]; rfl)⟩
 exact CallH.pw (fun a2 V => labValid_c (h.ints.mono (lkW_kept V)) a9) ⟨_, rfl, rfl, finPW (by rw [M, O, Z, a1]; rfl)⟩
theorem isCor_c {f : Fct} (h : FAt (lkW W) f tp tc bp bc ap ac) : PW TP 102 ⟨[.agg ⟨f.cells tp tc bp bc ap ac⟩]⟩ W (.bool f.coOk) := by
 obtain ⟨⟨a3, a7, a8, a4, a9⟩, ⟨t1, b0⟩, a6, a5⟩ := h.fits
 refine isCor_vc f tp tc bp bc ap ac (Mem.start [] W) fun B => ?_
 refine CallH.pure (fName_c _ a3) ⟨_, rfl, rfl, fun M => ?_, fun M => finPW (by rw [Fct.coOk, M]; rfl)⟩
 have a1 : ¬ (1 ≤ f.block ∧ f.block ≤ 1000) → f.coOk = false := fun hn => by rw [Fct.coOk, decide_eq_false hn, Bool.false_and, Bool.and_false]
 have a2 : ¬ (0 ≤ f.sentence ∧ f.sentence ≤ 299) → f.coOk = false := fun hn => by rw [Fct.coOk, decide_eq_false hn, Bool.false_and, Bool.and_false, Bool.and_false]
 refine ⟨fun O => ⟨fun V => ⟨fun Z => ⟨fun a0 => ?_, fun a0 => finPW (by rw [a2 (by omega)])⟩, fun Z => finPW (by rw [a2 (by omega)])⟩, fun V => finPW (by rw [a1 (by omega)])⟩, fun O => finPW (by rw [a1 (by omega)])⟩
 refine CallH.pure (fText_c _ a4) ⟨_, rfl, rfl, finPW ?_⟩
 rw [Fct.coOk, M, decide_eq_true (p := 1 ≤ f.block ∧ f.block ≤ 1000) ⟨O, V⟩, decide_eq_true (p := 0 ≤ f.sentence ∧ f.sentence ≤ 299) ⟨Z, a0⟩]; rfl
def UsedQ (lk : Lk) (f : Fct) (v : Value) : Prop :=
 ∃ (u : Fct) (tp : OA) (tc : Nat) (bp : OA) (bc : Nat) (ap : OA) (ac : Nat), v = .tuple #[.agg ⟨u.cells tp tc bp bc ap ac⟩, .bool f.vals] ∧ (f.vals = true → u = f.used) ∧ FAt lk u tp tc bp bc ap ac
theorem used_eq {f : Fct} {l : List Fld} (h : kfields f.kind = l) : f.used = l.foldl (fun g x => g.set x (f.get x)) (Fct.bare f.n f.time f.kind) := by rw [Fct.used, h]
theorem strs_nil {p : OA} : StrsL lk p [] := fun h => absurd h (by simp)
theorem blks_nil {p : OA} : BlksL lk p [] := fun h => absurd h (by simp)
theorem ints_nil {p : OA} : IntsL lk p [] := fun h => absurd h (by simp)
theorem e0_sz : e0.size ≤ 9223372036854775807 := by show 0 ≤ _; omega
theorem kd {f : Fct} {n : Int} {l : List Fld} (h : f.kind = n) (e : kfields n = l) : kfields f.kind = l := by rw [h]; exact e
theorem used1 {f : Fct} (k : f.kind = 1) : ({ Fct.bare f.n f.time f.kind with story := f.story, lang := f.lang, rev := f.rev, base := f.base, title := f.title, author := f.author, topics := f.topics, blocks := f.blocks, lab := f.lab } : Fct) = f.used := by
 rw [used_eq (kd (l := [.story, .lang, .rev, .base, .title, .author, .topics, .blocks, .label]) k rfl)]
 simp only [List.foldl_cons, List.foldl_nil, Fct.set, Fct.get]
theorem vals1 {f : Fct} (k : f.kind = 1) : f.vals = (f.stOk && f.rvOk) := by
 unfold Fct.vals; simp only [k, reduceIte, Int.reduceEq]
theorem used2 {f : Fct} (k : f.kind = 2) : ({ Fct.bare f.n f.time f.kind with story := f.story, editor := f.editor } : Fct) = f.used := by
 rw [used_eq (kd (l := [.story, .editor]) k rfl)]
 simp only [List.foldl_cons, List.foldl_nil, Fct.set, Fct.get]
theorem vals2 {f : Fct} (k : f.kind = 2) : f.vals = (f.stOk && decide (1 ≤ f.editor ∧ f.editor ≤ 5)) := by
 unfold Fct.vals; simp only [k, reduceIte, Int.reduceEq]
theorem used3 {f : Fct} (k : f.kind = 3) : ({ Fct.bare f.n f.time f.kind with story := f.story, lab := f.lab } : Fct) = f.used := by
 rw [used_eq (kd (l := [.story, .label]) k rfl)]
 simp only [List.foldl_cons, List.foldl_nil, Fct.set, Fct.get]
theorem vals3 {f : Fct} (k : f.kind = 3) : f.vals = (f.stOk && f.lab.ok) := by
 unfold Fct.vals; simp only [k, reduceIte, Int.reduceEq]
theorem used4 {f : Fct} (k : f.kind = 4) : ({ Fct.bare f.n f.time f.kind with story := f.story, lang := f.lang, block := f.block, sentence := f.sentence, text := f.text } : Fct) = f.used := by
 rw [used_eq (kd (l := [.story, .lang, .block, .sentence, .text]) k rfl)]
 simp only [List.foldl_cons, List.foldl_nil, Fct.set, Fct.get]
theorem vals4 {f : Fct} (k : f.kind = 4) : f.vals = (f.stOk && f.coOk) := by
 unfold Fct.vals; simp only [k, reduceIte, Int.reduceEq]
theorem used5 {f : Fct} (k : f.kind = 5) : ({ Fct.bare f.n f.time f.kind with story := f.story, text := f.text } : Fct) = f.used := by
 rw [used_eq (kd (l := [.story, .text]) k rfl)]
 simp only [List.foldl_cons, List.foldl_nil, Fct.set, Fct.get]
theorem vals5 {f : Fct} (k : f.kind = 5) : f.vals = (f.stOk && fillOk f.text) := by
 unfold Fct.vals; simp only [k, reduceIte, Int.reduceEq]
theorem used6 {f : Fct} (k : f.kind = 6) : ({ Fct.bare f.n f.time f.kind with story := f.story } : Fct) = f.used := by
 rw [used_eq (kd (l := [.story]) k rfl)]
 simp only [List.foldl_cons, List.foldl_nil, Fct.set, Fct.get]
theorem vals6 {f : Fct} (k : f.kind = 6) : f.vals = (f.stOk) := by
 unfold Fct.vals; simp only [k, reduceIte, Int.reduceEq]
theorem used7 {f : Fct} (k : f.kind = 7) : ({ Fct.bare f.n f.time f.kind with name := f.name, text := f.text } : Fct) = f.used := by
 rw [used_eq (kd (l := [.name, .text]) k rfl)]
 simp only [List.foldl_cons, List.foldl_nil, Fct.set, Fct.get]
theorem vals7 {f : Fct} (k : f.kind = 7) : f.vals = (nameOk f.name && srcOk f.text) := by
 unfold Fct.vals; simp only [k, reduceIte, Int.reduceEq]
theorem used8 {f : Fct} (k : f.kind = 8) : ({ Fct.bare f.n f.time f.kind with partner := f.partner, cls := f.cls, unt := f.unt } : Fct) = f.used := by
 rw [used_eq (kd (l := [.partner, .cls, .unt]) k rfl)]
 simp only [List.foldl_cons, List.foldl_nil, Fct.set, Fct.get]
theorem vals8 {f : Fct} (k : f.kind = 8) : f.vals = (f.paOk && decide (0 ≤ f.cls ∧ f.cls ≤ 3)) := by
 unfold Fct.vals; simp only [k, reduceIte, Int.reduceEq]
theorem used9 {f : Fct} (k : f.kind = 9) : ({ Fct.bare f.n f.time f.kind with partner := f.partner, unt := f.unt } : Fct) = f.used := by
 rw [used_eq (kd (l := [.partner, .unt]) k rfl)]
 simp only [List.foldl_cons, List.foldl_nil, Fct.set, Fct.get]
theorem vals9 {f : Fct} (k : f.kind = 9) : f.vals = (f.paOk) := by
 unfold Fct.vals; simp only [k, reduceIte, Int.reduceEq]
theorem used10 {f : Fct} (k : f.kind = 10) : ({ Fct.bare f.n f.time f.kind with story := f.story } : Fct) = f.used := by
 rw [used_eq (kd (l := [.story]) k rfl)]
 simp only [List.foldl_cons, List.foldl_nil, Fct.set, Fct.get]
theorem vals10 {f : Fct} (k : f.kind = 10) : f.vals = (f.stOk) := by
 unfold Fct.vals; simp only [k, reduceIte, Int.reduceEq]
theorem usedQ {f u : Fct} {b : Bool} (M : f.vals = b) (O : u = f.used) (h : FAt lk u tp tc bp bc ap ac) : UsedQ lk f (.tuple #[.agg ⟨u.cells tp tc bp bc ap ac⟩, .bool b]) :=
 ⟨u, _, _, _, _, _, _, by rw [M], fun _ => O, h⟩
abbrev UR (W : World) (lk : Lk) (f : Fct) : Ending → World → Prop := fun e W' => ∃ v, e = .returned v ∧ Below W.heap.size W W' ∧ UsedQ lk f v
theorem noLists {u : Fct} (M : u.topics = []) (O : u.blocks = []) (V : u.lab.after = []) (Z : u.lang.size ≤ 9223372036854775807 ∧ u.title.size ≤ 9223372036854775807 ∧ u.author.size ≤ 9223372036854775807 ∧ u.text.size ≤ 9223372036854775807 ∧ u.name.size ≤ 9223372036854775807) : FAt lk u none 0 none 0 none 0 :=
 ⟨by rw [M]; exact strs_nil, by rw [O]; exact blks_nil, by rw [V]; exact ints_nil, by rw [M]; exact Nat.le_refl _, by rw [O]; exact Nat.le_refl _, by rw [V]; exact Nat.le_refl _, Z, by rw [M]; exact ⟨by simp, by simp⟩, by rw [O]; simp, by rw [V]; simp⟩
theorem used_loop {f : Fct} (h : FAt (lkW W) f tp tc bp bc ap ac) (g : FAt lk f tp tc bp bc ap ac) {B3 a5 a6 : Nat} {story partner : Bool} (a9 : story = f.stOk) (a8 : partner = f.paOk) :
  used_c0 f tp tc bp bc ap ac B3 a5 a6 story partner W (UR W lk f) := by
 obtain ⟨⟨a3, c2, c3, Z, a4⟩, ⟨t1, c4⟩, a7, a0⟩ := h.fits
 have z := e0_sz
 have a2 : (0 : Nat) ≤ 9223372036854775807 := by omega
 subst a9 a8
 apply used_c0_vc
 refine ⟨fun k => ?_, fun k1 => ⟨fun k => ?_, fun b1 => ⟨fun k => ?_, fun b3 => ⟨fun k => ?_, fun b4 => ⟨fun k => ?_, fun b5 => ⟨fun k => ?_, fun b6 => ⟨fun k => ?_, fun b0 => ⟨fun k => ?_, fun b7 => ⟨fun k => ?_, fun b8 => ⟨fun k => ?_, fun b9 => ?_⟩⟩⟩⟩⟩⟩⟩⟩⟩⟩
 ·have ev := vals1 k
  have q := fun (b : Bool) (O : f.vals = b) => usedQ (lk := lk) O (used1 k) ⟨g.tops, g.blks, g.ints, g.ct, g.cb, g.ca, ⟨a3, c2, c3, z, z⟩, ⟨t1, c4⟩, a7, a0⟩
  exact ⟨fun M => ⟨_, QCallB.pw fun a1 V => isRev_c (h.mono (lkW_kept V)), finEx (q _ (by rw [ev, M]; rfl))⟩, fun M => finEx (q _ (by rw [ev, M]; rfl))⟩
 ·have ev := vals2 k
  have q := fun (b : Bool) (O : f.vals = b) => usedQ (lk := lk) O (used2 k) (noLists rfl rfl rfl ⟨z, z, z, z, z⟩)
  exact ⟨fun M => ⟨_, QCallB.of (within_c _ _ _), finEx (q _ (by rw [ev, M]; rfl))⟩, fun M => finEx (q _ (by rw [ev, M]; rfl))⟩
 ·have ev := vals3 k
  have q := fun (b : Bool) (O : f.vals = b) => usedQ (lk := lk) (tp := none) (tc := 0) (bp := none) (bc := 0) (ap := ap) (ac := ac) O (used3 k) ⟨strs_nil, blks_nil, g.ints, Nat.le_refl _, Nat.le_refl _, g.ca, ⟨z, z, z, z, z⟩, ⟨a2, by simp [Fct.bare, Fct.zero]⟩, a2, a0⟩
  exact ⟨fun M => ⟨_, QCallB.pw fun a1 V => labValid_c (h.ints.mono (lkW_kept V)) a0, finEx (q _ (by rw [ev, M]; rfl))⟩, fun M => finEx (q _ (by rw [ev, M]; rfl))⟩
 ·have ev := vals4 k
  have q := fun (b : Bool) (O : f.vals = b) => usedQ (lk := lk) O (used4 k) (noLists rfl rfl rfl ⟨a3, z, z, Z, z⟩)
  exact ⟨fun M => ⟨_, QCallB.pw fun a1 V => isCor_c (h.mono (lkW_kept V)), finEx (q _ (by rw [ev, M]; rfl))⟩, fun M => finEx (q _ (by rw [ev, M]; rfl))⟩
 ·have ev := vals5 k
  have q := fun (b : Bool) (O : f.vals = b) => usedQ (lk := lk) O (used5 k) (noLists rfl rfl rfl ⟨z, z, z, Z, z⟩)
  exact ⟨fun M => ⟨_, QCallB.of (fText_c _ Z), finEx (q _ (by rw [ev, M]; rfl))⟩, fun M => finEx (q _ (by rw [ev, M]; rfl))⟩
 ·have ev := vals6 k
  have q := fun (b : Bool) (O : f.vals = b) => usedQ (lk := lk) O (used6 k) (noLists rfl rfl rfl ⟨z, z, z, z, z⟩)
  exact finEx (q _ ev)
 ·have ev := vals10 k
  have q := fun (b : Bool) (O : f.vals = b) => usedQ (lk := lk) O (used10 k) (noLists rfl rfl rfl ⟨z, z, z, z, z⟩)
  exact finEx (q _ ev)
 ·have ev := vals7 k
  have q := fun (b : Bool) (O : f.vals = b) => usedQ (lk := lk) O (used7 k) (noLists rfl rfl rfl ⟨z, z, z, Z, a4⟩)
  exact ⟨_, QCallB.of (fName_c _ a4), fun M => ⟨_, QCallB.of (fSource_c _ Z), finEx (q _ (by rw [ev, M]; rfl))⟩, fun M => finEx (q _ (by rw [ev, M]; rfl))⟩
 ·have ev := vals8 k
  have q := fun (b : Bool) (O : f.vals = b) => usedQ (lk := lk) O (used8 k) (noLists rfl rfl rfl ⟨z, z, z, z, z⟩)
  exact ⟨fun M => ⟨_, QCallB.of (within_c _ _ _), finEx (q _ (by rw [ev, M]; rfl))⟩, fun M => finEx (q _ (by rw [ev, M]; rfl))⟩
 ·have ev := vals9 k
  have q := fun (b : Bool) (O : f.vals = b) => usedQ (lk := lk) O (used9 k) (noLists rfl rfl rfl ⟨z, z, z, z, z⟩)
  exact finEx (q _ ev)
 ·have ev : f.vals = false := by unfold Fct.vals; simp only [k1, b1, b3, b4, b5, b6, b7, b8, b9, b0, if_false]
  exact finEx ⟨({ Fct.bare f.n f.time f.kind with story := f.story } : Fct), none, 0, none, 0, none, 0, by rw [ev]; rfl, fun h => absurd h (by rw [ev]; decide), noLists rfl rfl rfl ⟨z, z, z, z, z⟩⟩
theorem used_c {f : Fct} (h : FAt (lkW W) f tp tc bp bc ap ac) (g : FAt lk f tp tc bp bc ap ac) :
  Calls TP 65 ⟨[.agg ⟨f.cells tp tc bp bc ap ac⟩]⟩ W (UR W lk f) := by
 refine used_vc f tp tc bp bc ap ac (Mem.start [] W) fun B O B2 => ?_
 refine CallH.pure (within_c _ _ _) ⟨_, rfl, rfl, ?_⟩
 refine CallH.pure (within_c _ _ _) ⟨_, rfl, rfl, fun M => ?_, fun M => ?_⟩
 ·refine CallH.pure (within_c _ _ _) ⟨_, rfl, rfl, used_loop h g rfl ?_⟩
  have M := of_decide_eq_true M
  rw [Fct.paOk, decide_eq_decide]
  constructor
  ·intro h; omega
  ·intro h; omega
 ·refine used_loop h g rfl ?_
  have M := of_decide_eq_false M
  rw [Fct.paOk, decide_eq_false]
  omega
theorem fValid_c {f : Fct} (h : FAt (lkW W) f tp tc bp bc ap ac) : PW TP 24 ⟨[.agg ⟨f.cells tp tc bp bc ap ac⟩]⟩ W (.bool f.ok) := by
 have V : ¬ (0 ≤ f.n ∧ f.n ≤ 500 ∧ 0 ≤ f.time ∧ f.time ≤ 1000000000) → (Value.bool false) = .bool f.ok := fun hn => by rw [Fct.ok, decide_eq_false hn, Bool.false_and]
 refine fValid_vc f tp tc bp bc ap ac (Mem.start [] W) fun B => ⟨fun Z => ⟨fun a0 => finPW (V (by omega)), fun a0 => ⟨fun a1 => ⟨fun a2 => finPW (V (by omega)), fun a2 => ?_⟩, fun a1 => finPW (V (by omega))⟩⟩, fun Z => finPW (V (by omega))⟩
 have e : f.ok = (f.vals && decide (f = f.used)) := by rw [Fct.ok, decide_eq_true (p := 0 ≤ f.n ∧ f.n ≤ 500 ∧ 0 ≤ f.time ∧ f.time ≤ 1000000000) ⟨Z, a0, a1, a2⟩, Bool.true_and]
 rw [e]
 refine CallH.ex (Q := UsedQ (lkW W) f) (fun a3 M => used_c (h.mono (lkW_kept M)) h) ?_
 rintro v ⟨u, b1, b0, a7, a6, a5, a4, rfl, a8, a9⟩
 refine ⟨u, b1, b0, a7, a6, a5, a4, _, rfl, rfl, fun b3 => ⟨fun O => ?_, fun O => finPW (by rw [O]; rfl)⟩⟩
 refine CallH.pw (fun a3 M => fSame_c (h.mono (lkW_kept M)) (a9.mono (lkW_kept M))) ⟨_, rfl, rfl, finPW ?_⟩
 rw [O, a8 O, Bool.true_and]
def FctsL (lk : Lk) (p : OA) (l : List Fct) : Prop :=
 0 < l.length → ∃ (b o : Nat) (c : List Value), p = some ⟨b, o, none⟩ ∧ lk b c ∧ ∀ i (h : i < l.length), o + i * 23 + 23 ≤ c.length ∧ FctL lk ((c.drop (o + i * 23)).take 23) l[i]
theorem FctL.mono {lk M : Lk} {cs : List Value} {f : Fct} (h : FctL lk cs f) (Z : ∀ b c, lk b c → M b c) : FctL M cs f := by
 obtain ⟨tp, tc, bp, bc, ap, ac, O, V⟩ := h
 exact ⟨tp, tc, bp, bc, ap, ac, O, V.mono Z⟩
theorem FctsL.mono {lk V : Lk} {p : OA} {l : List Fct} (h : FctsL lk p l) (O : ∀ b c, lk b c → V b c) : FctsL V p l := by
 intro hp
 obtain ⟨b, o, c, Z, a0, M⟩ := h hp
 exact ⟨b, o, c, Z, O b c a0, fun i hi => ⟨(M i hi).1, (M i hi).2.mono O⟩⟩
theorem FctsL.get {p : OA} {l : List Fct} (h : FctsL lk p l) {i : Nat} (hi : i < l.length) :
  ∃ (b o : Nat) (c : List Value), p = some ⟨b, o, none⟩ ∧ lk b c ∧ o + i * 23 + 23 ≤ c.length ∧ FctL lk ((c.drop (o + i * 23)).take 23) l[i] := by
 obtain ⟨b, o, c, O, V, M⟩ := h (by omega)
 exact ⟨b, o, c, O, V, (M i hi).1, (M i hi).2⟩
theorem eqFcts_loop {p q : OA} {a8 a9 : Nat} {a b : List Fct} (Z : FctsL (lkW w0) p a) (a0 : FctsL (lkW w0) q b) (b9 : a.length = b.length) (hm : a.length ≤ 9223372036854775807) (M : ∀ L v, Fin R [] [] w0 v → Fin R L [] w0 v) :
  ∀ (g i : Nat), g + i = a.length → Fin R [] [] w0 (.bool (decide (a.drop i = b.drop i))) → eqFcts_c0 p a.length a8 q b.length a9 (i : Int) w0 R
 | 0, i, hg, H => by
  apply eqFcts_c0_vc
  refine no (by omega) (finEq H ?_)
  rw [List.drop_of_length_le (by omega), List.drop_of_length_le (by omega)]
  simp
 | g + 1, i, hg, H => by
  apply eqFcts_c0_vc
  have O : i < a.length := by omega
  have V : i < b.length := by omega
  obtain ⟨a2, o1, c1, e1, b0, b1, tp, tc, bp, bc, ap, ac, b3, b4⟩ := Z.get O
  obtain ⟨B2, c2, a7, f1, b5, b6, c4, c3, a6, a5, a4, a3, b7, b8⟩ := a0.get V
  simp only [drop_eq O V] at H
  refine yes (by omega) ⟨a2, o1, e1, by omega, c1, a[i], tp, tc, bp, bc, ap, ac, b0, ⟨by simpa using b3, by simpa using b1⟩, fun B3 =>
   ⟨B2, c2, f1, by omega, a7, b[i], c4, c3, a6, a5, a4, a3, b5, ⟨by simpa using b7, by simpa using b6⟩, fun c5 => ?_⟩⟩
  refine CallH.pw (fun c6 a1 => fSame_c (b4.mono (lkW_kept a1)) (b8.mono (lkW_kept a1))) ⟨_, rfl, rfl, fun h => ?_, fun h => M _ _ (finEq H ?_)⟩
  ·have h := of_decide_eq_true h
   rw [wi64 (by omega), show (i : Int) + 1 = ((i + 1 : Nat) : Int) by omega]
   refine eqFcts_loop Z a0 b9 hm M g (i + 1) (by omega) (finEq H ?_)
   simp [h]
  ·have h := of_decide_eq_false h
   simp [h]
theorem fSameL_c {p q : OA} {M O : Nat} {a b : List Fct} (V : FctsL (lkW W) p a) (Z : FctsL (lkW W) q b) (hm : a.length ≤ 9223372036854775807) :
  PW TP 30 ⟨[.slice p a.length M, .slice q b.length O]⟩ W (.bool (decide (a = b))) := by
 refine fSameL_vc p a.length M q b.length O (Mem.start [] W) (CallH.pw (v := .bool (decide (a = b))) (fun a1 a0 => ?_) ⟨_, rfl, rfl, finPW rfl⟩)
 have V := V.mono (lkW_kept a0)
 have Z := Z.mono (lkW_kept a0)
 refine eqFcts_vc p a.length M q b.length O (Mem.start [] a1) ⟨fun h => finPW ?_, fun h => eqFcts_loop V Z (by omega) hm pwLoose a.length 0 (by omega) (finPW ?_)⟩
 ·rw [decide_eq_false]
  intro a2; subst a2; exact h rfl
 ·simp
end Go.Eng
