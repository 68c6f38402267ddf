/- A part of the proof. -/
import Derived.Shelf.Strings.Repeat
import Derived.Test.YtfobdgoklnhebaaGreatDoorProg
import Derived.Test.YtfobdgoklnhebaaGreatDoorChecked
import Derived.Test.YtfobdgoklnhebaaGreatDoorDamE
set_option linter.unusedVariables false
set_option linter.unusedSimpArgs false
set_option maxRecDepth 100000
namespace Go.Proofs
section
open Go.Shelf
def Tryz.lays105_ren : Go.Shelf.Ren := ⟨fun | 105 => 111 | 212 => 151 | 99 => 152 | 165 => 153 | 166 => 109 | 170 => 154 | 169 => 60 | 263 => 174 | 264 => 175 | 206 => 176 | 240 => 150 | 241 => 177 | 276 => 173 | 277 => 195 | n => n, fun | 9 => 9 | 3 => 3 | 4 => 4 | 20 => 20 | 0 => 0 | 46 => 185 | 109 => 210 | 5 => 5 | 72 => 103 | 76 => 167 | 51 => 184 | 146 => 223 | 53 => 141 | 148 => 225 | 70 => 101 | 37 => 47 | 75 => 166 | 127 => 158 | 164 => 221 | 80 => 108 | n => n, fun | n => n⟩
theorem Tryz.lays105 : Go.Proofs.Lays.n105 Tryz.prog Tryz.lays105_ren := {
 mixed := by kernel_rfl
 f99 := Tryz.func152.trans (congrArg some (by kernel_rfl))
 f105 := Tryz.func111.trans (congrArg some (by kernel_rfl))
 f165 := Tryz.func153.trans (congrArg some (by kernel_rfl))
 f166 := Tryz.func109.trans (congrArg some (by kernel_rfl))
 f169 := Tryz.func60.trans (congrArg some (by kernel_rfl))
 f170 := Tryz.func154.trans (congrArg some (by kernel_rfl))
 f206 := Tryz.func176.trans (congrArg some (by kernel_rfl))
 f212 := Tryz.func151.trans (congrArg some (by kernel_rfl))
 f240 := Tryz.func150.trans (congrArg some (by kernel_rfl))
 f241 := Tryz.func177.trans (congrArg some (by kernel_rfl))
 f263 := Tryz.func174.trans (congrArg some (by kernel_rfl))
 f264 := Tryz.func175.trans (congrArg some (by kernel_rfl))
 f276 := Tryz.func173.trans (congrArg some (by kernel_rfl))
 f277 := Tryz.func195.trans (congrArg some (by kernel_rfl))
 t0 := Tryz.underlying0
 a0 := Tryz.isAgg0
 z0 := Tryz.sizeOf0
 v0 := Tryz.zeroValue0
 t3 := Tryz.underlying3
 a3 := Tryz.isAgg3
 z3 := Tryz.sizeOf3
 v3 := Tryz.zeroValue3
 t4 := Tryz.underlying4
 a4 := Tryz.isAgg4
 z4 := Tryz.sizeOf4
 v4 := Tryz.zeroValue4
 t5 := Tryz.underlying5
 a5 := Tryz.isAgg5
 z5 := Tryz.sizeOf5
 v5 := Tryz.zeroValue5
 t9 := Tryz.underlying9
 a9 := Tryz.isAgg9
 z9 := Tryz.sizeOf9
 v9 := Tryz.zeroValue9
 t20 := Tryz.underlying20
 a20 := Tryz.isAgg20
 z20 := Tryz.sizeOf20
 v20 := Tryz.zeroValue20
 t37 := Tryz.underlying47
 a37 := Tryz.isAgg47
 z37 := Tryz.sizeOf47
 v37 := Tryz.zeroValue47
 t46 := Tryz.underlying185
 a46 := Tryz.isAgg185
 z46 := Tryz.sizeOf185
 v46 := Tryz.zeroValue185
 t51 := Tryz.underlying184
 a51 := Tryz.isAgg184
 z51 := Tryz.sizeOf184
 v51 := Tryz.zeroValue184
 t53 := Tryz.underlying141
 a53 := Tryz.isAgg141
 z53 := Tryz.sizeOf141
 v53 := Tryz.zeroValue141
 t70 := Tryz.underlying101
 a70 := Tryz.isAgg101
 z70 := Tryz.sizeOf101
 v70 := Tryz.zeroValue101
 t72 := Tryz.underlying103
 a72 := Tryz.isAgg103
 z72 := Tryz.sizeOf103
 v72 := Tryz.zeroValue103
 t75 := Tryz.underlying166
 a75 := Tryz.isAgg166
 z75 := Tryz.sizeOf166
 v75 := Tryz.zeroValue166
 t76 := Tryz.underlying167
 a76 := Tryz.isAgg167
 z76 := Tryz.sizeOf167
 v76 := Tryz.zeroValue167
 t109 := Tryz.underlying210
 a109 := Tryz.isAgg210
 z109 := Tryz.sizeOf210
 v109 := Tryz.zeroValue210
 t127 := Tryz.underlying158
 a127 := Tryz.isAgg158
 z127 := Tryz.sizeOf158
 v127 := Tryz.zeroValue158
 t146 := Tryz.underlying223
 a146 := Tryz.isAgg223
 z146 := Tryz.sizeOf223
 v146 := Tryz.zeroValue223
 t148 := Tryz.underlying225
 a148 := Tryz.isAgg225
 z148 := Tryz.sizeOf225
 v148 := Tryz.zeroValue225
 t164 := Tryz.underlying221
 a164 := Tryz.isAgg221
 z164 := Tryz.sizeOf221
 v164 := Tryz.zeroValue221 }
theorem Tryz.Builder_Extra_105 : Builder.Extra Tryz.prog Tryz.lays105_ren := {
 sizeBuilder := by kernel_rfl
 liesBuilder := by kernel_rfl
 t5 := Tryz.underlying5
 a5 := Tryz.isAgg5
 z5 := Tryz.sizeOf5
 v5 := Tryz.zeroValue5
 infoByte := by kernel_rfl
 cellsByte := by kernel_rfl
 sizeByte := by kernel_rfl
 neB5 := by decide }
open Go.RowKit Go.Lib in
theorem Tryz.strings_Repeat (s : ByteArray) (c : Nat) (w : World) (hc : c ≤ 9223372036854775807) (hlen : s.size * c ≤ 140737488355328) :
  Calls Tryz.prog 111 #[.string s, .int .i64 c] w fun e w' => e = .returned (.string ⟨(Lib.repeatL s.data.toList c).toArray⟩) ∧ Below w.heap.size w w' := Any.strings_Repeat Tryz.lays105 Tryz.Builder_Extra_105 s c w hc hlen
end
end Go.Proofs
namespace Wire
def bitStep (r : Nat) : Nat := if r % 2 = 1 then r / 2 ^^^ 2197175160 else r / 2
def steps : Nat → Nat → Nat
 | 0, r => r
 | n + 1, r => steps n (bitStep r)
def crcByte (r b : Nat) : Nat := steps 8 (r ^^^ b)
def crcFrom (r : Nat) (l : List UInt8) : Nat := l.foldl (fun r b => crcByte r b.toNat) r
def crc (l : List UInt8) : Nat := 4294967295 ^^^ crcFrom 4294967295 l
theorem xor_mod2 (a b : Nat) : (a ^^^ b) % 2 = (a % 2 + b % 2) % 2 := by
 have M := Nat.mod_two_eq_zero_or_one a
 have O := Nat.mod_two_eq_zero_or_one b
 have V := Nat.mod_two_eq_zero_or_one (a ^^^ b)
 have h := Nat.testBit_xor a b 0
 simp only [Nat.testBit_zero] at h
 rcases M with M | M <;> rcases O with O | O <;> rcases V with V | V <;> simp_all
theorem xor_div2 (a b : Nat) : (a ^^^ b) / 2 = a / 2 ^^^ b / 2 := by
 apply Nat.eq_of_testBit_eq
 intro j
 rw [← Nat.testBit_add_one, Nat.testBit_xor, Nat.testBit_add_one, Nat.testBit_add_one, Nat.testBit_xor]
theorem bitStep_xor (a b : Nat) : bitStep (a ^^^ b) = bitStep a ^^^ bitStep b := by
 unfold bitStep
 rw [xor_mod2, xor_div2]
 have M := Nat.mod_two_eq_zero_or_one a
 have O := Nat.mod_two_eq_zero_or_one b
 rcases M with M | M <;> rcases O with O | O <;> simp only [M, O, Nat.zero_add, Nat.add_zero, Nat.reduceAdd, Nat.reduceMod, if_true, if_false, Nat.zero_ne_one]
 ·rw [Nat.xor_assoc]
 ·rw [Nat.xor_assoc, Nat.xor_assoc]; congr 1; exact Nat.xor_comm ..
 ·have : ∀ x y p : Nat, x ^^^ y = (x ^^^ p) ^^^ (y ^^^ p) := by
   intro x y p
   rw [Nat.xor_assoc, ← Nat.xor_assoc p, Nat.xor_comm p y, Nat.xor_assoc y, Nat.xor_self, Nat.xor_zero]
  exact this _ _ _
theorem steps_xor : ∀ (n a b : Nat), steps n (a ^^^ b) = steps n a ^^^ steps n b
 | 0, _, _ => rfl
 | n + 1, a, b => by rw [steps, steps, steps, bitStep_xor, steps_xor n]
theorem steps_add : ∀ (m n r : Nat), steps (m + n) r = steps n (steps m r)
 | 0, n, r => by rw [Nat.zero_add]; rfl
 | m + 1, n, r => by rw [Nat.add_right_comm, steps, steps, steps_add m n]
theorem bitStep_even (h : Nat) : bitStep (2 * h) = h := by
 unfold bitStep; rw [if_neg (by omega)]; omega
theorem steps_shift : ∀ (n h : Nat), steps n (2 ^ n * h) = h
 | 0, h => by simp [steps]
 | n + 1, h => by rw [steps, Nat.pow_succ, Nat.mul_comm (2 ^ n) 2, Nat.mul_assoc, bitStep_even, steps_shift n]
theorem bitStep_zero : bitStep 0 = 0 := rfl
theorem steps_zero : ∀ n, steps n 0 = 0
 | 0 => rfl
 | n + 1 => by rw [steps, bitStep_zero, steps_zero n]
theorem bitStep_lt {r : Nat} (h : r < 2 ^ 32) : bitStep r < 2 ^ 32 := by
 unfold bitStep; split
 ·exact Nat.xor_lt_two_pow (by omega) (by decide)
 ·omega
theorem steps_lt : ∀ (n : Nat) {r : Nat}, r < 2 ^ 32 → steps n r < 2 ^ 32
 | 0, _, h => h
 | n + 1, _, h => steps_lt n (bitStep_lt h)
theorem bitStep_ne {r : Nat} (h : r < 2 ^ 32) (V : r ≠ 0) : bitStep r ≠ 0 := by
 unfold bitStep; split
 ·intro M
  have O : r / 2 = 2197175160 := by
   have : (r / 2 ^^^ 2197175160) ^^^ 2197175160 = 0 ^^^ 2197175160 := by rw [M]
   rw [Nat.xor_assoc, Nat.xor_self, Nat.xor_zero, Nat.zero_xor] at this
   exact this
  omega
 ·omega
theorem steps_ne : ∀ (n : Nat) {r : Nat}, r < 2 ^ 32 → r ≠ 0 → steps n r ≠ 0
 | 0, _, _, hr => hr
 | n + 1, _, h, hr => steps_ne n (bitStep_lt h) (bitStep_ne h hr)
theorem byte_lt (b : UInt8) : b.toNat < 2 ^ 32 := by have := b.toNat_lt; omega
theorem crcByte_lt {r b : Nat} (h : r < 2 ^ 32) (M : b < 2 ^ 32) : crcByte r b < 2 ^ 32 := steps_lt 8 (Nat.xor_lt_two_pow h M)
theorem crcFrom_lt : ∀ (l : List UInt8) {r : Nat}, r < 2 ^ 32 → crcFrom r l < 2 ^ 32
 | [], _, h => h
 | b :: l, _, h => crcFrom_lt l (crcByte_lt h (byte_lt b))
theorem crc_lt (l : List UInt8) : crc l < 2 ^ 32 := Nat.xor_lt_two_pow (by decide) (crcFrom_lt l (by decide))
def shiftTab : List Nat := [0x00000000, 0x105ec76f, 0x20bd8ede, 0x30e349b1, 0x417b1dbc, 0x5125dad3, 0x61c69362, 0x7198540d, 0x82f63b78, 0x92a8fc17, 0xa24bb5a6, 0xb21572c9, 0xc38d26c4, 0xd3d3e1ab, 0xe330a81a, 0xf36e6f75]
theorem tab_steps : ∀ q : Fin 16, steps 4 q.val = shiftTab.getD q.val 0 := by decide
theorem nibble (r : Nat) : steps 4 r = r / 16 ^^^ shiftTab.getD (r % 16) 0 := by
 have h : r = 2 ^ 4 * (r / 16) ^^^ r % 16 := by
  have M := Nat.two_pow_add_eq_or_of_lt (i := 4) (b := r % 16) (by omega) (r / 16)
  have O : 2 ^ 4 * (r / 16) ^^^ r % 16 = 2 ^ 4 * (r / 16) ||| r % 16 := by
   apply Nat.eq_of_testBit_eq
   intro j
   rw [Nat.testBit_xor, Nat.testBit_or, Nat.testBit_two_pow_mul]
   by_cases hj : j < 4
   ·simp [show ¬ 4 ≤ j by omega]
   ·have : (r % 16).testBit j = false := Nat.testBit_lt_two_pow (Nat.lt_of_lt_of_le (Nat.mod_lt _ (by decide)) (Nat.pow_le_pow_right (n := 2) (i := 4) (by decide) (by omega)))
    simp [this]
  rw [O, ← M]; omega
 conv => lhs; rw [h]
 rw [steps_xor, steps_shift, tab_steps ⟨r % 16, Nat.mod_lt _ (by decide)⟩]
theorem crcByte_nib (r b : Nat) : crcByte r b = steps 4 (steps 4 (r ^^^ b)) := steps_add 4 4 _
theorem crcFrom_reg (l : List UInt8) : ∀ (r d : Nat), crcFrom (r ^^^ d) l = crcFrom r l ^^^ steps (8 * l.length) d := by
 induction l with
 | nil => exact fun r d => rfl
 | cons b l ih =>
  intro r d
  have e : crcByte (r ^^^ d) b.toNat = crcByte r b.toNat ^^^ steps 8 d := by
   unfold crcByte
   rw [← steps_xor]; congr 1; ac_rfl
  have M : 8 * (b :: l).length = 8 + 8 * l.length := by rw [List.length_cons]; omega
  rw [M, steps_add]
  show crcFrom (crcByte (r ^^^ d) b.toNat) l = crcFrom (crcByte r b.toNat) l ^^^ _
  rw [e, ih]
theorem burst_end {N E : Nat} {l l' : List UInt8} (V : E < 2 ^ 32) (h : crcFrom 4294967295 l' = crcFrom 4294967295 l ^^^ steps N E) : crc l' = crc l ↔ E = 0 := by
 unfold crc
 rw [h]
 constructor
 ·intro Z
  by_cases M : E = 0
  ·exact M
  refine absurd ?_ (steps_ne N V M)
  have : ∀ a b d : Nat, a ^^^ (b ^^^ d) = a ^^^ b → d = 0 := by
   intro a b d a0
   have O : (a ^^^ b) ^^^ ((a ^^^ b) ^^^ d) = (a ^^^ b) ^^^ (a ^^^ b) := by rw [Nat.xor_assoc a b d, a0]
   rw [← Nat.xor_assoc, Nat.xor_self, Nat.zero_xor] at O
   exact O
  exact this _ _ _ Z
 ·intro M; rw [M, steps_zero, Nat.xor_zero]
end Wire
namespace Go.Eng
open Go Go.RowKit Go.Proofs Wire
def tabV : List Value := shiftTab.map fun n : Nat => .int .u32 (n : Int)
theorem tabV_get {q : Nat} (h : q < 16) : tabV[q]? = some (.int .u32 ((shiftTab.getD q 0 : Nat) : Int)) := by
 have M : q < shiftTab.length := h
 simp only [tabV, List.getElem?_map, List.getElem?_eq_getElem M, Option.map_some, List.getD_eq_getElem?_getD, Option.getD_some]
theorem tab_lt {q : Nat} (h : q < 16) : shiftTab.getD q 0 < 2 ^ 32 := by
 have : ∀ q : _root_.Fin 16, shiftTab.getD q.val 0 < 2 ^ 32 := by decide
 exact this ⟨q, h⟩
theorem inot32 {r : Nat} (h : r < 2 ^ 32) : inot .u32 (r : Int) = ((4294967295 ^^^ r : Nat) : Int) := by
 show ixor .u32 ((4294967295 : Nat) : Int) (r : Int) = _
 rw [ixor32 (by decide) h]
theorem crcFrom_cons (r : Nat) (b : UInt8) (l : List UInt8) : crcFrom r (b :: l) = crcFrom (crcByte r b.toNat) l := rfl
theorem Sum_loop {s : BA} (b5 : s.size < 4611686018427387904) {w0 : World} (a4 : blkW w0 0 = some tabV) : ∀ (g i r : Nat), g + i = s.size → r < 2 ^ 32 → crcFrom 4294967295 (bts s) = crcFrom r ((bts s).drop i) →
  Sum_c0 s (r : Int) (i : Int) w0 (fun e a7 => e = .returned (.int .i64 (crc (bts s) : Int)) ∧ Below w0.heap.size w0 a7)
 | 0, i, r, hg, hr, H => by
  apply Sum_c0_vc
  refine ⟨fun h => absurd h (by omega), fun _ => ?_⟩
  rintro t rfl
  refine finPure ?_
  have b0 : (bts s).drop i = [] := List.drop_of_length_le (by rw [bts_len]; omega)
  rw [b0] at H
  have M : 4294967295 ^^^ r < 2 ^ 32 := Nat.xor_lt_two_pow (by decide) hr
  rw [inot32 hr, wi64 (by omega), crc, H]; rfl
 | g + 1, i, r, hg, hr, H => by
  apply Sum_c0_vc
  have a1 : i < (bts s).length := by rw [bts_len]; omega
  have b4 : (bts s).drop i = (bts s)[i] :: (bts s).drop (i + 1) := List.drop_eq_getElem_cons a1
  rw [b4] at H
  obtain ⟨B, Z⟩ : ∃ B : UInt8, B = (bts s)[i] := ⟨_, rfl⟩
  rw [← Z] at H
  have b6 := B.toNat_lt
  refine ⟨fun _ => ⟨by omega, ?_⟩, fun h => absurd (by omega) h⟩
  rintro b9 a3
  rw [bat_get a1, ← Z, wu32 (by omega), ixor32 hr (by omega)] at a3
  subst a3
  have M : r ^^^ B.toNat < 2 ^ 32 := Nat.xor_lt_two_pow hr (by omega)
  obtain ⟨x, a5⟩ : ∃ x, x = r ^^^ B.toNat := ⟨_, rfl⟩
  rw [← a5] at M ⊢
  have a0 : ∀ x : Nat, x < 2 ^ 32 → ∀ K : Int → Prop, K (steps 4 x : Int) → (0 ≤ ((x : Int).tmod (16 : Int)) ∧ ((x : Int).tmod (16 : Int)) < 16) ∧
    ∃ (V : List Value) (a6 : Int), blkW w0 0 = some V ∧ V[(Int.toNat ((x : Int).tmod (16 : Int)))]? = some (.int .u32 a6) ∧ ∀ O : Int, O = (ixor .u32 ((x : Int).fdiv (2 ^ 4)) a6) → K O := by
   intro x M K b1
   have a2 : x % 16 < 16 := Nat.mod_lt _ (by decide)
   have e1 : (x : Int).tmod 16 = ((x % 16 : Nat) : Int) := tmod_nat x 16
   have a8 : (x : Int).fdiv (2 ^ 4) = ((x / 16 : Nat) : Int) := fdiv_nat x 16
   rw [e1, a8, Int.toNat_natCast]
   refine ⟨by omega, tabV, _, a4, tabV_get a2, ?_⟩
   rintro O rfl
   rw [ixor32 (by omega) (tab_lt a2), ← nibble]; exact b1
  refine (a0 x M (fun O => _) ?_)
  refine (a0 (steps 4 x) (steps_lt 4 M) (fun c2 => _) ?_)
  rintro b7 rfl
  have a9 : IntKind.i64.wrap ((i : Int) + 1) = ((i + 1 : Nat) : Int) := by rw [wi64 (by omega)]; omega
  rw [a9]
  have b3 : steps 4 (steps 4 x) = crcByte r B.toNat := by rw [crcByte_nib, a5]
  rw [b3]
  exact Sum_loop b5 a4 g (i + 1) _ (by omega) (crcByte_lt hr (byte_lt B)) (by rw [H, crcFrom_cons])
theorem Sum_c (s : BA) (M : s.size < 4611686018427387904) : PureG TP 86 ⟨[.string s]⟩ 0 tabV (.int .i64 (crc (bts s) : Int)) :=
 fun W O => Sum_vc s (Mem.start [] W) (Sum_loop M O s.size 0 4294967295 (by omega) (by decide) rfl)
theorem rSum_loops {s : BA} (b3 : s.size < 4611686018427387904) {w0 : World} : ∀ (g : Nat),
  (∀ i r, g + i = s.size → r < 2 ^ 32 → crcFrom 4294967295 (bts s) = crcFrom r ((bts s).drop i) →
   rSum_c0 s (r : Int) (i : Int) w0 (fun e Z => e = .returned (.int .i64 (crc (bts s) : Int)) ∧ Below w0.heap.size w0 Z))
 | 0 => by
  intro i r b0 M H
  apply rSum_c0_vc
  refine ⟨fun h => absurd h (by omega), fun _ => ?_⟩
  rintro t rfl
  refine finPure ?_
  have a8 : (bts s).drop i = [] := List.drop_of_length_le (by rw [bts_len]; omega)
  rw [a8] at H
  have O : 4294967295 ^^^ r < 2 ^ 32 := Nat.xor_lt_two_pow (by decide) M
  rw [inot32 M, wi64 (by omega), crc, H]; rfl
 | g + 1 => by
  intro i r b0 M H
  have b4 : ∀ (q k x : Nat), q + k = 8 → x < 2 ^ 32 → crcFrom 4294967295 (bts s) = crcFrom (steps q x) ((bts s).drop (i + 1)) →
    rSum_c1 s (x : Int) (i : Int) (k : Int) w0 (fun e Z => e = .returned (.int .i64 (crc (bts s) : Int)) ∧ Below w0.heap.size w0 Z) := by
   intro q
   induction q with
   | zero =>
    intro k x b1 O V
    apply rSum_c1_vc
    refine ⟨fun h => absurd h (by omega), fun _ => ?_⟩
    rintro b6 rfl
    have a6 : IntKind.i64.wrap ((i : Int) + 1) = ((i + 1 : Nat) : Int) := by rw [wi64 (by omega)]; omega
    rw [a6]
    exact rSum_loops b3 g (i + 1) x (by omega) O V
   | succ q ih =>
    intro k x b1 O V
    apply rSum_c1_vc
    have a7 : IntKind.i64.wrap ((k : Int) + 1) = ((k + 1 : Nat) : Int) := by rw [wi64 (by omega)]; omega
    have e1 : (x : Int).tdiv 2 = ((x / 2 : Nat) : Int) := tdiv_nat x 2
    have a5 : (x : Int).tmod 2 = ((x % 2 : Nat) : Int) := tmod_nat x 2
    rw [a7, e1, a5, wu32 (by omega)]
    refine ⟨fun _ => ?_, fun h => absurd (by omega) h⟩
    rintro b9 rfl
    refine ⟨fun h => ?_, fun h => ?_⟩
    ·rintro c2 a4 _ rfl
     have hp : (2197175160 : Int) = ((2197175160 : Nat) : Int) := rfl
     rw [hp, ixor32 (by omega) (by decide)] at a4
     subst a4
     have a0 : bitStep x = x / 2 ^^^ 2197175160 := by rw [bitStep, if_pos (by omega)]
     rw [← a0]
     exact ih (k + 1) _ (by omega) (bitStep_lt O) V
    ·rintro _ rfl
     have a0 : bitStep x = x / 2 := by rw [bitStep, if_neg (by omega)]
     rw [← a0]
     exact ih (k + 1) _ (by omega) (bitStep_lt O) V
  apply rSum_c0_vc
  have a2 : i < (bts s).length := by rw [bts_len]; omega
  have a9 : (bts s).drop i = (bts s)[i] :: (bts s).drop (i + 1) := List.drop_eq_getElem_cons a2
  rw [a9] at H
  obtain ⟨B, a1⟩ : ∃ B : UInt8, B = (bts s)[i] := ⟨_, rfl⟩
  rw [← a1] at H
  have b5 := B.toNat_lt
  refine ⟨fun _ => ⟨by omega, ?_⟩, fun h => absurd (by omega) h⟩
  rintro b7 a3
  rw [bat_get a2, ← a1, wu32 (by omega), ixor32 M (by omega)] at a3
  subst a3
  exact b4 8 0 _ rfl (Nat.xor_lt_two_pow M (by omega)) (by rw [H, crcFrom_cons]; rfl)
theorem rSum_c (s : BA) (M : s.size < 4611686018427387904) : PureC TP 93 ⟨[.string s]⟩ (.int .i64 (crc (bts s) : Int)) :=
 fun W => rSum_vc s (Mem.start [] W) (rSum_loops M s.size 0 4294967295 (by omega) (by decide) rfl)
variable {P : Program} {R : Ending → World → Prop} {S : List Nat} {w0 W : World} {lk : Lk} {tp bp ap : OA} {tc bc ac : Nat} {K K' : Value → SHeap → Prop} {args : Array Value} {g : FuncId}
abbrev zJ1aa (a : Fct) (b x2 x3 : Nat) (x4 x5 c : OA) : Array Value := #[IV a.n, IV a.time, IV a.kind, IV a.story, .string a.lang, IV a.rev, IV a.base, .string a.title, .string a.author, .slice x4 a.topics.length b, .slice x5 a.blocks.length x2, IV a.lab.unt, .slice c a.lab.after.length x3, IV a.lab.appr, IV a.lab.den, IV a.editor, IV a.block, IV a.sentence, .string a.text, .string a.name, IV a.partner, IV a.cls, IV a.unt]
theorem framing_vc (a : BA) (d : Int) (hm : Mem [] [] w0 W) (H : VP [] w0 R (.cl 7 86 [.string a] [] <| .ex fun c => .rt (IV c) [] <| .cl 0 48 [IV c] [] <| .x2 fun b e => .rt (.tuple #[.string b, IV e]) [] <| .r 9 <| .cc (⟨#[1]⟩) a <| .r 1 <| .cc ((⟨#[1]⟩ : BA) ++ a) b <| .ls 1 4 (((⟨#[1]⟩ : BA) ++ a) ++ b) fun f => .re 1 (.string f) [])) : Calls TP 47 ⟨[.string a, IV d]⟩ W R := VC.cs Tryz.func47 hm _ H
theorem record_vc (b : Fct) (h : OA) (g : Nat) (f : OA) (e : Nat) (d : OA) (c : Nat) (hm : Mem [] [] w0 W) (H : VP [] w0 R (.np 2 (.cells (zJ1aa b g e c h f d) 38) fun B => .hp [(B, .cells (zJ1aa b g e c h f d) 38)] fun a => .ru [4,200] <| .cl 0 20 [.agg (zJ1aa b g e c h f d)] a <| .x2 fun i m => .rt (.tuple #[.string i, IV m]) a <| .cl 9 91 [.string i] a <| .x2 fun j k => .rt (.tuple #[.string j, IV k]) a <| .cl 2 47 [.string j, IV k] a <| .ex fun l => .rt (.string l) a <| .re 2 (.string l) a)) : Calls TP 54 ⟨[.agg (zJ1aa b g e c h f d)]⟩ W R := VC.cs Tryz.func54 hm _ H
theorem zeros_vc (a : Int) (hm : Mem [] [] w0 W) (H : VP [] w0 R (.cl 7 111 [.string (⟨#[0]⟩), IV a] [] <| .ex fun b => .rt (.string b) [] <| .re 2 (.string b) [])) : Calls TP 70 ⟨[IV a]⟩ W R := VC.cs Tryz.func70 hm _ H
theorem size24_vc (a : Int) (hm : Mem [] [] w0 W) (H : VP [] w0 R (.cl 7 17 [IV a, IV 1500] [] <| .ex fun b => .rt (IV b) [] <| .li 2 2 (IntKind.i64.wrap (64 + b)) fun c => .re 1 (IV c) [])) : Calls TP 12 ⟨[IV a]⟩ W R := VC.cs Tryz.func12 hm _ H
theorem pick24_vc (a b : Int) (hm : Mem [] [] w0 W) (H : VP [] w0 R (.P 10 6 (a < 0) (.li 6 0 (IntKind.i64.wrap (0 - (IntKind.i64.wrap (a + 1)))) fun c => .r 5 <| .rm .i64 c b <| .li 1 4 (c.tmod b) fun d => .re 1 (IV d) []) <| .r 6 <| .rm .i64 a b <| .li 1 4 (a.tmod b) fun e => .re 1 (IV e) [])) : Calls TP 17 ⟨[IV a, IV b]⟩ W R := VC.cs Tryz.func17 hm _ H
theorem P_int (n : Int) : (Wire.enc n).length ≤ 1100 := by have := enc_len n; omega
theorem P_str {s : BA} (h : s.size ≤ 1000) : (encS (bts s)).length ≤ 1100 := by
 have := encS_len (bts s); rw [bts_len] at this; omega
theorem P_top {l : List BA} (h : topicsOk l = true) : (putV .topics l).length ≤ 1100 := by
 obtain ⟨O, M⟩ := topicsOk_all h
 have Z := flat_len (e := fun s : BA => encS (bts s)) (m := 40) l (fun x V => by
  have := nameOk_sz (M x V); have M := encS_len (bts x); rw [bts_len] at M; omega)
 have a0 := enc_len (l.length : Int)
 show (Wire.enc (l.length : Int) ++ l.flatMap fun s : BA => encS (bts s)).length ≤ _
 have a1 : 40 * l.length ≤ 40 * 4 := Nat.mul_le_mul_left _ O
 rw [List.length_append]; omega
theorem P_blk {l : List Blk} (h : listOk l = true) : (putV .blocks l).length ≤ 30100 := by
 have M := encL_le h
 have O := encS_len (encL l)
 show (encS (encL l)).length ≤ _
 omega
theorem P_lab {l : Lab} (h : l.ok = true) : (putV .label l).length ≤ 1100 := by
 obtain ⟨a1, a2, a3, a4, a5⟩ := Lab.ok_vOk h
 have M := flat_len (e := Wire.enc) (m := 10) l.after (fun x _ => enc_len x)
 have O := enc_len l.unt; have V := enc_len (l.after.length : Int); have Z := enc_len l.appr; have a0 := enc_len l.den
 show (Wire.enc l.unt ++ (Wire.enc (l.after.length : Int) ++ (l.after.flatMap Wire.enc ++ (Wire.enc l.appr ++ Wire.enc l.den)))).length ≤ _
 simp only [List.length_append]; omega
theorem P_name {s : BA} (h : nameOk s = true) : (encS (bts s)).length ≤ 1100 := P_str (by have := nameOk_sz h; omega)
theorem P_fill {s : BA} (h : fillOk s = true) : (encS (bts s)).length ≤ 1100 := P_str (by have := fillOk_sz h; omega)
theorem encF_small {f : Fct} (h : f.ok = true) : (encF f).length ≤ 60000 := by
 have V : f.vals = true := by rw [Fct.ok] at h; simp only [Bool.and_eq_true] at h; exact h.2.1
 have M := vals_kind V
 have b6 := enc_len f.n; have b7 := enc_len f.time; have b9 := enc_len f.kind
 have go : ∀ (l : List Fld), kfields f.kind = l → (l.flatMap f.put).length ≤ 50000 → (encF f).length ≤ 60000 := fun l e b5 => by
  rw [encF, Fct.head, e]; simp only [List.length_append]; omega
 have M : f.kind = 1 ∨ f.kind = 2 ∨ f.kind = 3 ∨ f.kind = 4 ∨ f.kind = 5 ∨ f.kind = 6 ∨ f.kind = 7 ∨ f.kind = 8 ∨ f.kind = 9 ∨ f.kind = 10 := by omega
 unfold Fct.vals at V
 rcases M with M | M | M | M | M | M | M | M | M | M <;> simp only [M, reduceIte, Int.reduceEq, Fct.stOk, Fct.rvOk, Fct.coOk, Fct.paOk, Bool.and_eq_true, decide_eq_true_eq] at V
 ·refine go [.story, .lang, .rev, .base, .title, .author, .topics, .blocks, .label] (by rw [M]; rfl) ?_
  obtain ⟨a4, Z, a5, a6, a0, a7, a8, a9, b0⟩ := V
  have O : (f.put .story).length ≤ 1100 := P_int _; have b2 : (f.put .lang).length ≤ 1100 := P_name Z; have a1 : (f.put .rev).length ≤ 1100 := P_int _; have a2 : (f.put .base).length ≤ 1100 := P_int _
  have a3 : (f.put .title).length ≤ 1100 := P_fill a0; have b1 : (f.put .author).length ≤ 1100 := P_name a7; have b3 : (f.put .topics).length ≤ 1100 := P_top a8; have b8 : (f.put .blocks).length ≤ 30100 := P_blk a9; have b4 : (f.put .label).length ≤ 1100 := P_lab b0
  simp only [List.flatMap_cons, List.flatMap_nil, List.length_append, List.length_nil]; omega
 ·refine go [.story, .editor] (by rw [M]; rfl) ?_
  have O : (f.put .story).length ≤ 1100 := P_int _; have b2 : (f.put .editor).length ≤ 1100 := P_int _
  simp only [List.flatMap_cons, List.flatMap_nil, List.length_append, List.length_nil]; omega
 ·refine go [.story, .label] (by rw [M]; rfl) ?_
  have O : (f.put .story).length ≤ 1100 := P_int _; have b2 : (f.put .label).length ≤ 1100 := P_lab V.2
  simp only [List.flatMap_cons, List.flatMap_nil, List.length_append, List.length_nil]; omega
 ·refine go [.story, .lang, .block, .sentence, .text] (by rw [M]; rfl) ?_
  obtain ⟨a4, Z, a5, a6, a0⟩ := V
  have O : (f.put .story).length ≤ 1100 := P_int _; have b2 : (f.put .lang).length ≤ 1100 := P_name Z; have a1 : (f.put .block).length ≤ 1100 := P_int _; have a2 : (f.put .sentence).length ≤ 1100 := P_int _; have a3 : (f.put .text).length ≤ 1100 := P_fill a0
  simp only [List.flatMap_cons, List.flatMap_nil, List.length_append, List.length_nil]; omega
 ·refine go [.story, .text] (by rw [M]; rfl) ?_
  have O : (f.put .story).length ≤ 1100 := P_int _; have b2 : (f.put .text).length ≤ 1100 := P_fill V.2
  simp only [List.flatMap_cons, List.flatMap_nil, List.length_append, List.length_nil]; omega
 ·refine go [.story] (by rw [M]; rfl) ?_
  have O : (f.put .story).length ≤ 1100 := P_int _
  simp only [List.flatMap_cons, List.flatMap_nil, List.length_append, List.length_nil]; omega
 ·refine go [.name, .text] (by rw [M]; rfl) ?_
  have O : (f.put .name).length ≤ 1100 := P_name V.1; have b2 : (f.put .text).length ≤ 1100 := P_str (s := f.text) (by have := srcOk_sz V.2; omega)
  simp only [List.flatMap_cons, List.flatMap_nil, List.length_append, List.length_nil]; omega
 ·refine go [.partner, .cls, .unt] (by rw [M]; rfl) ?_
  have O : (f.put .partner).length ≤ 1100 := P_int _; have b2 : (f.put .cls).length ≤ 1100 := P_int _; have a1 : (f.put .unt).length ≤ 1100 := P_int _
  simp only [List.flatMap_cons, List.flatMap_nil, List.length_append, List.length_nil]; omega
 ·refine go [.partner, .unt] (by rw [M]; rfl) ?_
  have O : (f.put .partner).length ≤ 1100 := P_int _; have b2 : (f.put .unt).length ≤ 1100 := P_int _
  simp only [List.flatMap_cons, List.flatMap_nil, List.length_append, List.length_nil]; omega
 ·refine go [.story] (by rw [M]; rfl) ?_
  have O : (f.put .story).length ≤ 1100 := P_int _
  simp only [List.flatMap_cons, List.flatMap_nil, List.length_append, List.length_nil]; omega
def frm (s : List UInt8) : List UInt8 := 1 :: (s ++ Wire.enc (crc s : Int))
def recL (f : Fct) : List UInt8 := frm (encS (encF f))
def headL (g : Int) : List UInt8 := frm (Wire.enc g)
theorem frm_len (s : List UInt8) : (frm s).length ≤ s.length + 11 := by
 have := enc_len (crc s : Int)
 rw [frm]; simp only [List.length_cons, List.length_append]; omega
theorem framing_c {s : BA} {e : Int} (V : s.size < 4611686018427387904) : PureG TP 47 ⟨[.string s, .int .i64 e]⟩ 0 tabV (.string (ba (frm (bts s)))) := by
 intro W O
 refine framing_vc s e (Mem.start [] W) (CallH.pureG (Sum_c s V) (by simp) O ⟨_, rfl, rfl, ?_⟩)
 have a0 := crc_lt (bts s)
 have M := enc_len (crc (bts s) : Int)
 have a1 : (encB (crc (bts s) : Int)).size ≤ 10 := by rw [encB_size]; exact M
 refine CallH.pure (PutInt_c _) ⟨encB (crc (bts s) : Int), 0, if_pos (okI (by omega)), rfl, by show 1 + s.size ≤ _; omega, by rw [ByteArray.size_append]; show 1 + s.size + _ ≤ _; omega, fun t Z => finPure ?_⟩
 rw [Z]
 refine congrArg Value.string ?_
 apply bts_inj
 rw [bts_append, bts_append, encB_bts]
 exact Eq.trans rfl (bts_mk (frm (bts s))).symm
theorem record_c {f : Fct} (V : blkW W 0 = some tabV) (h : FAt (lkW W) f tp tc bp bc ap ac) (M : f.ok = true) :
  PW TP 54 ⟨[.agg ⟨f.cells tp tc bp bc ap ac⟩]⟩ W (.string (ba (recL f))) := by
 refine record_vc f tp tc bp bc ap ac (Mem.start [] W) fun B => CallH.pw (fun a1 Z => fEncode_c (h.mono (lkW_kept Z))) ⟨ba (encF f), 0, enc_ok M, rfl, ?_⟩
 have a2 := encF_small M
 have a0 : (ba (encF f)).size ≤ 65536 := by rw [ba_size]; omega
 refine CallH.pure (PutString_c _) ⟨encSB (ba (encF f)), 0, if_pos a0, rfl, ?_⟩
 have O : (encSB (ba (encF f))).size < 4611686018427387904 := by
  have := encS_len (encF f)
  rw [← bts_len, encSB_bts, bts_mk]; omega
 refine CallH.pureG (framing_c O) (by simp) V ⟨_, rfl, rfl, finPW ?_⟩
 rw [encSB_bts, bts_mk]; rfl
theorem pick24_c (c : Int) (n : Nat) (M : i64 c) (hn : n ≠ 0) : PureC TP 17 ⟨[.int .i64 c, .int .i64 n]⟩ (.int .i64 ((pickN c % n : Nat) : Int)) := by
 unfold i64 at M
 refine fun W => pick24_vc c n (Mem.start [] W) ⟨fun h => ?_, fun h => ⟨by omega, ?_⟩⟩
 ·rintro c1 rfl
  refine ⟨by omega, ?_⟩
  rintro t rfl
  refine finPure ?_
  have e : IntKind.i64.wrap (0 - IntKind.i64.wrap (c + 1)) = ((pickN c : Nat) : Int) := by
   rw [wi64 (x := c + 1) (by omega), wi64 (by omega), pickN, if_pos h]; omega
  rw [e, tmod_nat]
 ·rintro t rfl
  refine finPure ?_
  have e : c = ((pickN c : Nat) : Int) := by rw [pickN, if_neg h]; omega
  rw [e, tmod_nat, ← e]
def sizeN (n : Int) : Nat := 64 + pickN n % 1500
theorem size24_c (n : Int) (hn : i64 n) : PureC TP 12 ⟨[.int .i64 n]⟩ (.int .i64 (sizeN n : Int)) := by
 refine fun W => size24_vc n (Mem.start [] W) (CallH.pure (pick24_c n 1500 hn (by decide)) ⟨_, rfl, rfl, ?_⟩)
 rintro _ rfl
 have := Nat.mod_lt (pickN n) (show 1500 > 0 by decide)
 refine finPure ?_
 rw [wi64 (by omega), sizeN]; congr 1
theorem repeat_zero (n : Nat) : Lib.repeatL [0] n = List.replicate n (0 : UInt8) := by
 induction n with
 | zero => rfl
 | succ n ih => rw [Lib.repeatL, List.replicate_succ, ih]; rfl
theorem zeros_c (n : Nat) (hn : n ≤ 140737488355328) : PureC TP 70 ⟨[.int .i64 (n : Int)]⟩ (.string (ba (List.replicate n 0))) := by
 refine fun W => zeros_vc n (Mem.start [] W) ?_
 have M : PureC TP 111 ⟨[.string (⟨#[0]⟩), .int .i64 (n : Int)]⟩ (.string ⟨(Lib.repeatL [0] n).toArray⟩) := fun W => (Tryz.strings_Repeat ⟨#[0]⟩ n W (by omega) (by show 1 * n ≤ _; omega)).mono fun e w' O => O
 rw [repeat_zero] at M
 exact CallH.pure M ⟨_, rfl, rfl, finPure rfl⟩
abbrev zJ2aa (a : Fct) (b x2 x3 : Nat) (x4 x5 c : OA) : Array Value := #[IV a.n, IV a.time, IV a.kind, IV a.story, .string a.lang, IV a.rev, IV a.base, .string a.title, .string a.author, .slice x4 a.topics.length b, .slice x5 a.blocks.length x2, IV a.lab.unt, .slice c a.lab.after.length x3, IV a.lab.appr, IV a.lab.den, IV a.editor, IV a.block, IV a.sentence, .string a.text, .string a.name, IV a.partner, IV a.cls, IV a.unt]
theorem few24_vc (a : Fct) (g : OA) (f : Nat) (c : OA) (b : Nat) (e : OA) (d : Nat) (hm : Mem [] [] w0 W) (H : VP [] w0 R (.np 2 (.cells (zJ2aa a f b d g c e) 38) fun B => .np 0 (.cells #[IV 0, IV 0, IV 0, IV 0, sZ, IV 0, IV 0, sZ, sZ, .slice none 0 0, .slice none 0 0, IV 0, .slice none 0 0, IV 0, IV 0, IV 0, IV 0, IV 0, sZ, sZ, IV 0, IV 0, IV 0] 38) fun h => .ru [5,200] <| .P 3 6 (2 < (a.blocks.length : Int)) (.ru [3,200] <| .sU c a.blocks.length b 9 none (some (IV 2)) 2 (Int.toNat 2) <| .ru [1,200,4,200,1,200] <| .r 2 <| .ss a.text 0 (if 60 < (a.text.size : Int) then 60 else (a.text.size : Int)) <| .ru [1,200,4,200,1,200] <| .r 2 <| .ss a.title 0 (if 60 < (a.title.size : Int) then 60 else (a.title.size : Int)) <| .ru [1,200,3,200,201] <| .r 1 <| .rc 1 0 (.agg #[IV a.n, IV a.time, IV a.kind, IV a.story, .string a.lang, IV a.rev, IV a.base, .string (a.title.extract 0 (Int.toNat (if 60 < (a.title.size : Int) then 60 else (a.title.size : Int)))), .string a.author, .slice g a.topics.length f, .slice c (Int.toNat 2) b, IV a.lab.unt, .slice e a.lab.after.length d, IV a.lab.appr, IV a.lab.den, IV a.editor, IV a.block, IV a.sentence, .string (a.text.extract 0 (Int.toNat (if 60 < (a.text.size : Int) then 60 else (a.text.size : Int)))), .string a.name, IV a.partner, IV a.cls, IV a.unt]) [(B, .cells #[IV a.n, IV a.time, IV a.kind, IV a.story, .string a.lang, IV a.rev, IV a.base, .string (a.title.extract 0 (Int.toNat (if 60 < (a.title.size : Int) then 60 else (a.title.size : Int)))), .string a.author, .slice g a.topics.length f, .slice c (Int.toNat 2) b, IV a.lab.unt, .slice e a.lab.after.length d, IV a.lab.appr, IV a.lab.den, IV a.editor, IV a.block, IV a.sentence, .string (a.text.extract 0 (Int.toNat (if 60 < (a.text.size : Int) then 60 else (a.text.size : Int)))), .string a.name, IV a.partner, IV a.cls, IV a.unt] 38), (h, .cells #[IV a.n, IV a.time, IV a.kind, IV a.story, .string a.lang, IV a.rev, IV a.base, .string (a.title.extract 0 (Int.toNat (if 60 < (a.title.size : Int) then 60 else (a.title.size : Int)))), .string a.author, .slice g a.topics.length f, .slice c (Int.toNat 2) b, IV a.lab.unt, .slice e a.lab.after.length d, IV a.lab.appr, IV a.lab.den, IV a.editor, IV a.block, IV a.sentence, .string (a.text.extract 0 (Int.toNat (if 60 < (a.text.size : Int) then 60 else (a.text.size : Int)))), .string a.name, IV a.partner, IV a.cls, IV a.unt] 38)]) <| .ru [5,200,1,200] <| .r 2 <| .ss a.text 0 (if 60 < (a.text.size : Int) then 60 else (a.text.size : Int)) <| .ru [1,200,4,200,1,200] <| .r 2 <| .ss a.title 0 (if 60 < (a.title.size : Int) then 60 else (a.title.size : Int)) <| .ru [1,200,3,200,201] <| .r 1 <| .rc 1 0 (.agg #[IV a.n, IV a.time, IV a.kind, IV a.story, .string a.lang, IV a.rev, IV a.base, .string (a.title.extract 0 (Int.toNat (if 60 < (a.title.size : Int) then 60 else (a.title.size : Int)))), .string a.author, .slice g a.topics.length f, .slice c a.blocks.length b, IV a.lab.unt, .slice e a.lab.after.length d, IV a.lab.appr, IV a.lab.den, IV a.editor, IV a.block, IV a.sentence, .string (a.text.extract 0 (Int.toNat (if 60 < (a.text.size : Int) then 60 else (a.text.size : Int)))), .string a.name, IV a.partner, IV a.cls, IV a.unt]) [(B, .cells #[IV a.n, IV a.time, IV a.kind, IV a.story, .string a.lang, IV a.rev, IV a.base, .string (a.title.extract 0 (Int.toNat (if 60 < (a.title.size : Int) then 60 else (a.title.size : Int)))), .string a.author, .slice g a.topics.length f, .slice c a.blocks.length b, IV a.lab.unt, .slice e a.lab.after.length d, IV a.lab.appr, IV a.lab.den, IV a.editor, IV a.block, IV a.sentence, .string (a.text.extract 0 (Int.toNat (if 60 < (a.text.size : Int) then 60 else (a.text.size : Int)))), .string a.name, IV a.partner, IV a.cls, IV a.unt] 38), (h, .cells #[IV a.n, IV a.time, IV a.kind, IV a.story, .string a.lang, IV a.rev, IV a.base, .string (a.title.extract 0 (Int.toNat (if 60 < (a.title.size : Int) then 60 else (a.title.size : Int)))), .string a.author, .slice g a.topics.length f, .slice c a.blocks.length b, IV a.lab.unt, .slice e a.lab.after.length d, IV a.lab.appr, IV a.lab.den, IV a.editor, IV a.block, IV a.sentence, .string (a.text.extract 0 (Int.toNat (if 60 < (a.text.size : Int) then 60 else (a.text.size : Int)))), .string a.name, IV a.partner, IV a.cls, IV a.unt] 38)])) : Calls TP 14 ⟨[.agg (zJ2aa a f b d g c e)]⟩ W R := VC.cs Tryz.func14 hm _ H
theorem framedI_vc (a : BA) (b : Int) (hm : Mem [] [] w0 W) (H : VP [] w0 R (.r 15 <| .ix a b <| .I 2 18 ((bat a b) = 1) (.re 8 (.tuple #[IV 0, IV 0, .bool false]) []) <| .cl 8 83 [.string a, IV (IntKind.i64.wrap (b + 1))] [] <| .x3 fun d c e => .rt (.tuple #[IV d, IV c, IV e]) [] <| .I 14 30 (e = 0) (.re 8 (.tuple #[IV 0, IV 0, .bool false]) []) <| .cl 6 83 [.string a, IV c] [] <| .x3 fun f g h => .rt (.tuple #[IV f, IV g, IV h]) [] <| .I 14 41 (h = 0) (.re 18 (.tuple #[IV 0, IV 0, .bool false]) []) <| .r 5 <| .ss a (IntKind.i64.wrap (b + 1)) c <| .cl 0 86 [.string (a.extract (Int.toNat (IntKind.i64.wrap (b + 1))) (Int.toNat c))] [] <| .ex fun i => .rt (IV i) [] <| .I 3 50 (f = i) (.re 8 (.tuple #[IV 0, IV 0, .bool false]) []) <| .re 10 (.tuple #[IV d, IV g, .bool true]) [])) : Calls TP 82 ⟨[.string a, IV b, .func (.func 83) #[] #[]]⟩ W R := VC.cs Tryz.func82 hm _ H
theorem framedS_vc (a : BA) (b : Int) (hm : Mem [] [] w0 W) (H : VP [] w0 R (.r 15 <| .ix a b <| .I 2 18 ((bat a b) = 1) (.re 8 (.tuple #[sZ, IV 0, .bool false]) []) <| .cl 8 122 [.string a, IV (IntKind.i64.wrap (b + 1))] [] <| .x3 fun d c e => .rt (.tuple #[.string d, IV c, IV e]) [] <| .I 14 30 (e = 0) (.re 8 (.tuple #[sZ, IV 0, .bool false]) []) <| .cl 6 83 [.string a, IV c] [] <| .x3 fun f g h => .rt (.tuple #[IV f, IV g, IV h]) [] <| .I 14 41 (h = 0) (.re 18 (.tuple #[sZ, IV 0, .bool false]) []) <| .r 5 <| .ss a (IntKind.i64.wrap (b + 1)) c <| .cl 0 86 [.string (a.extract (Int.toNat (IntKind.i64.wrap (b + 1))) (Int.toNat c))] [] <| .ex fun i => .rt (IV i) [] <| .I 3 50 (f = i) (.re 8 (.tuple #[sZ, IV 0, .bool false]) []) <| .re 10 (.tuple #[.string d, IV g, .bool true]) [])) : Calls TP 121 ⟨[.string a, IV b, .func (.func 122) #[] #[]]⟩ W R := VC.cs Tryz.func121 hm _ H
def rdStrB (l : List UInt8) : Option (BA × Nat) := (rdStr l).map fun p => (⟨p.1.toArray⟩, p.2)
def frmR {α : Type} (rd : List UInt8 → Option (α × Nat)) : List UInt8 → Option (α × Nat)
 | [] => none
 | b :: r => if b = 1 then (match rd r with
   | none => none
   | some (v, k) => (match rdInt (r.drop k) with
    | none => none
    | some (c, k2) => if c = (crc (r.take k) : Int) then some (v, 1 + k + k2) else none)) else none
theorem drop_cons {s : List UInt8} {a : Nat} (h : a < s.length) : ∃ b r, s.drop a = b :: r ∧ s.drop (a + 1) = r ∧ s[a] = b := by
 refine ⟨s[a], s.drop (a + 1), List.drop_eq_getElem_cons h, rfl, rfl⟩
theorem bat_one {s : BA} {a : Nat} (h : a < (bts s).length) : bat s (a : Int) = 1 ↔ (bts s)[a] = 1 := by
 rw [bat_get h]
 constructor
 ·intro e
  have : ((bts s)[a]).toNat = 1 := by
   have : (((bts s)[a]).toNat : Int) = 1 := e
   omega
  exact UInt8.toNat_inj.1 this
 ·intro e
  show (((bts s)[a]).toNat : Int) = 1
  rw [e]; rfl
theorem framedI_c {s : BA} {a : Nat} (a2 : s.size < 4611686018427387904) (a6 : a < s.size) : PureG TP 82 ⟨[.string s, .int .i64 (a : Int), .func (.func 83) #[] #[]]⟩ 0 tabV
  (match frmR rdInt ((bts s).drop a) with | none => .tuple #[.int .i64 0, .int .i64 0, .bool false] | some (v, k) => .tuple #[.int .i64 v, .int .i64 ((a + k : Nat) : Int), .bool true]) := by
 intro W a7
 have V : a < (bts s).length := a6
 obtain ⟨b, r, e1, O, Z⟩ := drop_cons V
 rw [e1]
 refine framedI_vc s a (Mem.start [] W) ⟨by omega, fun M => finPure ?_, fun M => ?_⟩
 ·rw [bat_one V, Z] at M
  rw [frmR, if_neg M]
 ·rw [bat_one V, Z] at M
  rw [frmR, if_pos M]
  rw [wi64 (by omega), show (a : Int) + 1 = ((a + 1 : Nat) : Int) by omega]
  refine CallH.pure (Int_c s _ a2) ?_
  have a0 := int_ans (s := s) (st := (a + 1, 0)) (by omega) rfl
  simp only [O] at a0
  rw [a0]
  cases hr : rdInt r with
  | none => exact ⟨_, _, _, rfl, rfl, fun _ => finPure rfl, fun h => absurd h (by decide)⟩
  | some p =>
   obtain ⟨v, k⟩ := p
   have a9 := (rdInt_inv hr).2.1
   have a8 : r.length = (bts s).length - (a + 1) := by rw [← O, List.length_drop]
   refine ⟨_, _, _, rfl, rfl, fun h => absurd rfl h, fun _ => ?_⟩
   refine CallH.pure (Int_c s _ a2) ?_
   have a4 : (bts s).drop (a + 1 + k) = r.drop k := by rw [← O, List.drop_drop]
   have a1 := int_ans (s := s) (st := (a + 1 + k, 0)) (by show a + 1 + k ≤ _; omega) rfl
   simp only [a4] at a1
   rw [a1]
   cases hc : rdInt (r.drop k) with
   | none => exact ⟨_, _, _, rfl, rfl, fun _ => finPure (by simp only [hc]), fun h => absurd h (by decide)⟩
   | some q =>
    obtain ⟨c, a3⟩ := q
    refine ⟨_, _, _, rfl, rfl, fun h => absurd rfl h, fun _ => ⟨by rw [bts_len] at V a8; omega, ?_⟩⟩
    have a5 : bts (s.extract (Int.toNat ((a + 1 : Nat) : Int)) (Int.toNat ((a + 1 + k : Nat) : Int))) = r.take k := by
     rw [bts_extract, Int.toNat_natCast, Int.toNat_natCast, O]; congr 1; omega
    refine CallH.pureG (Sum_c _ (by rw [ByteArray.size_extract]; omega)) (by simp) a7 ⟨_, rfl, rfl, ?_⟩
    rw [a5]
    refine ⟨fun h => finPure ?_, fun h => finPure ?_⟩
    ·simp only [hc, if_neg h]
    ·simp only [hc, if_pos h, show a + (1 + k + a3) = a + 1 + k + a3 by omega]
theorem framedS_c {s : BA} {a : Nat} (a3 : s.size < 4611686018427387904) (a7 : a < s.size) : PureG TP 121 ⟨[.string s, .int .i64 (a : Int), .func (.func 122) #[] #[]]⟩ 0 tabV
  (match frmR rdStrB ((bts s).drop a) with | none => .tuple #[.string ⟨#[]⟩, .int .i64 0, .bool false] | some (v, k) => .tuple #[.string v, .int .i64 ((a + k : Nat) : Int), .bool true]) := by
 intro W a8
 have V : a < (bts s).length := a7
 obtain ⟨b, r, e1, O, a0⟩ := drop_cons V
 rw [e1]
 refine framedS_vc s a (Mem.start [] W) ⟨by omega, fun M => finPure ?_, fun M => ?_⟩
 ·rw [bat_one V, a0] at M
  rw [frmR, if_neg M]
 ·rw [bat_one V, a0] at M
  rw [frmR, if_pos M]
  rw [wi64 (by omega), show (a : Int) + 1 = ((a + 1 : Nat) : Int) by omega]
  refine CallH.pure (String_c s _ a3) ?_
  have a1 := str_ans (s := s) (st := (a + 1, 0)) (by omega) rfl
  simp only [O] at a1
  rw [a1]
  cases hr : rdStr r with
  | none =>
   have Z : rdStrB r = none := by rw [rdStrB, hr]; rfl
   rw [Z]
   exact ⟨_, _, _, rfl, rfl, fun _ => finPure rfl, fun h => absurd h (by decide)⟩
  | some p =>
   obtain ⟨v, k⟩ := p
   have Z : rdStrB r = some (⟨v.toArray⟩, k) := by rw [rdStrB, hr]; rfl
   rw [Z]
   have b0 := (rdStr_inv hr).2.1
   have a9 : r.length = (bts s).length - (a + 1) := by rw [← O, List.length_drop]
   refine ⟨_, _, _, rfl, rfl, fun h => absurd rfl h, fun _ => ?_⟩
   refine CallH.pure (Int_c s _ a3) ?_
   have a5 : (bts s).drop (a + 1 + k) = r.drop k := by rw [← O, List.drop_drop]
   have a2 := int_ans (s := s) (st := (a + 1 + k, 0)) (by show a + 1 + k ≤ _; omega) rfl
   simp only [a5] at a2
   rw [a2]
   cases hc : rdInt (r.drop k) with
   | none => exact ⟨_, _, _, rfl, rfl, fun _ => finPure (by simp only [hc]), fun h => absurd h (by decide)⟩
   | some q =>
    obtain ⟨c, a4⟩ := q
    refine ⟨_, _, _, rfl, rfl, fun h => absurd rfl h, fun _ => ⟨by rw [bts_len] at V a9; omega, ?_⟩⟩
    have a6 : bts (s.extract (Int.toNat ((a + 1 : Nat) : Int)) (Int.toNat ((a + 1 + k : Nat) : Int))) = r.take k := by
     rw [bts_extract, Int.toNat_natCast, Int.toNat_natCast, O]; congr 1; omega
    refine CallH.pureG (Sum_c _ (by rw [ByteArray.size_extract]; omega)) (by simp) a8 ⟨_, rfl, rfl, ?_⟩
    rw [a6]
    refine ⟨fun h => finPure ?_, fun h => finPure ?_⟩
    ·simp only [hc, if_neg h]
    ·simp only [hc, if_pos h, show a + (1 + k + a4) = a + 1 + k + a4 by omega]
abbrev zJ3aa (a : Bool) (b x2 x3 x4 : Int) (x5 c d : Nat) (e : OA) : Array Value := #[IV b, .slice e x5 c, IV x2, PP d, IV x3, IV x4, .bool a]
theorem jRoom_vc (a : Nat) (gen : Int) (h : OA) (g f : Nat) (b : Int) (c : Nat) (sz e : Int) (d : Bool) (hm : Mem [(a, .cells (zJ3aa d gen b sz e g f c h) 86)] S w0 W) (H : VP S w0 R (.r 13 <| .dr 11 <| .qu [3,100,4,100,2] <| .zli 2 (IntKind.i64.wrap (sz - b)) fun i => .dn <| .re 1 (IV i) [(a, .cells (zJ3aa d gen b sz e g f c h) 86)])) : Calls TP 23 ⟨[PP a]⟩ W R := VC.cs Tryz.func23 hm _ H
theorem jGen_vc (a : Nat) (gen : Int) (h : OA) (g f : Nat) (e : Int) (b : Nat) (sz d : Int) (c : Bool) (hm : Mem [(a, .cells (zJ3aa c gen e sz d g f b h) 86)] S w0 W) (H : VP S w0 R (.ru [18,200] <| .re 2 (IV gen) [(a, .cells (zJ3aa c gen e sz d g f b h) 86)])) : Calls TP 26 ⟨[PP a]⟩ W R := VC.cs Tryz.func26 hm _ H
theorem jStart_vc (a : Nat) (i gen : Int) (h : OA) (g f : Nat) (e : Int) (b : Nat) (sz d : Int) (c : Bool) (hm : Mem [(a, .cells (zJ3aa c gen e sz d g f b h) 86)] S w0 W) (H : VP S w0 R (.ru [10,200] <| .li 2 4 (IntKind.i64.wrap (i * sz)) fun j => .re 1 (IV j) [(a, .cells (zJ3aa c gen e sz d g f b h) 86)])) : Calls TP 44 ⟨[PP a, IV i]⟩ W R := VC.cs Tryz.func44 hm _ H
theorem jWrite_vc (a : Nat) (off : Int) (b : BA) (gen : Int) (k : OA) (j i : Nat) (h : Int) (e : Nat) (sz g : Int) (f : Bool) (hm : Mem [(a, .cells (zJ3aa f gen h sz g j i e k) 86)] S w0 W) (H : VP S w0 R (.np 2 (.cells #[PP a] 29) fun B => .np 0 (.cells #[IV off] 3) fun c => .np 0 (.cells #[.string b] 9) fun d => .re 7 (.func (.func 110) #[] #[PP B, PP c, PP d]) [(a, .cells (zJ3aa f gen h sz g j i e k) 86), (B, .cells #[PP a] 29), (c, .cells #[IV off] 3), (d, .cells #[.string b] 9)])) : Calls TP 69 ⟨[PP a, IV off, .string b]⟩ W R := VC.cs Tryz.func69 hm _ H
theorem jWriteC_vc (k l m b : Nat) (gen : Int) (h : OA) (g f : Nat) (e : Int) (a : Nat) (sz d : Int) (c : Bool) (i : SHeap) (hm : Mem ((b, .cells (zJ3aa c gen e sz d g f a h) 86) :: i) S w0 W) (H : VP S w0 R (.r 5 <| .dr 6 <| .ex fun (o : List Value) => .lgs k 0 29 o (PP b) <| .qu [2,100] <| .x2 fun (p : List Value) m1 => .lgs l 0 3 p (IV m1) <| .x2 fun (q : List Value) m21 => .lgs m 0 9 q (.string m21) <| .dn <| .cl 0 22 [PP a, IV m1, .string m21] ((b, .cells (zJ3aa c gen e sz d g f a h) 86) :: i) <| .x2 fun n j => .rt (IV n) ((b, .cells (zJ3aa c gen e sz d g f a h) 86) :: j) <| .re 2 (IV n) ((b, .cells (zJ3aa c gen e sz d g f a h) 86) :: j))) : Calls TP 110 ⟨[PP k, PP l, PP m]⟩ W R := VC.cs Tryz.func110 hm _ H
theorem jSafely_vc (b : Nat) (off : Int) (a : BA) (gen : Int) (l : OA) (k j : Nat) (i : Int) (c : Nat) (sz h : Int) (g : Bool) (hm : Mem [(b, .cells (zJ3aa g gen i sz h k j c l) 86)] S w0 W) (H : VP S w0 R (.ru [9,200] <| .r 4 <| .dD <| .nm [0,1,2,7] <| .ph 14 [0,1,2,3,4,6,7,8,9,10,12] [5,11,13] 1 <| .qu [4] <| .ss a 1 (a.size : Int) <| .qu [4] <| .ss a 0 1 <| .qu [1] <| .dn <| .cl 69 [PP b, IV (IntKind.i64.wrap (off + 1)), .string (a.extract (Int.toNat 1) a.size)] [(b, .cells (zJ3aa g gen i sz h k j c l) 86)] <| .x3 fun d e f => .rt (.func (.func 110) #[] #[PP d, PP e, PP f]) [(b, .cells (zJ3aa g gen i sz h k j c l) 86), (d, .cells #[PP b] 29), (e, .cells #[IV (IntKind.i64.wrap (off + 1))] 3), (f, .cells #[.string (a.extract (Int.toNat 1) a.size)] 9)] <| .cl 69 [PP b, IV off, .string (a.extract 0 (Int.toNat 1))] [(b, .cells (zJ3aa g gen i sz h k j c l) 86), (d, .cells #[PP b] 29), (e, .cells #[IV (IntKind.i64.wrap (off + 1))] 3), (f, .cells #[.string (a.extract (Int.toNat 1) a.size)] 9)] <| .x3 fun m n o => .rt (.func (.func 110) #[] #[PP m, PP n, PP o]) [(b, .cells (zJ3aa g gen i sz h k j c l) 86), (d, .cells #[PP b] 29), (e, .cells #[IV (IntKind.i64.wrap (off + 1))] 3), (f, .cells #[.string (a.extract (Int.toNat 1) a.size)] 9), (m, .cells #[PP b] 29), (n, .cells #[IV off] 3), (o, .cells #[.string (a.extract 0 (Int.toNat 1))] 9)] <| .n2 4 (.cells #[.func (.func 110) #[] #[PP d, PP e, PP f], .func (.func 68) #[PP c] #[], .func (.func 110) #[] #[PP m, PP n, PP o], .func (.func 68) #[PP c] #[]] 53) fun B => .dn <| .tl <| .re 2 (.slice (SO B) 4 4) [(b, .cells (zJ3aa g gen i sz h k j c l) 86), (d, .cells #[PP b] 29), (e, .cells #[IV (IntKind.i64.wrap (off + 1))] 3), (f, .cells #[.string (a.extract (Int.toNat 1) a.size)] 9), (m, .cells #[PP b] 29), (n, .cells #[IV off] 3), (o, .cells #[.string (a.extract 0 (Int.toNat 1))] 9), (B, .cells #[.func (.func 110) #[] #[PP d, PP e, PP f], .func (.func 68) #[PP c] #[], .func (.func 110) #[] #[PP m, PP n, PP o], .func (.func 68) #[PP c] #[]] 53)])) : Calls TP 49 ⟨[PP b, IV off, .string a]⟩ W R := VC.cs Tryz.func49 hm _ H
abbrev jRunA0 (a : Int) (d : OA) (c b : Nat) (e : Int) (f : Nat) (g h : Int) (i : Bool) : Array Value := (zJ3aa i a e g h c b f d)
def jRun_c0 (B : Nat) (n : OA) (m l : Nat) (o k b : Int) (e : OA) (d c : Nat) (f : Int) (g : Nat) (h i : Int) (j : Bool) (a : SHeap) (S : List Nat) (w0 : World) (R : Ending → World → Prop) : Prop :=
 AtE TP 50 23 (KC Tryz.f50 52) [(0, PP B), (8, .slice n m l), (9, IV o), (10, IV k)] ((B, .cells (jRunA0 b e d c f g h i j) 86) :: a) S w0 (nrm R)
theorem jRun_c0_vc (B : Nat) (F : OA) (y A : Nat) (C a c : Int) (f : OA) (e d : Nat) (g : Int) (h : Nat) (j k : Int) (m : Bool) (t : SHeap)
 (H :
 Br (a < C)
 (∃ n l : Nat, F = some ⟨n, l, none⟩ ∧
 (0 ≤ a ∧ a < y) ∧
 ∃ (z : List Value) (x : Value), (∃ U G, (n, Obj.cells ⟨z⟩ U G) ∈ ((B, .cells (jRunA0 c f e d g h j k m) 86) :: t)) ∧ z[(l + (Int.toNat a))]? = some (x) ∧
 ∃ (q : Nat) (w : List Value) (u : List Value), x = .func (.func q) ⟨w⟩ ⟨u⟩ ∧ FnReady TP q ∧
 CallP TP q ⟨w ++ [] ++ u⟩ ((B, .cells (jRunA0 c f e d g h j k m) 86) :: t) S w0 (fun v L' => ∃ p s, v = IV s ∧ L' = ((B, .cells (jRunA0 c f e d g h j k m) 86) :: p) ∧
 Bn (s = 0)
 (Fin R ((B, .cells #[IV c, .slice f e d, IV g, PP h, IV j, IV k, .bool true] 86) :: p) S w0 (IV s))
 (jRun_c0 B (some ⟨n, l, none⟩) y A C (IntKind.i64.wrap (a + (1 : Int))) c f e d g h j k m p S w0 R)) (fun D L' => FinP R L' S w0 D))
 (Fin R ((B, .cells (jRunA0 c f e d g h j k m) 86) :: t) S w0 (IV 0))) :
 jRun_c0 B F y A C a c f e d g h j k m t S w0 R:= by
 unfold jRun_c0
 refine .ru 5 (.sP 11 H ?_ ?_) <;> clear H <;> intro H
 ·refine .ru 6 ?_
  obtain ⟨n, l, rfl, H⟩ := H
  refine .indexAddrL (E := 53) (b := n) (o := l) (len := y) (cap := A) (sz := 1) (o' := (l + (Int.toNat a))) (kd := .i64) (i := a) (by kernel_rfl) H.1 (by omega) ?_
  replace H := H.2
  obtain ⟨z, x, O, Q, H⟩ := H
  refine .loadT (b := n) (off := (l + (Int.toNat a))) (T := 53) (v := x) (by kernel_rfl) O (valAt_one Q (by kernel_rfl)) (.ru 5 ?_)
  obtain ⟨q, w, u, rfl, N, H⟩ := H
  refine .callV q w u [] (by kernel_rfl) N H ?_ (fun D L' M => RaiseE.nrm Tryz.func50 M)
  clear H
  rintro _ _ ⟨p, s, rfl, rfl, H⟩
  refine .ru 7 (.sN 17 H ?_ ?_) <;> clear H <;> intro H
  ·refine .ru 6 (.store 0 6 (T := 4) (v := .bool true) (by kernel_rfl) (.nm (KR Tryz.f50 27036 []) [(7, IV s)] ((B, .cells #[IV c, .slice f e d, IV g, PP h, IV j, IV k, .bool true] 86) :: p) (.ru 6 (.rt Tryz.func50 H))))
  ·refine .ru 8 (.tT [0] 1 H)
 ·refine .ru 6 (.rt Tryz.func50 H)
theorem jRun_vc (a : Nat) (l : OA) (b k : Nat) (gen : Int) (j : OA) (i h : Nat) (g : Int) (c : Nat) (sz f : Int) (e : Bool) (d : SHeap) (hm : Mem ((a, .cells (zJ3aa e gen g sz f i h c j) 86) :: d) S w0 W)
 (H :
 jRun_c0 a l b k (b : Int) (0 : Int) gen j i h g c sz f e d S w0 R) :
 Calls TP 50 ⟨[PP a, .slice l b k]⟩ W R:= by
 refine AtE.cs 23 Tryz.func50 hm (.ru 13 (.tT [0] 1 H))
inductive DOp where
 | sync : DOp
 | write : Int → BA → DOp
def DOp.run : DOp → DS → Int × DS
 | .sync, d => d.sync
 | .write off s, d => d.write off s
def runOps : List DOp → DS → Int × DS
 | [], d => (0, d)
 | o :: r, d => if (o.run d).1 = 0 then runOps r (o.run d).2 else o.run d
theorem spend_pend (d : DS) : d.spend.pend = d.pend := by
 unfold DS.spend
 split
 ·rfl
 ·split <;> rfl
theorem run_pend (o : DOp) (d : DS) : (o.run d).2.pend.length ≤ d.pend.length + 1 := by
 cases o with
 | sync => show (d.sync).2.pend.length ≤ _; unfold DS.sync; split <;> simp
 | write off s =>
  show (d.write off s).2.pend.length ≤ _
  unfold DS.write
  repeat' split
  ·simp
  ·simp [spend_pend, DS.put]
  ·simp
structure JS where
 gen : Int
 fp : OA
 fl : Nat
 fc : Nat
 en : Int
 sz : Int
 cu : Int
 br : Bool
abbrev jH (JB D : Nat) (j : JS) : Nat × Obj := (JB, .cells #[.int .i64 j.gen, .slice j.fp j.fl j.fc, .int .i64 j.en, .pointer (SO D), .int .i64 j.sz, .int .i64 j.cu, .bool j.br] 86)
def StepAt (X : SHeap) (JB D : Nat) : DOp → Value → Prop
 | .sync, v => v = .func (.func 68) ⟨[pt D 0]⟩ ⟨[]⟩
 | .write off s, v => ∃ kj ko ks, v = .func (.func 110) ⟨[]⟩ ⟨[pt kj 0, pt ko 0, pt ks 0]⟩ ∧ lkF X kj [pt JB 0] ∧ lkF X ko [.int .i64 off] ∧ lkF X ks [.string s]
theorem StepAt.mono {X O : SHeap} {JB D : Nat} {o : DOp} {v : Value} (h : StepAt X JB D o v) (M : ∀ x ∈ X, x ∈ O) : StepAt O JB D o v := by
 cases o with
 | sync => exact h
 | write off s =>
  obtain ⟨a2, a3, a4, V, Z, a0, a1⟩ := h
  exact ⟨a2, a3, a4, V, lkF_mono M _ _ Z, lkF_mono M _ _ a0, lkF_mono M _ _ a1⟩
theorem CallH.dT {F : SHeap} {D : Nat} {v : Value} {d : DS} (told : SHeap) (h : EffC P g args F (DRes D v d)) (M : ∀ F', DRep D d F' → K v (told ++ F')) : CallH P g args (told ++ F) S w0 K :=
 CallH.eff (L1 := told) h List.perm_append_comm fun Z L' O => ⟨told ++ L', List.perm_append_comm, by obtain ⟨rfl, V⟩ := O; exact M _ V⟩
def DStepK (JB D : Nat) (j : JS) (r : Int × DS) (v : Value) (L' : SHeap) : Prop := ∃ F', v = .int .i64 r.1 ∧ L' = jH JB D j :: F' ∧ DRep D r.2 F'
theorem step_e {X : SHeap} {JB D : Nat} {o : DOp} {v : Value} (h : StepAt X JB D o v) : ∃ g a0 Z, v = .func (.func g) ⟨a0⟩ ⟨Z⟩ ∧ FnReady TP g ∧
  ∀ {j : JS} {d : DS} {F : SHeap}, DRep D d F → d.pend.length < 1000000 → EffP TP g ⟨a0 ++ [] ++ Z⟩ (jH JB D j :: F) (fun W => XPre ((jH JB D j :: F).map (·.1)) X W) (DStepK JB D j (o.run d)) (fun _ _ => False) := by
 cases o with
 | sync =>
  refine ⟨_, _, _, h, ⟨_, Tryz.func68, by kernel_rfl, by kernel_rfl⟩, ?_⟩
  intro j d F O a1 W hm M
  exact (CallH.dT [jH JB D j] (Sync_e O) (K := DStepK JB D j (DOp.sync.run d)) (fun F' V => ⟨F', rfl, rfl, V⟩) W hm).mono fun e a2 b1 => .inl b1
 | write off s =>
  obtain ⟨b4, b5, b6, a7, ⟨t1, z1, a8⟩, ⟨b7, z2, a9⟩, ⟨b9, z3, b0⟩⟩ := h
  refine ⟨_, _, _, a7, ⟨_, Tryz.func110, by kernel_rfl, by kernel_rfl⟩, ?_⟩
  intro j d F O a1 W hm M
  obtain ⟨a3, a4⟩ := M _ _ _ _ a8
  obtain ⟨a5, b2⟩ := M _ _ _ _ a9
  obtain ⟨c1, a6⟩ := M _ _ _ _ b0
  refine jWriteC_vc b4 b5 b6 JB j.gen j.fp j.fl j.fc j.en D j.sz j.cu j.br F hm ⟨_, a3, a4, rfl, _, off, a5, b2, rfl, _, s, c1, a6, rfl, ?_⟩
  refine CallH.dT [jH JB D j] (Write_e O a1) fun F' V => ⟨_, F', rfl, rfl, fun a2 b3 => .inl ⟨_, _, rfl, b3, F', rfl, rfl, V⟩⟩
def JS.after (j : JS) (e : Int) : JS := if e = 0 then j else { j with br := true }
def RunK (JB D : Nat) (j : JS) (X : SHeap) (r : Int × DS) (v : Value) (L' : SHeap) : Prop := ∃ F', v = .int .i64 r.1 ∧ L' = jH JB D (j.after r.1) :: (F' ++ X) ∧ DRep D r.2 F'
theorem run_loop {X : SHeap} {JB D Bs : Nat} {vs : List Value} {t : TypeId} {fz : Nat × Nat} {ops : List DOp} (Z : (Bs, Obj.cells ⟨vs⟩ t fz) ∈ X) (a5 : ops.length ≤ vs.length) (a0 : ∀ i (h : i < ops.length), StepAt X JB D ops[i] (vs[i]'(by omega))) {j : JS} {sc : Nat} (a7 : ops.length ≤ 1000) {w0 : World} {S : List Nat} {r : Int × DS} :
  ∀ (g i : Nat) (d : DS) (F : SHeap), g + i = ops.length → DRep D d F → d.pend.length + g < 1000000 → r = runOps (ops.drop i) d →
   jRun_c0 JB (SO Bs) ops.length sc (ops.length : Int) (i : Int) j.gen j.fp j.fl j.fc j.en D j.sz j.cu j.br (F ++ X) S w0 (fun e O => ∃ v L', e = .returned v ∧ Mem L' S w0 O ∧ RunK JB D j X r v L')
 | 0, i, d, F, hg, hd, hp, hr => by
  apply jRun_c0_vc
  rw [List.drop_of_length_le (by omega)] at hr
  subst hr
  exact no (by omega) (dkFin ⟨F, rfl, rfl, hd⟩)
 | g + 1, i, d, F, hg, hd, hp, hr => by
  apply jRun_c0_vc
  have hi : i < ops.length := by omega
  obtain ⟨gf, a4, a1, e1, a2, a3⟩ := step_e (a0 i hi)
  rw [List.drop_eq_getElem_cons hi, runOps] at hr
  refine yes (by omega) ⟨Bs, 0, rfl, by omega, vs, vs[i]'(by omega), ⟨t, fz, List.mem_cons_of_mem _ (List.mem_append_right _ Z)⟩, by simp, gf, a4, a1, e1, a2, ?_⟩
  refine CallP.eff (L0 := jH JB D j :: F) (L1 := X) (a3 hd (by omega)) (fun O a6 => xpre_of a6) (List.Perm.refl _) ?_ (fun _ _ h => h.elim)
  rintro _ _ ⟨F', rfl, rfl, V⟩
  refine ⟨jH JB D j :: (F' ++ X), List.Perm.refl _, F' ++ X, _, rfl, rfl, fun M => ?_, fun M => ?_⟩
  ·rw [if_neg M] at hr
   subst hr
   exact dkFin ⟨F', rfl, by rw [JS.after, if_neg M], V⟩
  ·rw [if_pos M] at hr
   have a8 := run_pend ops[i] d
   rw [wi64 (by omega), show (i : Int) + 1 = ((i + 1 : Nat) : Int) by omega]
   exact run_loop Z a5 a0 a7 g (i + 1) _ F' (by omega) V (by omega) hr
theorem run_e {X : SHeap} {JB D Bs : Nat} {vs : List Value} {t : TypeId} {fz : Nat × Nat} {ops : List DOp} (Z : (Bs, Obj.cells ⟨vs⟩ t fz) ∈ X) (O : ops.length ≤ vs.length) (a0 : ∀ i (h : i < ops.length), StepAt X JB D ops[i] (vs[i]'(by omega))) {j : JS} {sc : Nat} (V : ops.length ≤ 1000) {d : DS} {F : SHeap} (M : DRep D d F) (hp : d.pend.length < 900000) :
  EffC TP 50 ⟨[pt JB 0, .slice (SO Bs) ops.length sc]⟩ (jH JB D j :: (F ++ X)) (RunK JB D j X (runOps ops d)) := by
 intro W hm
 exact jRun_vc JB (SO Bs) ops.length sc j.gen j.fp j.fl j.fc j.en D j.sz j.cu j.br (F ++ X) hm (run_loop Z O a0 V ops.length 0 d F (by omega) M (by omega) (by rw [List.drop_zero]))
abbrev jcloV (kj ko ks : Nat) : Value := .func (.func 110) ⟨[]⟩ ⟨[pt kj 0, pt ko 0, pt ks 0]⟩
abbrev jcloX (JB kj ko ks : Nat) (off : Int) (s : BA) : SHeap := [(kj, .cells #[pt JB 0] 29), (ko, .cells #[.int .i64 off] 3), (ks, .cells #[.string s] 9)]
theorem jclo_at {X : SHeap} {JB D M O V : Nat} {off : Int} {s : BA} (h : ∀ x ∈ jcloX JB M O V off s, x ∈ X) : StepAt X JB D (.write off s) (jcloV M O V) :=
 ⟨M, O, V, rfl, ⟨_, _, h _ List.mem_cons_self⟩, ⟨_, _, h _ (List.mem_cons_of_mem _ List.mem_cons_self)⟩, ⟨_, _, h _ (List.mem_cons_of_mem _ (List.mem_cons_of_mem _ List.mem_cons_self))⟩⟩
theorem jwrite_e {JB D : Nat} {j : JS} {off : Int} {s : BA} : EffC TP 69 ⟨[pt JB 0, .int .i64 off, .string s]⟩ [jH JB D j] (fun v L' => ∃ M O V, v = jcloV M O V ∧ L' = jH JB D j :: jcloX JB M O V off s) := by
 intro W hm
 exact jWrite_vc JB off s j.gen j.fp j.fl j.fc j.en D j.sz j.cu j.br hm fun B Z B2 => dkFin ⟨B, Z, B2, rfl, rfl⟩
def cutHead (s : BA) : BA := s.extract 0 1
def cutTail (s : BA) : BA := s.extract 1 s.size
def safeOps (off : Int) (s : BA) : List DOp := [.write (off + 1) (cutTail s), .sync, .write off (cutHead s), .sync]
def StepsAt (X : SHeap) (JB D : Nat) (ops : List DOp) (Bs : Nat) : Prop := ∃ vs t fz, (Bs, Obj.cells ⟨vs⟩ t fz) ∈ X ∧ ∃ hl : ops.length ≤ vs.length, ∀ i (h : i < ops.length), StepAt X JB D ops[i] (vs[i]'(by omega))
theorem safely_e {JB D : Nat} {j : JS} {off : Int} {s : BA} (a4 : 1 ≤ s.size) (a3 : 0 ≤ off ∧ off ≤ 4611686018427387904) : EffC TP 49 ⟨[pt JB 0, .int .i64 off, .string s]⟩ [jH JB D j]
  (fun v L' => ∃ Bs X, v = .slice (SO Bs) 4 4 ∧ L' = jH JB D j :: X ∧ StepsAt X JB D (safeOps off s) Bs) := by
 intro W hm
 refine jSafely_vc JB off s j.gen j.fp j.fl j.fc j.en D j.sz j.cu j.br hm ⟨by omega, by omega, ?_⟩
 have e1 : IntKind.i64.wrap (off + 1) = off + 1 := wi64 (by omega)
 refine CallH.eff (L1 := []) (jwrite_e (j := j) (D := D)) (List.Perm.refl _) ?_
 rintro _ _ ⟨M, O, V, rfl, rfl⟩
 refine ⟨_, List.Perm.refl _, M, O, V, rfl, rfl, ?_⟩
 refine CallH.eff (L0 := [jH JB D j]) (L1 := jcloX JB M O V _ _) (jwrite_e (j := j) (D := D)) (List.Perm.refl _) ?_
 rintro _ _ ⟨Z, a0, a1, rfl, rfl⟩
 refine ⟨jH JB D j :: (jcloX JB M O V _ _ ++ jcloX JB Z a0 a1 _ _), List.Perm.cons _ List.perm_append_comm, Z, a0, a1, rfl, rfl, fun B => ?_⟩
 refine dkFin ⟨B, jcloX JB M O V (off + 1) (cutTail s) ++ jcloX JB Z a0 a1 off (cutHead s) ++ [(B, .cells #[jcloV M O V, .func (.func 68) ⟨[pt D 0]⟩ ⟨[]⟩, jcloV Z a0 a1, .func (.func 68) ⟨[pt D 0]⟩ ⟨[]⟩] 53)], rfl, ?_, [jcloV M O V, .func (.func 68) ⟨[pt D 0]⟩ ⟨[]⟩, jcloV Z a0 a1, .func (.func 68) ⟨[pt D 0]⟩ ⟨[]⟩], _, _, List.mem_append_right _ List.mem_cons_self, Nat.le_refl 4, ?_⟩
 ·try dsimp only
  rw [e1]; rfl
 ·intro i hi
  match i, hi with
  | 0, _ => exact jclo_at fun x a2 => List.mem_append_left _ (List.mem_append_left _ a2)
  | 1, _ => exact rfl
  | 2, _ => exact jclo_at fun x a2 => List.mem_append_left _ (List.mem_append_right _ a2)
  | 3, _ => exact rfl
def cutF (f : Fct) : Fct := { f with blocks := f.blocks.take 2, text := cutT f.text 60, title := cutT f.title 60 }
theorem SlAt.cutBlks {p : OA} {l : List Blk} (h : BlksL lk p l) (n : Nat) : BlksL lk p (l.take n) := by
 intro hp
 rw [List.length_take] at hp
 obtain ⟨b, o, c, M, O, V⟩ := h (by omega)
 refine ⟨b, o, c, M, O, fun i hi => ?_⟩
 rw [List.length_take] at hi
 rw [List.getElem_take]
 exact V i (by omega)
theorem FArg.at {f : Fct} (h : FArg lk f tp tc bp bc ap ac) : FAt lk f tp tc bp bc ap ac := by
 refine ⟨h.tops, fun hp => ?_, h.ints, h.ct, h.cb, h.ca, h.fits⟩
 obtain ⟨b, o, c, O, V, M⟩ := h.blks hp
 refine ⟨b, o, c, O, V, fun i hi => ⟨(M i hi).1, ?_⟩⟩
 obtain ⟨p, q, e, k1, Z, a0⟩ := (M i hi).2
 exact ⟨p, q, e, k1, Z⟩
theorem cutF_fits {f : Fct} (h : f.Fits) : (cutF f).Fits :=
 ⟨⟨h.1.1, by show (cutT f.title 60).size ≤ _; rw [cutT_size]; omega, h.1.2.2.1, by show (cutT f.text 60).size ≤ _; rw [cutT_size]; omega, h.1.2.2.2.2⟩, h.2.1, by show (f.blocks.take 2).length ≤ _; rw [List.length_take]; omega, h.2.2.2⟩
theorem cutF_at {f : Fct} (h : FAt lk f tp tc bp bc ap ac) : FAt lk (cutF f) tp tc bp bc ap ac :=
 ⟨h.tops, SlAt.cutBlks h.blks 2, h.ints, h.ct, Nat.le_trans (by show (f.blocks.take 2).length ≤ f.blocks.length; rw [List.length_take]; omega) h.cb, h.ca, cutF_fits h.fits⟩
theorem few24_c {f : Fct} (Z : f.blocks.length ≤ bc) : PureC TP 14 ⟨[.agg ⟨f.cells tp tc bp bc ap ac⟩]⟩ (.agg ⟨(cutF f).cells tp tc bp bc ap ac⟩) := by
 intro W
 have e1 := cut_if (s := f.text) (n := 60) (i := 60) rfl
 have O := cut_if (s := f.title) (n := 60) (i := 60) rfl
 refine few24_vc f tp tc bp bc ap ac (Mem.start [] W) fun B V => ⟨fun h => ⟨by omega, by split <;> omega, by split <;> omega, finPure ?_⟩, fun h => ⟨by split <;> omega, by split <;> omega, finPure ?_⟩⟩
 ·have M : (cutF f).blocks.length = 2 := by show (f.blocks.take 2).length = 2; rw [List.length_take]; omega
  delta Fct.cells
  rw [e1, O, M]; rfl
 ·have M : (cutF f).blocks.length = f.blocks.length := by show (f.blocks.take 2).length = _; rw [List.length_take]; omega
  delta Fct.cells
  rw [e1, O, M]; rfl
abbrev yJ4aa (a : BA) (b : Nat) (x2 : SHeap) : SHeap := (b, .cells #[.string a] 9) :: x2
theorem records_vc (b : BA) (a : Int) (hm : Mem [] [] w0 W) (H : VP [] w0 R (.np 2 (.cells #[.string b] 9) fun B => .np 0 (.cells #[IV a] 3) fun c => .re 7 (.func (.func 120) #[] #[PP c, PP B]) [(B, .cells #[.string b] 9), (c, .cells #[IV a] 3)])) : Calls TP 84 ⟨[.string b, IV a]⟩ W R := VC.cs Tryz.func84 hm _ H
def recIter_c0 (B d : Nat) (b : Int) (c : BA) (a : SHeap) (S : List Nat) (w0 : World) (R : Ending → World → Prop) : Prop :=
 AtE TP 120 36 (KC Tryz.f120 12) [(0, .func (.yield d) #[] #[]), (2, PP B), (4, IV b)] (yJ4aa c B a) S w0 (nrm R)
theorem recIter_c0_vc (B f : Nat) (c : Int) (a : BA) (b : SHeap)
 (H :
 Br (c < (a.size : Int))
 ((0 ≤ c ∧ c < a.size) ∧
 Bn ((bat a c) = (0 : Int))
 (CallH TP 121 ⟨[.string a, IV c, .func (.func 122) #[] #[]]⟩ (yJ4aa a B b) S w0 (fun v L' => ∃ e d h, v = (.tuple #[.string e, IV d, .bool h]) ∧ L' = (yJ4aa a B b) ∧
 Bb (h)
 (YieldH TP f ⟨[.string e, IV d]⟩ (yJ4aa a B b) S w0 (fun v L' => ∃ go g, v = .bool go ∧ L' = (yJ4aa a B g) ∧
 Bb (go)
 (recIter_c0 B f d a g S w0 R)
 (Fin R (yJ4aa a B g) S w0 (.tuple #[]))))
 (Fin R (yJ4aa a B b) S w0 (.tuple #[]))))
 (Fin R (yJ4aa a B b) S w0 (.tuple #[])))
 (Fin R (yJ4aa a B b) S w0 (.tuple #[]))) :
 recIter_c0 B f c a b S w0 R:= by
 unfold recIter_c0
 refine .ru 4 (.ld 0 0 (.ru 3 (.sP 13 H (fun H => ?_) fun H => ?_)))
 ·refine .ld 0 0 (.ru 1 (.indexS (s := a) (kd := .i64) (i := c) (by kernel_rfl) H.1 ?_))
  replace H := H.2
  refine .ru 3 (.sN 18 H (fun H => ?_) fun H => ?_)
  ·refine .ru 5 (.ld 0 0 (.ru 1 (.cl H ?_)))
   rintro _ _ ⟨e, d, h, rfl, rfl, H⟩
   refine .nm (KR Tryz.f120 100 [3,4,5,6,7,8,9]) [(0, .func (.yield f) #[] #[]), (2, PP B), (22, .tuple #[.string e, IV d, .bool h])] (yJ4aa a B b) (.ru 12 (.sB 26 H (fun H => ?_) fun H => ?_))
   ·refine .ru 5 (.yield f ⟨[.string e, IV d]⟩ (fun W => by kernel_rfl) (by kernel_rfl) H ?_)
    rintro _ _ ⟨go, g, rfl, rfl, H⟩
    refine .sB 32 H (fun H => ?_) fun H => ?_
    ·refine .ru 11 (.tT [0] 1 H)
    ·refine .ru 4 (.rt Tryz.func120 H)
   ·refine .ru 10 (.rt Tryz.func120 H)
  ·refine .ru 2 (.rt Tryz.func120 H)
 ·refine .ru 8 (.rt Tryz.func120 H)
theorem recIter_vc (f c a : Nat) (d : Int) (e : BA) (b : SHeap) (hm : Mem ((c, .cells #[IV d] 3) :: (a, .cells #[.string e] 9) :: b) S w0 W)
 (H :
 recIter_c0 a f d e b S w0 R) :
 Calls TP 120 ⟨[.func (.yield f) #[] #[], PP c, PP a]⟩ W R:= by
 refine AtE.cs 36 Tryz.func120 hm (.ru 2 (.ld 0 0 (.ru 4 (.tT [1] 2 H))))
def parseR : Nat → List UInt8 → Nat → Option (List Fct × Nat)
 | 0, l, n => if l = [] then some ([], 0) else none
 | f + 1, l, n => match l with
  | [] => some ([], 0)
  | b :: r => if b = 0 then some ([], 0) else (match frmR rdStrB (b :: r) with
   | none => none
   | some (t, k) => if (decF (bts t)).2 = 0 ∧ (decF (bts t)).1.n = (n : Int) then (parseR f ((b :: r).drop k) (n + 1)).map (fun q => ((decF (bts t)).1 :: q.1, k + q.2)) else none)
theorem frmR_pos {α : Type} {M : List UInt8 → Option (α × Nat)} {l : List UInt8} {v : α} {k : Nat} (h : frmR M l = some (v, k)) : 0 < k := by
 cases l with
 | nil => cases h
 | cons b r =>
  rw [frmR] at h
  repeat' split at h
  all_goals first | cases h; done | skip
  all_goals (simp only [Option.some.injEq, Prod.mk.injEq] at h; omega)
theorem frmR_len {α : Type} {M : List UInt8 → Option (α × Nat)} (V : ∀ l v k, M l = some (v, k) → k ≤ l.length) {l : List UInt8} {v : α} {k : Nat} (h : frmR M l = some (v, k)) : k ≤ l.length := by
 cases l with
 | nil => cases h
 | cons b r =>
  rw [frmR] at h
  split at h
  ·split at h
   ·cases h
   ·next v' k' hv =>
    have Z := V _ _ _ hv
    split at h
    ·cases h
    ·next c k2 hc =>
     have O := (rdInt_inv hc).2.1
     split at h
     ·simp only [Option.some.injEq, Prod.mk.injEq] at h
      rw [List.length_drop] at O
      simp only [List.length_cons]; omega
     ·cases h
  ·cases h
theorem rdStrB_len (l : List UInt8) (v : BA) (k : Nat) (h : rdStrB l = some (v, k)) : k ≤ l.length := by
 rw [rdStrB, Option.map_eq_some_iff] at h
 obtain ⟨⟨t, k'⟩, M, O⟩ := h
 simp only [Prod.mk.injEq] at O
 have := (rdStr_inv M).2.1
 omega
theorem parseR_fuel : ∀ (f : Nat) (l : List UInt8) (n : Nat), l.length ≤ f → parseR f l n = parseR l.length l n := by
 intro f
 induction f using Nat.strongRecOn with
 | _ f ih =>
  intro l n h
  cases l with
  | nil => cases f <;> rfl
  | cons b r =>
   cases f with
   | zero => simp at h
   | succ f =>
    rw [List.length_cons]
    rw [parseR, parseR]
    split
    ·rfl
    ·cases hf : frmR rdStrB (b :: r) with
     | none => rfl
     | some p =>
      obtain ⟨t, k⟩ := p
      simp only
      split
      ·have O := frmR_pos hf
       have M : ((b :: r).drop k).length ≤ r.length := by rw [List.length_drop, List.length_cons]; omega
       simp only [List.length_cons] at h
       rw [ih f (by omega) _ _ (by omega)]
       rcases Nat.lt_or_ge r.length (f + 1) with hlt | hge
       ·rw [ih r.length (by omega) _ _ M]
       ·omega
      ·rfl
abbrev tStr (B : Nat) (s : BA) : Nat × Obj := (B, .cells #[.string s] 9)
theorem bat_zero {s : BA} {a : Nat} (h : a < (bts s).length) : bat s (a : Int) = 0 ↔ (bts s)[a] = 0 := by
 rw [bat_get h]
 constructor
 ·intro e
  have : ((bts s)[a]).toNat = 0 := by
   have : (((bts s)[a]).toNat : Int) = 0 := e
   omega
  exact UInt8.toNat_inj.1 this
 ·intro e
  show (((bts s)[a]).toNat : Int) = 0
  rw [e]; rfl
def Stop (s : List UInt8) (a : Nat) : Prop := s.length ≤ a ∨ ∃ h : a < s.length, s[a] = 0 ∨ (s[a] ≠ 0 ∧ frmR rdStrB (s.drop a) = none)
abbrev Takes (t : BA) (n : Nat) : Prop := (decF (bts t)).2 = 0 ∧ (decF (bts t)).1.n = (n : Int)
theorem rec_loop {M a5 : Nat} {s : BA} (a3 : s.size < 4611686018427387904) (a0 : 0 ∉ S) (a2 : blkW w0 0 = some tabV) {I : List Fct → Nat → SHeap → Prop} {J : SHeap → Prop}
  (a4 : ∀ l a F t k, a < (bts s).length → I l a F → frmR rdStrB ((bts s).drop a) = some (t, k) → YieldH TP a5 ⟨[.string t, .int .i64 ((a + k : Nat) : Int)]⟩ (tStr M s :: F) S w0
   (fun v L' => ∃ F', L' = tStr M s :: F' ∧ ((v = .bool true ∧ Takes t (l.length + 1) ∧ I (l ++ [(decF (bts t)).1]) (a + k) F') ∨ (v = .bool false ∧ ¬ Takes t (l.length + 1) ∧ J F'))))
  (O : ∀ l a F, I l a F → Stop (bts s) a → Fin R (tStr M s :: F) S w0 (.tuple #[])) (a1 : ∀ F, J F → Fin R (tStr M s :: F) S w0 (.tuple #[])) :
  ∀ (g a : Nat) (l : List Fct) (F : SHeap), s.size ≤ g + a → I l a F → recIter_c0 M a5 (a : Int) s F S w0 R
 | 0, a, l, F, hga, hI => by
  apply recIter_c0_vc
  exact no (by omega) (O l a F hI (.inl (by rw [bts_len]; omega)))
 | g + 1, a, l, F, hga, hI => by
  apply recIter_c0_vc
  rcases Nat.lt_or_ge a s.size with ha | ha
  ·have V : a < (bts s).length := ha
   refine yes (by omega) ⟨by omega, ⟨fun a8 => ?_, fun a7 => O l a F hI (.inr ⟨V, .inl ((bat_zero V).1 a7)⟩)⟩⟩
   refine CallH.pureG (framedS_c a3 ha) a0 a2 ?_
   cases hf : frmR rdStrB ((bts s).drop a) with
   | none => exact ⟨_, _, _, rfl, rfl, fun h => Bool.noConfusion h, fun _ => O l a F hI (.inr ⟨V, .inr ⟨fun h => a8 ((bat_zero V).2 h), hf⟩⟩)⟩
   | some p =>
    obtain ⟨t, k⟩ := p
    have a9 := frmR_pos hf
    refine ⟨_, _, _, rfl, rfl, fun _ => (a4 l a F t k V hI hf).mono ?_, fun h => Bool.noConfusion h⟩
    rintro v L' ⟨F', rfl, ⟨rfl, a6, Z⟩ | ⟨rfl, a6, Z⟩⟩
    ·exact ⟨true, F', rfl, rfl, fun _ => rec_loop a3 a0 a2 a4 O a1 g (a + k) _ F' (by omega) Z, fun h => Bool.noConfusion h⟩
    ·exact ⟨false, F', rfl, rfl, fun h => Bool.noConfusion h, fun _ => a1 F' Z⟩
  ·exact no (by omega) (O l a F hI (.inl (by rw [bts_len]; omega)))
theorem jNext_vc (a : Nat) (gen : Int) (f : OA) (b e : Nat) (d : Int) (c : SHeap) (hm : Mem ((a, .cells #[IV gen, .slice f b e, IV d] 84) :: c) S w0 W) (H : VP S w0 R (.ru [9,200] <| .li 3 2 (IntKind.i64.wrap ((b : Int) + 1)) fun g => .re 1 (IV g) ((a, .cells #[IV gen, .slice f b e, IV d] 84) :: c))) : Calls TP 53 ⟨[PP a]⟩ W R := VC.cs Tryz.func53 hm _ H
abbrev hH (HB : Nat) (gen : Int) (p : OA) (n c : Nat) (en : Int) : Nat × Obj := (HB, .cells #[.int .i64 gen, .slice p n c, .int .i64 en] 84)
theorem YieldH.perm {l : Nat} {L L' : SHeap} (hp : L'.Perm L) (h : YieldH P l args L' S w0 K) : YieldH P l args L S w0 K :=
 fun W hm => h W (hm.perm hp)
theorem YieldH.monoP {l : Nat} {L : SHeap} (h : YieldH P l args L S w0 K) (a2 : ∀ v L', K v L' → ∃ M, M.Perm L' ∧ K' v M) : YieldH P l args L S w0 K' := by
 intro W hm
 obtain ⟨fn, tmps, assign, body, O, V⟩ := h W hm
 refine ⟨fn, tmps, assign, body, O, fun c cs => ?_⟩
 obtain ⟨v, w', ⟨L', Z, a0⟩, a1⟩ := V c cs
 obtain ⟨M, hp, a3⟩ := a2 v L' a0
 exact ⟨v, w', ⟨M, Z.perm hp, a3⟩, a1⟩
theorem cloneI_vc (f : OA) (a g : Nat) (hm : Mem [] [] w0 W)
 (H :
 ((f = none) →
 Fin R [] [] w0 (.slice none 0 0)) ∧
 (∀ b : Addr, f = some b →
 ∀ B : Nat,
 ∃ d : List Value, (∀ W, Mem [(B, .cells #[] 3)] [] w0 W → Go.Src TP 1 34 (.slice (some b) a g) a d W) ∧
 (0 ≤ 0 ∧ (([] : List Value)).length = 0 * 1) ∧ ((0 + a) ≤ 9223372036854775807 ∧ (0 + a) * 8 ≤ 140737488355328) ∧
 ∀ (e c : Nat) (r : List Value), (0 + a) ≤ c → ((([] : List Value)).take (0 * 1) ++ d ++ r).length = c * 1 →
 Fin R [(e, .cells ⟨((([] : List Value)).take (0 * 1) ++ d ++ r)⟩ 3)] [] w0 (.slice (SO e) (0 + a) c))) :
 Calls TP 90 ⟨[.slice f a g]⟩ W R:= by
 refine AtE.cs 8 Tryz.func90 hm (.ru 8 ?_)
 rcases f with _ | b
 ·replace H := H.1 rfl
  refine .ru 7 (.rt Tryz.func90 H)
 ·replace H := H.2 b rfl
  refine .ru 6 (.nw (fun B => .slice (SO B) 0 0) (.cells #[] 3) fun B => ?_)
  replace H := H B
  refine .ru 1 ?_
  obtain ⟨d, j, H⟩ := H
  refine .appendOS 0 (T := 34) (U := 34) (E := 3) (z := IV 0) (sz := 1) (bytes := 8) (len := 0) (cap := 0) (x := .slice (some b) a g) (cs := ([] : List Value)) a d (by kernel_rfl) j H.1 H.2.1 (fun e c r h i => ?_)
  replace H := H.2.2 e c r h i
  refine .ru 2 (.rt Tryz.func90 H)
theorem cloneS_vc (f : OA) (a g : Nat) (hm : Mem [] [] w0 W)
 (H :
 ((f = none) →
 Fin R [] [] w0 (.slice none 0 0)) ∧
 (∀ b : Addr, f = some b →
 ∀ B : Nat,
 ∃ d : List Value, (∀ W, Mem [(B, .cells #[] 9)] [] w0 W → Go.Src TP 1 32 (.slice (some b) a g) a d W) ∧
 (0 ≤ 0 ∧ (([] : List Value)).length = 0 * 1) ∧ ((0 + a) ≤ 9223372036854775807 ∧ (0 + a) * 16 ≤ 140737488355328) ∧
 ∀ (e c : Nat) (r : List Value), (0 + a) ≤ c → ((([] : List Value)).take (0 * 1) ++ d ++ r).length = c * 1 →
 Fin R [(e, .cells ⟨((([] : List Value)).take (0 * 1) ++ d ++ r)⟩ 9)] [] w0 (.slice (SO e) (0 + a) c))) :
 Calls TP 88 ⟨[.slice f a g]⟩ W R:= by
 refine AtE.cs 8 Tryz.func88 hm (.ru 8 ?_)
 rcases f with _ | b
 ·replace H := H.1 rfl
  refine .ru 7 (.rt Tryz.func88 H)
 ·replace H := H.2 b rfl
  refine .ru 6 (.nw (fun B => .slice (SO B) 0 0) (.cells #[] 9) fun B => ?_)
  replace H := H B
  refine .ru 1 ?_
  obtain ⟨d, j, H⟩ := H
  refine .appendOS 0 (T := 32) (U := 32) (E := 9) (z := sZ) (sz := 1) (bytes := 16) (len := 0) (cap := 0) (x := .slice (some b) a g) (cs := ([] : List Value)) a d (by kernel_rfl) j H.1 H.2.1 (fun e c r h i => ?_)
  replace H := H.2.2 e c r h i
  refine .ru 2 (.rt Tryz.func88 H)
theorem cloneB_vc (f : OA) (a g : Nat) (hm : Mem [] [] w0 W)
 (H :
 ((f = none) →
 Fin R [] [] w0 (.slice none 0 0)) ∧
 (∀ b : Addr, f = some b →
 ∀ B : Nat,
 ∃ d : List Value, (∀ W, Mem [(B, .cells #[] 149)] [] w0 W → Go.Src TP 9 33 (.slice (some b) a g) a d W) ∧
 (0 ≤ 0 ∧ (([] : List Value)).length = 0 * 9) ∧ ((0 + a) ≤ 9223372036854775807 ∧ (0 + a) * 96 ≤ 140737488355328) ∧
 ∀ (e c : Nat) (r : List Value), (0 + a) ≤ c → ((([] : List Value)).take (0 * 9) ++ d ++ r).length = c * 9 →
 Fin R [(e, .cells ⟨((([] : List Value)).take (0 * 9) ++ d ++ r)⟩ 149)] [] w0 (.slice (SO e) (0 + a) c))) :
 Calls TP 89 ⟨[.slice f a g]⟩ W R:= by
 refine AtE.cs 8 Tryz.func89 hm (.ru 8 ?_)
 rcases f with _ | b
 ·replace H := H.1 rfl
  refine .ru 7 (.rt Tryz.func89 H)
 ·replace H := H.2 b rfl
  refine .ru 6 (.nw (fun B => .slice (SO B) 0 0) (.cells #[] 149) fun B => ?_)
  replace H := H B
  refine .ru 1 ?_
  obtain ⟨d, j, H⟩ := H
  refine .appendOS 0 (T := 33) (U := 33) (E := 149) (z := .agg #[IV 0, IV 0, sZ, IV 0, IV 0, IV 0, .slice none 0 0, IV 0, IV 0]) (sz := 9) (bytes := 96) (len := 0) (cap := 0) (x := .slice (some b) a g) (cs := ([] : List Value)) a d (by kernel_rfl) j H.1 H.2.1 (fun e c r h i => ?_)
  replace H := H.2.2 e c r h i
  refine .ru 2 (.rt Tryz.func89 H)
theorem cloneF_vc (f : OA) (a g : Nat) (hm : Mem [] [] w0 W)
 (H :
 ((f = none) →
 Fin R [] [] w0 (.slice none 0 0)) ∧
 (∀ b : Addr, f = some b →
 ∀ B : Nat,
 ∃ d : List Value, (∀ W, Mem [(B, .cells #[] 38)] [] w0 W → Go.Src TP 23 22 (.slice (some b) a g) a d W) ∧
 (0 ≤ 0 ∧ (([] : List Value)).length = 0 * 23) ∧ ((0 + a) ≤ 9223372036854775807 ∧ (0 + a) * 272 ≤ 140737488355328) ∧
 ∀ (e c : Nat) (r : List Value), (0 + a) ≤ c → ((([] : List Value)).take (0 * 23) ++ d ++ r).length = c * 23 →
 Fin R [(e, .cells ⟨((([] : List Value)).take (0 * 23) ++ d ++ r)⟩ 38)] [] w0 (.slice (SO e) (0 + a) c))) :
 Calls TP 51 ⟨[.slice f a g]⟩ W R:= by
 refine AtE.cs 8 Tryz.func51 hm (.ru 8 ?_)
 rcases f with _ | b
 ·replace H := H.1 rfl
  refine .ru 7 (.rt Tryz.func51 H)
 ·replace H := H.2 b rfl
  refine .ru 6 (.nw (fun B => .slice (SO B) 0 0) (.cells #[] 38) fun B => ?_)
  replace H := H B
  refine .ru 1 ?_
  obtain ⟨d, j, H⟩ := H
  refine .appendOS 0 (T := 22) (U := 22) (E := 38) (z := .agg #[IV 0, IV 0, IV 0, IV 0, sZ, IV 0, IV 0, sZ, sZ, .slice none 0 0, .slice none 0 0, IV 0, .slice none 0 0, IV 0, IV 0, IV 0, IV 0, IV 0, sZ, sZ, IV 0, IV 0, IV 0]) (sz := 23) (bytes := 272) (len := 0) (cap := 0) (x := .slice (some b) a g) (cs := ([] : List Value)) a d (by kernel_rfl) j H.1 H.2.1 (fun e c r h i => ?_)
  replace H := H.2.2 e c r h i
  refine .ru 2 (.rt Tryz.func51 H)
abbrev noLk : Lk := fun _ _ => False
theorem lkU_no {F : SHeap} : ∀ b c, lkU F noLk b c → lkF F b c := by
 rintro b c (h | h)
 ·exact h
 ·exact h.elim
theorem cloneI_e {p : OA} {c : Nat} {l : List Int} (h : IntsL lk p l) (a1 : l.length ≤ 1000000) : EffW TP 90 ⟨[.slice p l.length c]⟩ [] (fun W => ∀ b c, lk b c → lkW W b c)
  (fun v F => ∃ p' c', v = .slice p' l.length c' ∧ l.length ≤ c' ∧ IntsL (lkF F) p' l) := by
 intro W hm a0
 refine cloneI_vc p l.length c hm ⟨fun hp => ?_, fun a V B => ?_⟩
 ·have M : l.length = 0 := by
   rcases Nat.eq_zero_or_pos l.length with M | M
   ·exact M
   ·obtain ⟨b, o, cs, e, _⟩ := h M
    rw [hp] at e; cases e
  exact dkFin ⟨none, 0, by rw [M], by omega, ints_zero M⟩
 ·subst V
  refine ⟨_, src_ints h fun W hm => fun b c Z => lkW_kept hm b c (a0 b c Z), ⟨Nat.le_refl _, rfl⟩, by omega, fun O cap r a2 a3 => dkFin ⟨some ⟨O, 0, none⟩, cap, by rw [Nat.zero_add], by omega, ?_⟩⟩
  exact (ints_new (lk := noLk) (r := r) List.mem_cons_self).mono lkU_no
theorem cloneS_e {p : OA} {c : Nat} {l : List BA} (h : StrsL lk p l) (a1 : l.length ≤ 1000000) : EffW TP 88 ⟨[.slice p l.length c]⟩ [] (fun W => ∀ b c, lk b c → lkW W b c)
  (fun v F => ∃ p' c', v = .slice p' l.length c' ∧ l.length ≤ c' ∧ StrsL (lkF F) p' l) := by
 intro W hm a0
 refine cloneS_vc p l.length c hm ⟨fun hp => ?_, fun a V B => ?_⟩
 ·have M : l.length = 0 := by
   rcases Nat.eq_zero_or_pos l.length with M | M
   ·exact M
   ·obtain ⟨b, o, cs, e, _⟩ := h M
    rw [hp] at e; cases e
  exact dkFin ⟨none, 0, by rw [M], by omega, strs_zero M⟩
 ·subst V
  refine ⟨_, src_strs h fun W hm => fun b c Z => lkW_kept hm b c (a0 b c Z), ⟨Nat.le_refl _, rfl⟩, by omega, fun O cap r a2 a3 => dkFin ⟨some ⟨O, 0, none⟩, cap, by rw [Nat.zero_add], by omega, ?_⟩⟩
  exact (strs_new (lk := noLk) (r := r) List.mem_cons_self).mono lkU_no
theorem gone_ok {f : Fct} (h : f.ok = true) (O : aboutB f.kind = true) : (goneF f).ok = true := by
 have O := of_decide_eq_true O
 rw [Fct.ok] at h ⊢
 simp only [Bool.and_eq_true, decide_eq_true_eq] at h ⊢
 refine ⟨h.1, ?_, rfl⟩
 have M := h.2.1
 have Z : f.stOk = true := by
  unfold Fct.vals at M
  rcases O with e | e | e <;> · rw [e] at M; simp at M; simp [M]
 unfold Fct.vals
 have V : (goneF f).kind = 10 := rfl
 rw [V]
 simp
 exact Z
theorem red_ok {f : Fct} (h : f.ok = true) : (redF f).ok = true := by
 cases hk : aboutB f.kind with
 | true => rw [redF, if_pos hk]; exact gone_ok h hk
 | false => rw [redF, if_neg (by rw [hk]; decide)]; exact h
theorem red_n (f : Fct) : (redF f).n = f.n := by
 unfold redF; split <;> rfl
def FctLc (lk : Lk) (cs : List Value) (f : Fct) : Prop := ∃ tp tc bp bc ap ac, cs = f.cells tp tc bp bc ap ac ∧ FArg lk f tp tc bp bc ap ac
def FRowL (lk : Lk) (cs : List Value) (l : List Fct) : Prop := ∀ i (h : i < l.length), i * 23 + 23 ≤ cs.length ∧ FctL lk ((cs.drop (i * 23)).take 23) l[i]
theorem FRowL.mono {lk M : Lk} {cs : List Value} {l : List Fct} (h : FRowL lk cs l) (O : ∀ b c, lk b c → M b c) : FRowL M cs l := fun i hi => ⟨(h i hi).1, (h i hi).2.mono O⟩
theorem FRowL.app {cs r : List Value} {l : List Fct} {f : Fct} {tc bc ac cap M : Nat} (h : FRowL lk cs l) (O : l.length ≤ cap) (V : cs.length = cap * 23) (Z : FAt lk f tp tc bp bc ap ac)
  (a2 : l.length + 1 ≤ M) (a0 : (cs.take (l.length * 23) ++ f.cells tp tc bp bc ap ac ++ r).length = M * 23) : FRowL lk (cs.take (l.length * 23) ++ f.cells tp tc bp bc ap ac ++ r) (l ++ [f]) := by
 have hn : l.length * 23 ≤ cs.length := by rw [V]; exact Nat.mul_le_mul_right _ O
 intro i hi
 have a1 : i < l.length + 1 := by simpa using hi
 refine ⟨by rw [a0]; omega, ?_⟩
 rcases Nat.lt_or_ge i l.length with hlt | hge
 ·rw [row_old hlt hn, List.getElem_append_left hlt]
  exact (h i hlt).2
 ·have : i = l.length := by omega
  subst this
  rw [row_new hn rfl]
  simp only [List.getElem_append_right (Nat.le_refl _), Nat.sub_self, List.getElem_cons_zero]
  exact ⟨tp, tc, bp, bc, ap, ac, rfl, Z⟩
theorem FRowL.one {r : List Value} {f : Fct} {tc bc ac cap : Nat} (M : FAt lk f tp tc bp bc ap ac) (V : 1 ≤ cap) (O : (f.cells tp tc bp bc ap ac ++ r).length = cap * 23) : FRowL lk (f.cells tp tc bp bc ap ac ++ r) [f] := by
 intro i hi
 have : i = 0 := by simp at hi; omega
 subst this
 refine ⟨by rw [O]; omega, tp, tc, bp, bc, ap, ac, ?_, M⟩
 simp
theorem FRowL.app0 {cs r : List Value} {l : List Fct} (h : FRowL lk cs l) : FRowL lk (cs ++ r) l := by
 intro i hi
 have := (h i hi).1
 refine ⟨by rw [List.length_append]; omega, ?_⟩
 rw [List.drop_append_of_le_length (by omega), List.take_append_of_le_length (by rw [List.length_drop]; omega)]
 exact (h i hi).2
theorem FRowL.take {cs : List Value} {l : List Fct} (h : FRowL lk cs l) (n : Nat) : FRowL lk cs (l.take n) := by
 intro i hi
 rw [List.length_take] at hi
 rw [List.getElem_take]
 exact h i (by omega)
theorem fcts_nil {p : OA} : FctsL lk p [] := fun h => absurd h (by simp)
theorem FRowL.at {cs : List Value} {l : List Fct} {B : Nat} (h : FRowL lk cs l) (M : lk B cs) : FctsL lk (SO B) l :=
 fun _ => ⟨B, 0, cs, rfl, M, fun i hi => ⟨by rw [Nat.zero_add]; exact (h i hi).1, by rw [Nat.zero_add]; exact (h i hi).2⟩⟩
theorem row23_set_ne {cs vs : List Value} {i j : Nat} (M : vs.length = 23) (O : i * 23 + 23 ≤ cs.length) (h : j ≠ i) : ((over cs (i * 23) vs).drop (j * 23)).take 23 = (cs.drop (j * 23)).take 23 := by
 apply List.ext_getElem?
 intro q
 by_cases hq : q < 23
 ·rw [List.getElem?_take_of_lt hq, List.getElem?_take_of_lt hq, List.getElem?_drop, List.getElem?_drop]
  unfold over
  rcases Nat.lt_or_ge j i with hji | hji
  ·rw [List.append_assoc, List.getElem?_append_left (by rw [List.length_take]; omega), List.getElem?_take_of_lt (by omega)]
  ·rw [List.getElem?_append_right (by rw [List.length_append, List.length_take]; omega), List.getElem?_drop, List.length_append, List.length_take, M]
   congr 1; omega
 ·rw [List.getElem?_eq_none (by rw [List.length_take]; omega), List.getElem?_eq_none (by rw [List.length_take]; omega)]
theorem row23_set_eq {cs vs : List Value} {i : Nat} (O : vs.length = 23) (V : i * 23 + 23 ≤ cs.length) : ((over cs (i * 23) vs).drop (i * 23)).take 23 = vs := by
 unfold over
 have M : (cs.take (i * 23)).length = i * 23 := by rw [List.length_take]; omega
 rw [List.append_assoc, List.drop_left' M, List.take_left' O]
theorem cells23_one (f : Fct) (tp : OA) (tc : Nat) (bp : OA) (bc : Nat) (ap : OA) (ac : Nat) : ∀ u ∈ f.cells tp tc bp bc ap ac, u.oneCell' = true := by
 intro u M
 simp only [Fct.cells, List.mem_cons, List.not_mem_nil, or_false] at M
 rcases M with rfl | rfl | rfl | rfl | rfl | rfl | rfl | rfl | rfl | rfl | rfl | rfl | rfl | rfl | rfl | rfl | rfl | rfl | rfl | rfl | rfl | rfl | rfl <;> rfl
theorem take_rows23 {c : List Value} {o n : Nat} : (c.drop o).take ((n + 1) * 23) = (c.drop o).take (n * 23) ++ (c.drop (o + n * 23)).take 23 := by
 rw [show (n + 1) * 23 = n * 23 + 23 by omega, List.take_add, List.drop_drop]
theorem rows23_one {c : List Value} {o : Nat} {l : List Fct} (h : ∀ i (h : i < l.length), o + i * 23 + 23 ≤ c.length ∧ FctL lk ((c.drop (o + i * 23)).take 23) l[i]) : ∀ n, n ≤ l.length → ∀ u ∈ (c.drop o).take (n * 23), u.oneCell' = true
 | 0, _, u, hu => by simp at hu
 | n + 1, hn, u, hu => by
  rw [take_rows23] at hu
  rcases List.mem_append.1 hu with h1 | h1
  ·exact rows23_one h n (by omega) u h1
  ·obtain ⟨tp, tc, bp, bc, ap, ac, e, _⟩ := (h n (by omega)).2
   rw [e] at h1
   exact cells23_one _ _ _ _ _ _ _ u h1
theorem src_fcts {L : SHeap} {w0 : World} {lk : Lk} {p : OA} {c : Nat} {l : List Fct} (h : FctsL lk p l) (a0 : ∀ W, Mem L [] w0 W → ∀ b c, lk b c → lkW W b c) :
  ∃ V, (∀ W, Mem L [] w0 W → Go.Src TP 23 22 (.slice p l.length c) l.length V W) ∧ V.length = l.length * 23 ∧ FRowL lk V l := by
 rcases Nat.eq_zero_or_pos l.length with h0 | hpos
 ·have : l = [] := List.length_eq_zero_iff.1 h0
  subst this
  refine ⟨[], ?_, rfl, fun i hi => absurd hi (by simp)⟩
  cases p with
  | none => exact srcNil (E' := 38) (by kernel_rfl)
  | some a => exact srcSl (E' := 38) (by kernel_rfl) (Src.nil a) rfl (fun u a1 => absurd a1 (by simp))
 ·obtain ⟨b, o, cs, rfl, Z, O⟩ := h hpos
  have a2 := (O (l.length - 1) (by omega)).1
  have M : ((cs.drop o).take (l.length * 23)).length = l.length * 23 := by rw [List.length_take, List.length_drop]; omega
  refine ⟨(cs.drop o).take (l.length * 23), srcSl (E' := 38) (by kernel_rfl) (src_lk (fun W hm => a0 W hm _ _ Z) fun i hi => ?_) M (rows23_one O l.length (Nat.le_refl _)), M, fun i hi => ⟨by rw [M]; omega, ?_⟩⟩
  ·rw [M] at hi
   rw [List.getElem?_take_of_lt hi, List.getElem?_drop]
  ·have : (((cs.drop o).take (l.length * 23)).drop (i * 23)).take 23 = (cs.drop (o + i * 23)).take 23 := by
    rw [List.drop_take, List.drop_drop, List.take_take, Nat.min_eq_left (by omega)]
   rw [this]
   exact (O i hi).2
theorem foldset_keep' {f : Fct} {y : Fld} : ∀ (l : List Fld) (g : Fct), y ∉ l → (l.foldl (fun g x => g.set x (f.get x)) g).get y = g.get y
 | [], _, _ => rfl
 | x :: l, g, h => by
  rw [List.foldl_cons, foldset_keep' l _ (fun hm => h (List.mem_cons_of_mem _ hm)), Fct.get_set_ne _ (fun e => h (by rw [e]; exact List.mem_cons_self))]
theorem listGo_each : ∀ (l M : List Blk), listGo M l = true → ∀ b ∈ l, b.ok = true
 | [], _, _, b, hb => by cases hb
 | a :: l, M, h, b, hb => by
  rw [listGo] at h
  simp only [Bool.and_eq_true] at h
  rcases List.mem_cons.1 hb with rfl | hb
  ·exact h.1
  ·exact listGo_each l _ h.2.2 b hb
theorem lab_after {l : Lab} (h : l.ok = true) : l.after.length ≤ 64 := (Lab.ok_vOk h).2.1
theorem ok_small {f : Fct} (h : f.ok = true) : f.Small := by
 have O := Fct.good h
 have keep : ∀ x, x ∉ kfields f.kind → f.get x = (Fct.bare f.n f.time f.kind).get x := fun x V => by
  conv => lhs; rw [O.used]
  exact foldset_keep' _ _ V
 refine ⟨?_, ?_, ?_, ?_⟩
 ·by_cases hm : Fld.topics ∈ kfields f.kind
  ·have : f.topics.length ≤ 4 := (O.fields _ hm).1
   omega
  ·have : f.topics = [] := keep .topics hm
   rw [this]; exact Nat.zero_le _
 ·by_cases hm : Fld.blocks ∈ kfields f.kind
  ·have : listOk f.blocks = true := O.fields _ hm
   simp only [listOk, Bool.and_eq_true, decide_eq_true_eq] at this
   omega
  ·have : f.blocks = [] := keep .blocks hm
   rw [this]; exact Nat.zero_le _
 ·by_cases hm : Fld.label ∈ kfields f.kind
  ·have : f.lab.after.length ≤ 64 := (O.fields _ hm).2.1
   omega
  ·have : f.lab = Lab.zero := keep .label hm
   rw [this]; exact Nat.zero_le _
 ·by_cases hm : Fld.blocks ∈ kfields f.kind
  ·have : listOk f.blocks = true := O.fields _ hm
   simp only [listOk, Bool.and_eq_true, decide_eq_true_eq] at this
   intro b M
   have M := listGo_each _ _ this.2 b M
   simp only [Blk.ok, Bool.and_eq_true] at M
   have := lab_after M.2.1
   omega
  ·have : f.blocks = [] := keep .blocks hm
   intro b M; rw [this] at M; cases M
abbrev zK1aa (a b : Nat) (x2 : OA) : Array Value := #[IV 0, IV 0, IV 0, IV 0, sZ, IV 0, IV 0, sZ, sZ, .slice none 0 0, .slice x2 a b, IV 0, .slice none 0 0, IV 0, IV 0, IV 0, IV 0, IV 0, sZ, sZ, IV 0, IV 0, IV 0]
abbrev zK1ab (a : Fct) (b x2 x3 x4 x5 c : Nat) (d e : OA) : Array Value := #[IV a.n, IV a.time, IV a.kind, IV a.story, .string a.lang, IV a.rev, IV a.base, .string a.title, .string a.author, .slice d b x2, .slice (SO x3) x4 x5, IV a.lab.unt, .slice e a.lab.after.length c, IV a.lab.appr, IV a.lab.den, IV a.editor, IV a.block, IV a.sentence, .string a.text, .string a.name, IV a.partner, IV a.cls, IV a.unt]
abbrev zK1ac (a : Fct) (b x2 x3 x4 x5 : Nat) (c d e : OA) : Array Value := #[IV a.n, IV a.time, IV a.kind, IV a.story, .string a.lang, IV a.rev, IV a.base, .string a.title, .string a.author, .slice c b x2, .slice d x3 x4, IV a.lab.unt, .slice e a.lab.after.length x5, IV a.lab.appr, IV a.lab.den, IV a.editor, IV a.block, IV a.sentence, .string a.text, .string a.name, IV a.partner, IV a.cls, IV a.unt]
abbrev zK1ad : Array Value := #[IV 0, IV 0, IV 0, IV 0, sZ, IV 0, IV 0, sZ, sZ, .slice none 0 0, .slice none 0 0, IV 0, .slice none 0 0, IV 0, IV 0, IV 0, IV 0, IV 0, sZ, sZ, IV 0, IV 0, IV 0]
abbrev copiedH0 (a : Nat) (cs : List Value) (b : Nat) (e : Fct) (o : OA) (n m l k : Nat) (g : OA) (f c : Nat) (j : OA) (i h : Nat) (d : SHeap) : SHeap := ((a, .cells ⟨cs⟩ 149) :: (b, .cells (zK1ab e n m a l k f o g) 38) :: (c, .cells (zK1aa i h j) 38) :: d)
abbrev copiedH1 (a B : Nat) (c : Fct) (sp : OA) (h : Nat) (g : OA) (f : Nat) (e : OA) (d : Nat) (b : SHeap) : SHeap := ((a, .cells zK1ad 38) :: (B, .cells ⟨c.cells sp h g f e d⟩ 38) :: b)
abbrev copiedH2 (a : Nat) (cs : List Value) (b : Nat) (e : Fct) (o : OA) (n m l k : Nat) (g : OA) (f c : Nat) (j : OA) (i h : Nat) (d : SHeap) : SHeap := ((a, .cells ⟨cs⟩ 149) :: (b, .cells (zK1ab e n m a l k f o g) 38) :: (c, .cells (zK1aa i h j) 38) :: d)
abbrev copiedH3 (a : Nat) (d : Fct) (n : OA) (m l c k j : Nat) (f : OA) (e b : Nat) (i : OA) (h g : Nat) : SHeap := [(a, .cells (zK1ab d m l c k j e n f) 38), (b, .cells (zK1aa h g i) 38)]
abbrev copiedH4 (a : Nat) (d : Fct) (o : OA) (n m : Nat) (l : OA) (k j : Nat) (f : OA) (e b : Nat) (i : OA) (h g : Nat) (c : SHeap) : SHeap := ((a, .cells (zK1ac d n m k j e o l f) 38) :: (b, .cells (zK1aa h g i) 38) :: c)
abbrev copiedA0 (a : Fct) (g : OA) (f e : Nat) (d : OA) (c b : Nat) (i : OA) (h : Nat) : Array Value := (zK1ac a f e c b h g d i)
abbrev copiedA1 : Array Value := zK1ad
abbrev copiedA2 (a : Fct) (g : OA) (f : Nat) (e : OA) (d : Nat) (c : OA) (b : Nat) : Array Value := ⟨a.cells g f e d c b⟩
abbrev copiedA3 (c : OA) (b a : Nat) : Array Value := (zK1aa b a c)
def copied_c0 (c : Fct) (u : OA) (t : Nat) (s : OA) (q : Nat) (f : OA) (e a b : Nat) (p : Int) (o : OA) (n m : Nat) (l : OA) (k j : Nat) (i : OA) (h g : Nat) (d : SHeap) (w0 : World) (R : Ending → World → Prop) : Prop :=
 AtE TP 52 40 (KC Tryz.f52 244) [(1, PP a), (2, PP b), (14, IV (c.blocks.length : Int)), (15, IV p)] (copiedH4 a c o n m l k j f e b i h g d) [] w0 (nrm R)
theorem copied_c0_vc (d : Fct) (Y : OA) (X : Nat) (V : OA) (U : Nat) (q : OA) (p m n : Nat) (f : Int) (l : OA) (k j : Nat) (w : OA) (e g : Nat) (u : OA) (t s : Nat) (O : SHeap)
 (H :
 Br (f < (d.blocks.length : Int))
 (∃ (h : Nat) (cs : List Value) (C : SHeap), w = some ⟨h, 0, none⟩ ∧ O.Perm ((h, .cells ⟨cs⟩ 149) :: C) ∧
 (0 ≤ f ∧ f < e) ∧
 ∃ (N : OA) (x : Nat) (M : Nat), (cs)[((((Int.toNat f) * 9) + 5) + 1)]? = some (.slice N x M) ∧
 CallH TP 90 ⟨[.slice N x M]⟩ (copiedH0 h cs m d l k j e g q p n u t s C) [] w0 (fun v L' => ∃ (F : OA) (D : Nat), ∃ G, v = (.slice F x D) ∧ L' = (copiedH2 h cs m d l k j e g q p n u t s G) ∧
 (0 ≤ f ∧ f < e) ∧
 (((((Int.toNat f) * 9) + 5) + 1) < (cs).length) ∧
 copied_c0 d Y X V U q p m n (IntKind.i64.wrap (f + (1 : Int))) l k j (SO h) e g u t s ((h, .cells ⟨((cs).set ((((Int.toNat f) * 9) + 5) + 1) (.slice F x D))⟩ 149) :: G) w0 R))
 (CallH TP 90 ⟨[.slice q d.lab.after.length p]⟩ (copiedH4 m d l k j w e g q p n u t s O) [] w0 (fun v L' => ∃ (z : OA) (y : Nat), ∃ Q, v = (.slice z d.lab.after.length y) ∧ L' = ((m, .cells (zK1ac d k j e g p l w q) 38) :: (n, .cells (copiedA3 u t s) 38) :: Q) ∧
 Fin R ((m, .cells (copiedA0 d l k j w e g z y) 38) :: (n, .cells (copiedA0 d l k j w e g z y) 38) :: Q) [] w0 (.agg (copiedA0 d l k j w e g z y))))) :
 copied_c0 d Y X V U q p m n f l k j w e g u t s O w0 R:= by
 unfold copied_c0
 refine .ru 5 (.sP 16 H ?_ ?_) <;> clear H <;> intro H
 ·refine .ru 9 ?_
  obtain ⟨h, cs, C, rfl, Z, H⟩ := H
  refine .permL (L' := (h, .cells ⟨cs⟩ 149) :: ((copiedH3 m d l k j h e g q p n u t s) ++ C)) (perm_tail (A := (copiedH3 m d l k j h e g q p n u t s)) Z) (.nm (KC Tryz.f52 7833) [(1, PP m), (2, PP n), (3, IV f), (14, IV (d.blocks.length : Int)), (15, IV f)] (copiedH0 h cs m d l k j e g q p n u t s C) (.nm (KC Tryz.f52 7833) [(1, PP m), (2, PP n), (3, IV f), (14, IV (d.blocks.length : Int)), (15, IV f)] (copiedH0 h cs m d l k j e g q p n u t s C) (.dD (.ph 11 [0,1,2,3,4,5,6,7,8,9] [10] [(h, .cells ⟨cs⟩ 149), (m, .cells (zK1ab d k j h e g p l q) 38), (n, .cells (copiedA3 u t s) 38)] (.pu (.ld 1 10 (.pu (.pu (.ld 1 10 (.pu (.indexAddrL (E := 149) (b := h) (o := 0) (len := e) (cap := g) (sz := 9) (o' := ((Int.toNat f) * 9)) (kd := .i64) (i := f) (by kernel_rfl) H.1 (by omega) ?_)))))))))))
  replace H := H.2
  refine .pu (.pu ?_)
  obtain ⟨N, x, M, a0, H⟩ := H
  refine .loadS 0 (off := ((((Int.toNat f) * 9) + 5) + 1)) (T := 34) (v := .slice N x M) (by kernel_rfl) (valAt_one a0 (by kernel_rfl)) (.dn (.cl H ?_))
  clear H
  rintro _ _ ⟨F, D, G, rfl, rfl, H⟩
  refine .dn (.nm [(1, PP m), (2, PP n), (14, IV (d.blocks.length : Int)), (15, IV f), (19, .slice (SO h) e g), (20, IV f), (28, .slice F x D)] (copiedH2 h cs m d l k j e g q p n u t s G) (.tl (.indexAddrL (E := 149) (b := h) (o := 0) (len := e) (cap := g) (sz := 9) (o' := ((Int.toNat f) * 9)) (kd := .i64) (i := f) (by kernel_rfl) H.1 (by omega) ?_)))
  replace H := H.2
  refine .ru 2 (.storeS 0 (off := ((((Int.toNat f) * 9) + 5) + 1)) (lo := 0) (hi := 0) (T := 34) (v := .slice F x D) (c := cs) (by kernel_rfl) H.1 (.inr (Nat.zero_le _)) ?_)
  replace H := H.2
  refine .ru 7 (.tT [1,2,0] 3 H)
 ·refine .ru 6 (.ld 0 12 (.cl H ?_))
  clear H
  rintro _ _ ⟨z, y, Q, rfl, rfl, H⟩
  refine .ru 2 (.store 0 12 (T := 34) (v := .slice z d.lab.after.length y) (by kernel_rfl) (.ru 3 (.ld 0 0 (.store 1 0 (T := 38) (v := .agg (copiedA0 d l k j w e g z y)) (by kernel_rfl) (.ru 1 (.retC 1 0 (a := 2) (T := 38) (v := .agg (copiedA0 d l k j w e g z y)) Tryz.func52 (by kernel_rfl) (by kernel_rfl) H))))))
theorem copied_vc (a : Fct) (h : OA) (g : Nat) (c : OA) (b : Nat) (f : OA) (e : Nat) (n : SHeap) (hm : Mem (n) [] w0 W)
 (H :
 ∀ B d : Nat,
 CallH TP 88 ⟨[.slice h a.topics.length g]⟩ ((d, .cells copiedA1 38) :: (B, .cells (copiedA2 a h g c b f e) 38) :: n) [] w0 (fun v L' => ∃ (sp : OA) (i : Nat), ∃ m, v = (.slice sp a.topics.length i) ∧ L' = ((d, .cells copiedA1 38) :: (B, .cells (copiedA2 a h g c b f e) 38) :: m) ∧
 CallH TP 89 ⟨[.slice c a.blocks.length b]⟩ ((d, .cells copiedA1 38) :: (B, .cells ⟨a.cells sp i c b f e⟩ 38) :: m) [] w0 (fun v L' => ∃ (l : OA) (k : Nat), ∃ j, v = (.slice l a.blocks.length k) ∧ L' = (copiedH1 d B a sp i c b f e j) ∧
 copied_c0 a h g c b f e B d (0 : Int) sp a.topics.length i l a.blocks.length k none 0 0 j w0 R))) :
 Calls TP 52 ⟨[.agg (copiedA2 a h g c b f e)]⟩ W R:= by
 refine AtE.cs 40 Tryz.func52 hm (.ru 2 (.nH (.cells (copiedA2 a h g c b f e) 38) H fun B H => (.front (.nH (.cells copiedA1 38) H fun d H => (.front (.ru 4 (.ld 1 9 (.cl H ?_))))))))
 rintro _ _ ⟨sp, i, m, rfl, rfl, H⟩
 refine .ru 1 (.st 1 9 (.ru 4 (.ld 1 10 (.cl H ?_))))
 rintro _ _ ⟨l, k, j, rfl, rfl, H⟩
 refine .nm (KR Tryz.f52 14 [3,4]) [(1, PP B), (2, PP d), (10, .slice l a.blocks.length k)] (copiedH1 d B a sp i c b f e j) (.ru 1 (.st 1 10 (.ru 5 (.ld 1 10 (.ru 5 (.tT [1,0] 2 H))))))
theorem slice_nil {p : OA} (hp : p = none) {n : Nat} {Q : Nat → Nat → List Value → Prop} (h : 0 < n → ∃ (b o : Nat) (c : List Value), p = some ⟨b, o, none⟩ ∧ Q b o c) : n = 0 := by
 rcases Nat.eq_zero_or_pos n with h0 | h0
 ·exact h0
 ·obtain ⟨b, o, cs, e, _⟩ := h h0
  rw [hp] at e; cases e
def BlkOutL (lk : Lk) (l : List Blk) (v : Value) (F : SHeap) : Prop :=
 ∃ p' c', v = .slice p' l.length c' ∧ l.length ≤ c' ∧ (0 < l.length → ∃ Q cs, p' = some ⟨Q, 0, none⟩ ∧ F = [(Q, .cells ⟨cs⟩ 149)] ∧ BRowL lk cs l)
theorem cloneB_e {p : OA} {c : Nat} {l : List Blk} (h : BlksL lk p l) (a6 : l.length ≤ 1000000) : EffW TP 89 ⟨[.slice p l.length c]⟩ [] (fun W => ∀ b c, lk b c → lkW W b c) (BlkOutL lk l) := by
 intro W hm a0
 refine cloneB_vc p l.length c hm ⟨fun hp => ?_, fun a V B => ?_⟩
 ·have O : l.length = 0 := slice_nil hp h
  exact dkFin ⟨none, 0, by rw [O], by omega, fun a2 => absurd a2 (by omega)⟩
 ·subst V
  obtain ⟨a4, n1, n2, a3⟩ := src_blks (c := c) (L := [(B, .cells #[] 149)]) (w0 := W) h fun a5 a1 => fun b c Z => lkW_kept a1 b c (a0 b c Z)
  refine ⟨a4, n1, ⟨Nat.le_refl _, rfl⟩, by omega, fun M cap r a7 a8 => dkFin ⟨some ⟨M, 0, none⟩, cap, by rw [Nat.zero_add], by omega, fun _ => ⟨M, _, rfl, rfl, a3.app0⟩⟩⟩
def FctOutL (lk : Lk) (l : List Fct) (v : Value) (F : SHeap) : Prop :=
 ∃ p' c', v = .slice p' l.length c' ∧ l.length ≤ c' ∧ (0 < l.length → ∃ Q cs, p' = some ⟨Q, 0, none⟩ ∧ F = [(Q, .cells ⟨cs⟩ 38)] ∧ cs.length = c' * 23 ∧ FRowL lk cs l) ∧ (l.length = 0 → (p' = none ∧ c' = 0 ∧ F = []) ∨ ∃ Q cs, p' = some ⟨Q, 0, none⟩ ∧ F = [(Q, .cells ⟨cs⟩ 38)] ∧ cs.length = c' * 23)
theorem cloneF_e {p : OA} {c : Nat} {l : List Fct} (h : FctsL lk p l) (a7 : l.length ≤ 1000000) : EffW TP 51 ⟨[.slice p l.length c]⟩ [] (fun W => ∀ b c, lk b c → lkW W b c) (FctOutL lk l) := by
 intro W hm a1
 refine cloneF_vc p l.length c hm ⟨fun hp => ?_, fun a Z B => ?_⟩
 ·have V : l.length = 0 := slice_nil hp h
  exact dkFin ⟨none, 0, by rw [V], by omega, fun a3 => absurd a3 (by omega), fun _ => .inl ⟨rfl, rfl, rfl⟩⟩
 ·subst Z
  obtain ⟨a5, n1, n2, a4⟩ := src_fcts (c := c) (L := [(B, .cells #[] 38)]) (w0 := W) h fun a6 a2 => fun b c a0 => lkW_kept a2 b c (a1 b c a0)
  refine ⟨a5, n1, ⟨Nat.le_refl _, rfl⟩, by omega, fun M cap r a8 O => dkFin ⟨some ⟨M, 0, none⟩, cap, by rw [Nat.zero_add], by omega, fun _ => ⟨M, _, rfl, rfl, O, a4.app0⟩, fun _ => .inr ⟨M, _, rfl, rfl, O⟩⟩⟩
theorem CallH.new (told : SHeap) {T : SHeap} (h : EffW P g args [] (fun W => ∀ b c, lk b c → lkW W b c) K) (V : ∀ W, Mem (told ++ T) S w0 W → ∀ b c, lk b c → lkW W b c)
  (M : ∀ v F', K v F' → K' v (told ++ (F' ++ T))) : CallH P g args (told ++ T) S w0 K' :=
 CallH.effW (L0 := []) (L1 := told ++ T) h V (List.Perm.refl _) fun v F' O => ⟨told ++ (F' ++ T), List.perm_append_comm_assoc _ _ _, M v F' O⟩
def BRow2 (lk lk' : Lk) (cs : List Value) (l : List Blk) (i : Nat) : Prop := ∀ j (h : j < l.length), j * 9 + 9 ≤ cs.length ∧ ((j < i → BlkL lk' ((cs.drop (j * 9)).take 9) l[j]) ∧ (i ≤ j → BlkL lk ((cs.drop (j * 9)).take 9) l[j]))
theorem BRow2.put {lk a0 Z M : Lk} {cs : List Value} {l : List Blk} {i : Nat} {p' : OA} {c' : Nat} (h : BRow2 lk Z cs l i) (hi : i < l.length) (a4 : ∀ b c, lk b c → a0 b c) (a5 : ∀ b c, Z b c → M b c) (hp : IntsL M p' l[i].lab.after) :
  BRow2 a0 M (cs.set (i * 9 + 5 + 1) (.slice p' l[i].lab.after.length c')) l (i + 1) := by
 intro j a2
 obtain ⟨O, a1, V⟩ := h j a2
 refine ⟨by rw [List.length_set]; exact O, fun a3 => ?_, fun a3 => ?_⟩
 ·by_cases e : j = i
  ·subst e
   obtain ⟨p, c, e, _, a6⟩ := V (Nat.le_refl _)
   exact ⟨p', c', row_set_eq O e, hp, a6⟩
  ·rw [row_set_ne (by omega)]
   exact (a1 (by omega)).mono a5
 ·rw [row_set_ne (by omega)]
  exact (V (by omega)).mono a4
def CopOut (f : Fct) (v : Value) (F : SHeap) : Prop := ∃ tp tc bp bc ap ac, v = .agg ⟨f.cells tp tc bp bc ap ac⟩ ∧ FAt (lkF F) f tp tc bp bc ap ac
theorem copied_end {f : Fct} (a3 : ∀ b c, lk b c → lkW w0 b c) (h : FAt lk f tp tc bp bc ap ac) (a4 : f.Small) {B2 B3 : Nat} {xp yp zp : OA} {xc yc zl zc : Nat} {T : SHeap}
  (V : StrsL (lkF T) xp f.topics) (Z : f.topics.length ≤ xc) (a0 : BlksL (lkF T) yp f.blocks) (a1 : f.blocks.length ≤ yc) :
  copied_c0 f tp tc bp bc ap ac B2 B3 (f.blocks.length : Int) xp f.topics.length xc yp f.blocks.length yc zp zl zc T w0 (fun e O => ∃ v L', e = .returned v ∧ Mem L' [] w0 O ∧ CopOut f v L') := by
 apply copied_c0_vc
 refine no (by omega) (CallH.new [_, _] (cloneI_e h.ints (Nat.le_trans a4.ints (by omega))) (fun W hm b c a2 => lkW_kept hm b c (a3 b c a2)) ?_)
 rintro _ F' ⟨p', c', rfl, k1, a5⟩
 refine ⟨p', c', _, rfl, rfl, dkFin ⟨xp, xc, yp, yc, p', c', rfl, ?_⟩⟩
 exact ⟨V.mono (lkF_mono fun x M => by simp [M]), a0.mono (lkF_mono fun x M => by simp [M]), a5.mono (lkF_mono fun x M => by simp [M]), Z, a1, k1, h.fits⟩
theorem copied_loop {f : Fct} (a0 : ∀ b c, lk b c → lkW w0 b c) (h : FAt lk f tp tc bp bc ap ac) (V : f.Small) {B2 B3 Q : Nat} {xp : OA} {xc yc : Nat} (a1 : f.topics.length ≤ xc) (a2 : f.blocks.length ≤ yc) :
  ∀ (g i : Nat) (cs : List Value) (T O : SHeap) (zp : OA) (zl zc : Nat), g + i = f.blocks.length → T.Perm ((Q, .cells ⟨cs⟩ 149) :: O) → StrsL (lkF O) xp f.topics → BRow2 (lkU O lk) (lkF O) cs f.blocks i →
   copied_c0 f tp tc bp bc ap ac B2 B3 (i : Int) xp f.topics.length xc (SO Q) f.blocks.length yc zp zl zc T w0 (fun e a3 => ∃ v L', e = .returned v ∧ Mem L' [] w0 a3 ∧ CopOut f v L')
 | 0, i, cs, T, O, zp, zl, zc, hg, hp, h1, h3 => by
  obtain rfl : i = f.blocks.length := by omega
  refine copied_end a0 h V (h1.mono (lkF_mono fun x M => hp.mem_iff.2 (List.mem_cons_of_mem _ M))) a1 (fun _ => ⟨Q, 0, cs, rfl, ⟨_, _, hp.mem_iff.2 List.mem_cons_self⟩, fun j Z => ?_⟩) a2
  rw [Nat.zero_add]
  exact ⟨(h3 j Z).1, ((h3 j Z).2.1 Z).mono (lkF_mono fun x M => hp.mem_iff.2 (List.mem_cons_of_mem _ M))⟩
 | g + 1, i, cs, T, O, zp, zl, zc, hg, hp, h1, h3 => by
  apply copied_c0_vc
  have a8 := V.blks
  have hi : i < f.blocks.length := by omega
  obtain ⟨k1, b0, a5⟩ := h3 i hi
  obtain ⟨p, c, e, a7, b3⟩ := a5 (Nat.le_refl _)
  have a9 := V.each _ (List.getElem_mem hi)
  have a4 : IntKind.i64.wrap ((i : Int) + 1) = ((i + 1 : Nat) : Int) := by rw [wi64 (by omega)]; omega
  refine yes (by omega) ⟨Q, cs, O, rfl, hp, by omega, p, f.blocks[i].lab.after.length, c, by rw [Int.toNat_natCast, Nat.add_assoc, row_get (by decide) e]; rfl, ?_⟩
  refine CallH.new [_, _, _] (cloneI_e a7 (by omega)) (fun W hm => lkU_in a0 hm fun x M => by simp [M]) ?_
  rintro _ F' ⟨p', c', rfl, b1, a6⟩
  refine ⟨p', c', _, rfl, rfl, by omega, by rw [Int.toNat_natCast]; omega, ?_⟩
  rw [a4, Int.toNat_natCast]
  exact copied_loop a0 h V a1 a2 g (i + 1) _ _ (F' ++ O) zp zl zc (by omega) (List.Perm.refl _) (h1.mono (lkF_mono fun x M => List.mem_append_right _ M))
   (h3.put hi (lkU_mono fun x M => List.mem_append_right _ M) (lkF_mono fun x M => List.mem_append_right _ M) (a6.mono (lkF_mono fun x M => List.mem_append_left _ M)))
theorem copied_e {f : Fct} (h : FAt lk f tp tc bp bc ap ac) (O : f.Small) : EffW TP 52 ⟨[.agg ⟨f.cells tp tc bp bc ap ac⟩]⟩ [] (fun W => ∀ b c, lk b c → lkW W b c) (CopOut f) := by
 intro W hm M
 refine copied_vc f tp tc bp bc ap ac [] hm fun B a8 => CallH.new [_, _] (cloneS_e h.tops (Nat.le_trans O.tops (by omega))) (fun W hm b c V => lkW_kept hm b c (M b c V)) ?_
 rintro _ a0 ⟨p1, c1, rfl, a3, a4⟩
 refine ⟨p1, c1, _, rfl, rfl, CallH.new [_, _] (cloneB_e h.blks (Nat.le_trans O.blks (by omega))) (fun W hm b c V => lkW_kept hm b c (M b c V)) ?_⟩
 rintro _ a9 ⟨a7, a1, rfl, a5, b3⟩
 refine ⟨a7, a1, _, rfl, rfl, ?_⟩
 rcases Nat.eq_zero_or_pos f.blocks.length with h0 | hpos
 ·have b0 : f.blocks = [] := List.length_eq_zero_iff.1 h0
  have := copied_end M h O (B2 := B) (B3 := a8) (xp := p1) (yp := a7) (zp := none) (xc := c1) (yc := a1) (zl := 0) (zc := 0) (T := a9 ++ (a0 ++ [])) (a4.mono (lkF_mono fun x Z => by simp [Z])) a3 (by rw [b0]; exact blks_nil) a5
  rw [h0] at this ⊢
  exact this
 ·obtain ⟨Q, cs, rfl, rfl, a6⟩ := b3 hpos
  refine copied_loop M h O a3 a5 f.blocks.length 0 cs _ (a0 ++ []) none 0 0 (by omega) (List.Perm.refl _) (a4.mono (lkF_mono fun x Z => by simp [Z])) fun j a2 => ⟨(a6 j a2).1, fun b1 => absurd b1 (by omega), fun _ => (a6 j a2).2.mono lkU_r⟩
abbrev jFactsH0 (a : Nat) (g : Fct) (m : OA) (l : Nat) (k : OA) (j : Nat) (i : OA) (h B : Nat) (gen : Int) (f : OA) (e d : Nat) (c : Int) (n : Nat) (sz b : Int) (o : Bool) : SHeap := [(a, .cells ⟨g.cells m l k j i h⟩ 38), (B, .cells #[IV gen, .slice f e d, IV c, PP n, IV sz, IV b, .bool o] 86)]
abbrev jFactsH1 (a : Nat) (h : Fct) (n : OA) (m : Nat) (l : OA) (k : Nat) (j : OA) (i B : Nat) (gen : Int) (g : OA) (f e : Nat) (d : Int) (o : Nat) (sz c : Int) (p : Bool) (b : SHeap) : SHeap := ((a, .cells ⟨h.cells n m l k j i⟩ 38) :: (B, .cells #[IV gen, .slice g f e, IV d, PP o, IV sz, IV c, .bool p] 86) :: b)
abbrev jFactsA0 (a : Fct) (g : OA) (f : Nat) (e : OA) (d : Nat) (c : OA) (b : Nat) : Array Value := ⟨a.cells g f e d c b⟩
abbrev jFactsA1 (a : Fct) (g : OA) (f : Nat) (e : OA) (d : Nat) (c : OA) (b : Nat) : Array Value := ⟨a.cells g f e d c b⟩
abbrev jFactsA2 (gen : Int) (e : OA) (d c : Nat) (b : Int) (f : Nat) (sz a : Int) (g : Bool) : Array Value := #[IV gen, .slice e d c, IV b, PP f, IV sz, IV a, .bool g]
def jFacts_c0 (q : Nat) (gen : Int) (f : OA) (a e : Nat) (d : Int) (p : Nat) (sz c : Int) (s : Bool) (B : Nat) (i : OA) (h g : Nat) (n : OA) (m l : Nat) (o : Int) (j : Nat) (k : Bool) (b : SHeap) (S : List Nat) (w0 : World) (R : Ending → World → Prop) : Prop :=
 AtE TP 15 28 (KC Tryz.f15 244) [(3, .slice i h g), (14, .slice n m l), (15, IV (a : Int)), (16, IV o)] ((B, .cells (jFactsA2 gen f a e d j sz c k) 86) :: b) S w0 (nrm R)
theorem jFacts_c0_vc (a7 : Nat) (gen : Int) (t : OA) (d s : Nat) (q : Int) (a6 : Nat) (sz m : Int) (a8 : Bool) (B : Nat) (z : OA) (y F : Nat) (Z : OA) (Y a1 : Nat) (a : Int) (u : Nat) (w : Bool) (a3 : SHeap)
 (H :
 Br (a < (d : Int))
 (∃ a2 G : Nat, Z = some ⟨a2, G, none⟩ ∧ (0 ≤ a ∧ a < Y) ∧
 ∃ (a5 : List Value) (e : Fct) (l : OA) (k : Nat) (j : OA) (h : Nat) (g : OA) (f : Nat), (∃ b4 b0, (a2, Obj.cells ⟨a5⟩ b4 b0) ∈ ((B, .cells (jFactsA2 gen t d s q u sz m w) 86) :: a3)) ∧ ((a5.drop (G + ((Int.toNat a) * 23))).take 23 = (e.cells l k j h g f) ∧ (G + ((Int.toNat a) * 23)) + 23 ≤ a5.length) ∧
 ∀ x : Nat,
 CallH TP 52 ⟨[.agg (jFactsA0 e l k j h g f)]⟩ ((x, .cells (jFactsA0 e l k j h g f) 38) :: (B, .cells (jFactsA2 gen t d s q u sz m w) 86) :: a3) S w0 (fun v L' => ∃ (M : Fct) (X : OA) (V : Nat) (U : OA) (Q : Nat) (O : OA) (N : Nat), ∃ a4, v = (.agg (jFactsA1 M X V U Q O N)) ∧ L' = (jFactsH1 x e l k j h g f B gen t d s q u sz m w a4) ∧
 ∃ C D : Nat, z = some ⟨C, D, none⟩ ∧ (0 ≤ a ∧ a < y) ∧
 ∃ (cs : List Value) (a0 : SHeap), a4.Perm ((C, .cells ⟨cs⟩ 38) :: a0) ∧
 ((D + ((Int.toNat a) * 23)) + 23 ≤ (cs).length) ∧
 jFacts_c0 a7 gen t d s q a6 sz m a8 B z y F Z Y a1 (IntKind.i64.wrap (a + (1 : Int))) u w ((C, .cells ⟨(over (cs) (D + ((Int.toNat a) * 23)) (M.cells X V U Q O N))⟩ 38) :: (x, .cells (jFactsA0 e l k j h g f) 38) :: a0) S w0 R))
 (Fin R ((B, .cells (jFactsA2 gen t d s q u sz m w) 86) :: a3) S w0 (.slice z y F))) :
 jFacts_c0 a7 gen t d s q a6 sz m a8 B z y F Z Y a1 a u w a3 S w0 R:= by
 unfold jFacts_c0
 refine .ru 5 (.sP 17 H (fun H => ?_) fun H => ?_)
 ·refine .ru 7 ?_
  obtain ⟨a2, G, hp, H⟩ := H
  refine .indexAddrP (E := 38) (p := Z) (b := a2) (o := G) (len := Y) (cap := a1) (sz := 23) (o' := (G + ((Int.toNat a) * 23))) (kd := .i64) (i := a) hp (by kernel_rfl) H.1 (by omega) ?_
  replace H := H.2
  obtain ⟨a5, e, l, k, j, h, g, f, b3, a9, H⟩ := H
  refine .loadT (b := a2) (off := (G + ((Int.toNat a) * 23))) (T := 38) (v := .agg (jFactsA0 e l k j h g f)) (by kernel_rfl) b3 (valAt_agg a9.1 a9.2 (by kernel_rfl) (by kernel_rfl)) (.nH (.cells #[IV 0, IV 0, IV 0, IV 0, sZ, IV 0, IV 0, sZ, sZ, .slice none 0 0, .slice none 0 0, IV 0, .slice none 0 0, IV 0, IV 0, IV 0, IV 0, IV 0, sZ, sZ, IV 0, IV 0, IV 0] 38) H fun x H => (.front (.ru 1 (.store 0 0 (T := 38) (v := .agg (jFactsA0 e l k j h g f)) (by kernel_rfl) (.ru 4 (.ld 0 0 (.cl H ?_)))))))
  rintro _ _ ⟨M, X, V, U, Q, O, N, a4, rfl, rfl, H⟩
  refine .nm (KR Tryz.f15 7833 [4,5]) [(3, .slice z y F), (14, .slice Z Y a1), (15, IV (d : Int)), (16, IV a), (21, .slice z y F), (22, IV a), (24, .agg (jFactsA1 M X V U Q O N))] (jFactsH1 x e l k j h g f B gen t d s q u sz m w a4) ?_
  obtain ⟨C, D, hp, H⟩ := H
  refine .indexAddrP (E := 38) (p := z) (b := C) (o := D) (len := y) (cap := F) (sz := 23) (o' := (D + ((Int.toNat a) * 23))) (kd := .i64) (i := a) hp (by kernel_rfl) H.1 (by omega) ?_
  replace H := H.2
  obtain ⟨cs, a0, b1, H⟩ := H
  refine .permL (L' := (C, .cells ⟨cs⟩ 38) :: ((jFactsH0 x e l k j h g f B gen t d s q u sz m w) ++ a0)) (perm_tail (A := (jFactsH0 x e l k j h g f B gen t d s q u sz m w)) b1) (.nm (KR Tryz.f15 7833 [5]) [(3, .slice z y F), (14, .slice Z Y a1), (15, IV (d : Int)), (16, IV a), (24, .agg (jFactsA1 M X V U Q O N)), (25, .pointer (some ⟨C, (D + ((Int.toNat a) * 23)), none⟩))] ((C, .cells ⟨cs⟩ 38) :: (x, .cells (jFactsA0 e l k j h g f) 38) :: (B, .cells (jFactsA2 gen t d s q u sz m w) 86) :: a0) (.storeA 0 (off := (D + ((Int.toNat a) * 23))) (n := 23) (T := 38) (vs := (M.cells X V U Q O N)) (c := cs) (by kernel_rfl) H.1 ?_))
  replace H := H.2
  refine .ru 7 (.tT [2,0,1] 3 H)
 ·refine .ru 7 (.rt Tryz.func15 H)
theorem jFacts_vc (b : Nat) (gen : Int) (f : OA) (a e : Nat) (h : Int) (c : Nat) (sz g : Int) (d : Bool) (k : SHeap) (hm : Mem ((b, .cells #[IV gen, .slice f a e, IV h, PP c, IV sz, IV g, .bool d] 86) :: k) S w0 W)
 (H :
 CallH TP 51 ⟨[.slice f a e]⟩ ((b, .cells #[IV gen, .slice f a e, IV h, PP c, IV sz, IV g, .bool d] 86) :: k) S w0 (fun v L' => ∃ (sp : OA) (i : Nat), ∃ j, v = (.slice sp a i) ∧ L' = ((b, .cells #[IV gen, .slice f a e, IV h, PP c, IV sz, IV g, .bool d] 86) :: j) ∧
 jFacts_c0 b gen f a e h c sz g d b sp a i sp a i (0 : Int) c d j S w0 R)) :
 Calls TP 15 ⟨[PP b]⟩ W R:= by
 refine AtE.cs 28 Tryz.func15 hm (.ru 18 (.ld 0 1 (.cl H ?_)))
 rintro _ _ ⟨sp, i, j, rfl, rfl, H⟩
 refine .ru 11 (.tT [0] 1 H)
def FRow (lk : Lk) (fs : List Fct) (p : OA) (c : Nat) (G : SHeap) : Prop :=
 fs.length ≤ c ∧ ((p = none ∧ c = 0 ∧ fs = []) ∨ ∃ Q cs G0, p = some ⟨Q, 0, none⟩ ∧ G.Perm ((Q, .cells ⟨cs⟩ 38) :: G0) ∧ cs.length = c * 23 ∧ FRowL (lkU G0 lk) cs fs)
theorem FRow.nil0 {G : SHeap} : FRow lk [] none 0 G := ⟨Nat.le_refl _, .inl ⟨rfl, rfl, rfl⟩⟩
theorem FRow.perm {fs : List Fct} {p : OA} {c : Nat} {G O : SHeap} (h : FRow lk fs p c G) (hp : O.Perm G) : FRow lk fs p c O := by
 obtain ⟨V, M | ⟨Q, cs, Z, e, M, a0, a1⟩⟩ := h
 ·exact ⟨V, .inl M⟩
 ·exact ⟨V, .inr ⟨Q, cs, Z, e, hp.trans M, a0, a1⟩⟩
theorem FRow.more {fs : List Fct} {p : OA} {c : Nat} {G : SHeap} (h : FRow lk fs p c G) (X : SHeap) : FRow lk fs p c (X ++ G) := by
 obtain ⟨O, M | ⟨Q, cs, V, e, M, Z, a0⟩⟩ := h
 ·exact ⟨O, .inl M⟩
 ·exact ⟨O, .inr ⟨Q, cs, X ++ V, e, (M.append_left X).trans List.perm_middle, Z, a0.mono (lkU_mono fun x a1 => List.mem_append_right _ a1)⟩⟩
theorem FRow.fcts {fs : List Fct} {p : OA} {c : Nat} {G : SHeap} (h : FRow lk fs p c G) : FctsL (lkU G lk) p fs := by
 obtain ⟨a0, ⟨_, _, rfl⟩ | ⟨Q, cs, Z, rfl, M, a1, O⟩⟩ := h
 ·exact fcts_nil
 ·exact (O.mono (lkU_mono fun x V => M.mem_iff.2 (List.mem_cons_of_mem _ V))).at (.inl ⟨_, _, M.mem_iff.2 List.mem_cons_self⟩)
theorem perm_as1 {x : Nat × Obj} {A B C : SHeap} : (x :: (A ++ (B ++ C))).Perm ((x :: (A ++ B)) ++ C) := by rw [List.cons_append, List.append_assoc]
theorem perm_as2 {x y : Nat × Obj} {A B C : SHeap} : (x :: y :: (A ++ (B ++ C))).Perm ((x :: y :: (A ++ B)) ++ C) := by rw [List.cons_append, List.cons_append, List.append_assoc]
theorem FRow.push {fs : List Fct} {p : OA} {c : Nat} {G X Y L : SHeap} {f : Fct} (h : FRow lk fs p c G) (a4 : FAt (lkU X lk) f tp tc bp bc ap ac) {n : Nat} (hn : fs.length = n) (b0 : n ≤ 1000000) (hp : L.Perm (X ++ (G ++ Y))) :
  AppN TP 23 22 22 (.slice p n c) 1 (f.cells tp tc bp bc ap ac) L S w0 (fun v L' => ∃ p' c' N, v = .slice p' (n + 1) c' ∧ L'.Perm (N ++ Y) ∧ FRow lk (fs ++ [f]) p' c' N ∧ FRow lk fs p c N ∧ ∀ x ∈ X, x ∈ N) := by
 subst hn
 obtain ⟨a0, ⟨rfl, rfl, rfl⟩ | ⟨Q, cs, O, rfl, a5, a1, a3⟩⟩ := h
 ·refine (AppN.nil (T := 22) (E := 38) (z := .agg ⟨Fct.zero.cells none 0 none 0 none 0⟩) (sz := 23) (bytes := 272) (by kernel_rfl) (by kernel_rfl) rfl (by omega) (by omega)).mono ?_
  rintro _ _ ⟨B, cap, r, rfl, Z, V, rfl⟩
  refine ⟨some ⟨B, 0, none⟩, cap, (B, .cells ⟨f.cells tp tc bp bc ap ac ++ r⟩ 38) :: (X ++ G), rfl, ?_, ⟨by simpa using Z, .inr ⟨B, _, X ++ G, rfl, List.Perm.refl _, V, ?_⟩⟩, FRow.nil0, fun x M => by simp [M]⟩
  ·exact List.perm_append_comm.trans ((List.Perm.cons _ hp).trans perm_as1)
  ·exact FRowL.one (a4.mono (lkU_mono fun x M => List.mem_append_left _ M)) Z V
 ·have a9 : L.Perm ((Q, .cells ⟨cs⟩ 38) :: (X ++ (O ++ Y))) := by
   refine hp.trans ?_
   refine (((a5.append_right Y).append_left X).trans ?_)
   exact List.perm_middle
  refine (AppN.row (E := 38) (z := .agg ⟨Fct.zero.cells none 0 none 0 none 0⟩) (sz := 23) (bytes := 272) (by kernel_rfl) (by kernel_rfl) rfl a9 ⟨a0, a1⟩ (by omega) (by omega)).mono ?_
  rintro _ _ ⟨B, cap, r, rfl, Z, V, a6⟩
  have M : ∀ b c, lkU X lk b c → lkU (X ++ O) lk b c := lkU_mono fun x M => List.mem_append_left _ M
  have a7 : ∀ b c, lkU O lk b c → lkU (X ++ O) lk b c := lkU_mono fun x M => List.mem_append_right _ M
  have a2 := FRowL.app (r := r) (a3.mono a7) a0 a1 (a4.mono M) Z V
  have a8 : FRowL (lkU (X ++ O) lk) (cs.take (fs.length * 23) ++ f.cells tp tc bp bc ap ac ++ r) fs := by
   have := a2.take fs.length
   rwa [List.take_left' rfl] at this
  rcases a6 with ⟨rfl, rfl, rfl⟩ | rfl
  ·refine ⟨some ⟨B, 0, none⟩, cap, (B, .cells ⟨cs.take (fs.length * 23) ++ f.cells tp tc bp bc ap ac ++ r⟩ 38) :: (X ++ O), rfl, ?_, ⟨by simpa using Z, .inr ⟨B, _, X ++ O, rfl, List.Perm.refl _, V, a2⟩⟩, ?_, fun x M => by simp [M]⟩
   ·exact perm_as1
   ·exact ⟨a0, .inr ⟨B, _, X ++ O, rfl, List.Perm.refl _, V, a8⟩⟩
  ·refine ⟨some ⟨B, 0, none⟩, cap, (B, .cells ⟨cs.take (fs.length * 23) ++ f.cells tp tc bp bc ap ac ++ r⟩ 38) :: (Q, .cells ⟨cs⟩ 38) :: (X ++ O), rfl, ?_, ⟨by simpa using Z, .inr ⟨B, _, (Q, .cells ⟨cs⟩ 38) :: (X ++ O), rfl, List.Perm.refl _, V, a2.mono (lkU_mono fun x M => List.mem_cons_of_mem _ M)⟩⟩, ⟨a0, .inr ⟨Q, cs, (B, .cells ⟨cs.take (fs.length * 23) ++ f.cells tp tc bp bc ap ac ++ r⟩ 38) :: (X ++ O), rfl, List.Perm.swap _ _ _, a1, a3.mono (lkU_mono fun x M => List.mem_cons_of_mem _ (List.mem_append_right _ M))⟩⟩, fun x M => by simp [M]⟩
   exact perm_as2
structure JM where
 gen : Int
 fs : List Fct
 en : Nat
 sz : Nat
 cu : Nat
 br : Bool
abbrev JM.js (m : JM) (p : OA) (c : Nat) : JS := ⟨m.gen, p, m.fs.length, c, (m.en : Int), (m.sz : Int), (m.cu : Int), m.br⟩
def JRep (JB D : Nat) (m : JM) (G : SHeap) : Prop := ∃ p c T, G = jH JB D (m.js p c) :: T ∧ FRow noLk m.fs p c T
def FRow2 (lk lk' : Lk) (cs : List Value) (l : List Fct) (i : Nat) : Prop := ∀ j (h : j < l.length), j * 23 + 23 ≤ cs.length ∧ ((j < i → FctL lk' ((cs.drop (j * 23)).take 23) l[j]) ∧ (i ≤ j → FctL lk ((cs.drop (j * 23)).take 23) l[j]))
theorem FRow2.put {lk V O : Lk} {cs : List Value} {l : List Fct} {i : Nat} (h : FRow2 lk V cs l i) (hi : i < l.length) (a4 : ∀ b c, V b c → O b c) (hp : FAt O l[i] tp tc bp bc ap ac) :
  FRow2 lk O (over cs (i * 23) (l[i].cells tp tc bp bc ap ac)) l (i + 1) := by
 have M := (h i hi).1
 have a5 : (over cs (i * 23) (l[i].cells tp tc bp bc ap ac)).length = cs.length := over_length (by show i * 23 + 23 ≤ _; exact M)
 intro j a2
 obtain ⟨Z, a0, a1⟩ := h j a2
 refine ⟨by rw [a5]; exact Z, fun a3 => ?_, fun a3 => ?_⟩
 ·by_cases e : j = i
  ·subst e
   rw [row23_set_eq rfl M]
   exact ⟨_, _, _, _, _, _, rfl, hp⟩
  ·rw [row23_set_ne rfl M e]
   exact (a0 (by omega)).mono a4
 ·rw [row23_set_ne rfl M (by omega)]
  exact a1 (by omega)
def FactsK (fs : List Fct) (G : SHeap) (v : Value) (L' : SHeap) : Prop := ∃ p c N, v = .slice p fs.length c ∧ L'.Perm (N ++ G) ∧ FRow noLk fs p c N
theorem perm_in {x : Nat × Obj} {N T F : SHeap} {j : Nat × Obj} (h : F.Perm (x :: (N ++ T))) : (j :: F).Perm ((x :: N) ++ (j :: T)) :=
 (h.cons j).trans ((List.Perm.swap x j (N ++ T)).trans ((List.perm_middle.symm).cons x))
theorem facts_loop {JB D : Nat} {m : JM} {p : OA} {c : Nat} {T : SHeap} (a7 : FRow noLk m.fs p c T) (a0 : ∀ f ∈ m.fs, f.Small) (b0 : m.fs.length ≤ 1000000) {Q c' : Nat} (V : m.fs.length ≤ c') :
  ∀ (g i : Nat) (cs : List Value) (F M : SHeap), g + i = m.fs.length → F.Perm ((Q, .cells ⟨cs⟩ 38) :: (M ++ T)) → cs.length = c' * 23 → FRow2 (lkF T) (lkF M) cs m.fs i →
   jFacts_c0 JB m.gen p m.fs.length c (m.en : Int) D (m.sz : Int) (m.cu : Int) m.br JB (SO Q) m.fs.length c' (SO Q) m.fs.length c' (i : Int) D m.br F S w0 (fun e a2 => ∃ v L', e = .returned v ∧ Mem L' S w0 a2 ∧ FactsK m.fs (jH JB D (m.js p c) :: T) v L')
 | 0, i, cs, F, M, hg, hp, hc2, h => by
  apply jFacts_c0_vc
  refine no (by omega) (dkFin ⟨_, _, (Q, .cells ⟨cs⟩ 38) :: M, rfl, perm_in hp, V, .inr ⟨Q, cs, M, rfl, List.Perm.refl _, hc2, fun j Z => ⟨(h j Z).1, ((h j Z).2.1 (by omega)).mono lkU_l⟩⟩⟩)
 | g + 1, i, cs, F, M, hg, hp, hc2, h => by
  apply jFacts_c0_vc
  have hi : i < m.fs.length := by omega
  obtain ⟨k1, b6, b3⟩ := h i hi
  obtain ⟨tp, tc, bp, bc, ap, ac, e, a8⟩ := b3 (Nat.le_refl _)
  refine yes (by omega) ⟨Q, 0, rfl, by omega, cs, m.fs[i], tp, tc, bp, bc, ap, ac, ⟨_, _, List.mem_cons_of_mem _ (hp.mem_iff.2 List.mem_cons_self)⟩, ⟨by rw [Nat.zero_add, Int.toNat_natCast]; exact e, by rw [Int.toNat_natCast]; omega⟩, fun a1 => ?_⟩
  refine CallH.new [_, _] (copied_e a8 (a0 _ (List.getElem_mem hi))) (fun W hm => lkF_W hm fun x O => List.mem_cons_of_mem _ (List.mem_cons_of_mem _ (hp.mem_iff.2 (List.mem_cons_of_mem _ (List.mem_append_right _ O))))) ?_
  rintro _ F' ⟨b5, b4, a6, a5, a4, a3, rfl, a9⟩
  have b1 : IntKind.i64.wrap ((i : Int) + 1) = ((i + 1 : Nat) : Int) := by rw [wi64 (by omega)]; omega
  refine ⟨m.fs[i], b5, b4, a6, a5, a4, a3, _, rfl, rfl, Q, 0, rfl, by omega, cs, F' ++ (M ++ T), ?_, by rw [Int.toNat_natCast]; omega, ?_⟩
  ·exact ((hp.append_left F').trans List.perm_middle)
  ·rw [b1, Int.toNat_natCast, Nat.zero_add]
   refine facts_loop a7 a0 b0 V g (i + 1) _ _ ((a1, .cells ⟨m.fs[i].cells tp tc bp bc ap ac⟩ 38) :: (F' ++ M)) (by omega) ?_ ?_ (h.put hi (lkF_mono fun x O => List.mem_cons_of_mem _ (List.mem_append_right _ O)) (a9.mono (lkF_mono fun x O => List.mem_cons_of_mem _ (List.mem_append_left _ O))))
   ·rw [List.cons_append, List.append_assoc]
   ·rw [over_length (by show i * 23 + 23 ≤ _; omega)]; exact hc2
theorem facts_e {JB D : Nat} {m : JM} {G : SHeap} (h : JRep JB D m G) (a3 : ∀ f ∈ m.fs, f.Small) (Z : m.fs.length ≤ 1000000) : EffC TP 15 ⟨[pt JB 0]⟩ G (FactsK m.fs G) := by
 obtain ⟨p, c, T, rfl, O⟩ := h
 intro W hm
 refine jFacts_vc JB m.gen p m.fs.length c (m.en : Int) D (m.sz : Int) (m.cu : Int) m.br T hm (CallH.new [_] (cloneF_e (lk := lkU T noLk) O.fcts Z) (fun W hm b c a1 => lkF_W hm (fun x a4 => List.mem_cons_of_mem _ a4) b c (lkU_no b c a1)) ?_)
 rintro _ F' ⟨p', c', rfl, k1, a5, a6⟩
 refine ⟨p', c', _, rfl, rfl, ?_⟩
 rcases Nat.eq_zero_or_pos m.fs.length with h0 | hpos
 ·apply jFacts_c0_vc
  have hn : m.fs = [] := List.length_eq_zero_iff.1 h0
  refine no (by omega) ?_
  rcases a6 h0 with ⟨rfl, rfl, rfl⟩ | ⟨Q, cs, rfl, rfl, M⟩
  ·exact dkFin ⟨_, _, [], rfl, List.Perm.refl _, by rw [hn]; exact FRow.nil0⟩
  ·exact dkFin ⟨_, _, [(Q, .cells ⟨cs⟩ 38)], rfl, perm_in (N := []) (List.Perm.refl _), k1, .inr ⟨Q, cs, [], rfl, List.Perm.refl _, M, by rw [hn]; exact fun i hi => absurd hi (by simp)⟩⟩
 ·obtain ⟨Q, cs, rfl, rfl, M, a0⟩ := a5 hpos
  exact facts_loop O a3 Z k1 m.fs.length 0 cs _ [] (by omega) (List.Perm.refl _) M fun j V => ⟨(a0 j V).1, fun a2 => absurd a2 (by omega), fun _ => (a0 j V).2.mono lkU_no⟩
theorem jNextJ_vc (a : Nat) (gen : Int) (i : OA) (b h : Nat) (g : Int) (c : Nat) (sz f : Int) (e : Bool) (d : SHeap) (hm : Mem ((a, .cells #[IV gen, .slice i b h, IV g, PP c, IV sz, IV f, .bool e] 86) :: d) S w0 W) (H : VP S w0 R (.ru [9,200] <| .li 3 2 (IntKind.i64.wrap ((b : Int) + 1)) fun j => .re 1 (IV j) ((a, .cells #[IV gen, .slice i b h, IV g, PP c, IV sz, IV f, .bool e] 86) :: d))) : Calls TP 53 ⟨[PP a]⟩ W R := VC.cs Tryz.func53 hm _ H
abbrev jAppendH0 (B : Nat) (g : Fct) (p : OA) (o : Nat) (k : OA) (j : Nat) (i : OA) (h c : Nat) (gen : Int) (n : OA) (m l : Nat) (f : Int) (a : Nat) (sz e : Int) (d : Bool) (b : SHeap) : SHeap := ((B, .cells ⟨g.cells p o k j i h⟩ 38) :: (c, .cells #[IV gen, .slice n m l, IV f, PP a, IV sz, IV e, .bool d] 86) :: b)
abbrev jAppendH1 (B : Nat) (g : Fct) (p : OA) (o : Nat) (k : OA) (j : Nat) (i : OA) (h c : Nat) (gen : Int) (n : OA) (m l : Nat) (f : Int) (a : Nat) (sz e : Int) (d : Bool) (b : SHeap) : SHeap := ((B, .cells ⟨g.cells p o k j i h⟩ 38) :: (c, .cells #[IV gen, .slice n m l, IV f, PP a, IV sz, IV e, .bool d] 86) :: b)
abbrev jAppendH2 (B : Nat) (g : Fct) (p : OA) (o : Nat) (k : OA) (j : Nat) (i : OA) (h c : Nat) (gen : Int) (n : OA) (m l : Nat) (f : Int) (a : Nat) (sz e : Int) (d : Bool) (b : SHeap) : SHeap := ((B, .cells ⟨g.cells p o k j i h⟩ 38) :: (c, .cells #[IV gen, .slice n m l, IV f, PP a, IV sz, IV e, .bool d] 86) :: b)
abbrev jAppendH3 (B : Nat) (f : Fct) (o : OA) (n : Nat) (j : OA) (i : Nat) (h : OA) (g b : Nat) (gen : Int) (m : OA) (l k : Nat) (e : Int) (a : Nat) (sz d : Int) (c : Bool) : SHeap := [(B, .cells ⟨f.cells o n j i h g⟩ 38), (b, .cells #[IV gen, .slice m l k, IV e, PP a, IV sz, IV d, .bool c] 86)]
abbrev jAppendH4 (B : Nat) (g : Fct) (p : OA) (o : Nat) (k : OA) (j : Nat) (i : OA) (h c : Nat) (gen : Int) (n : OA) (m l : Nat) (f : Int) (a : Nat) (sz e : Int) (d : Bool) (b : SHeap) : SHeap := ((B, .cells ⟨g.cells p o k j i h⟩ 38) :: (c, .cells #[IV gen, .slice n m l, IV f, PP a, IV sz, IV e, .bool d] 86) :: b)
abbrev jAppendH5 (B : Nat) (g : Fct) (p : OA) (o : Nat) (k : OA) (j : Nat) (i : OA) (h c : Nat) (gen : Int) (n : OA) (m l : Nat) (f : Int) (a : Nat) (sz e : Int) (d : Bool) (b : SHeap) : SHeap := ((B, .cells ⟨g.cells p o k j i h⟩ 38) :: (c, .cells #[IV gen, .slice n m l, IV f, PP a, IV sz, IV e, .bool d] 86) :: b)
abbrev jAppendA0 (a : Fct) (g : OA) (f : Nat) (e : OA) (d : Nat) (c : OA) (b : Nat) : Array Value := ⟨a.cells g f e d c b⟩
abbrev jAppendA1 (a : Fct) (g : OA) (f : Nat) (e : OA) (d : Nat) (c : OA) (b : Nat) : Array Value := ⟨a.cells g f e d c b⟩
theorem jAppend_vc (a : Nat) (d : Fct) (k : OA) (j : Nat) (i : OA) (h : Nat) (g : OA) (f : Nat) (gen : Int) (p : OA) (e o : Nat) (l : Int) (q : Nat) (sz m : Int) (u : Bool) (w : SHeap) (hm : Mem ((a, .cells #[IV gen, .slice p e o, IV l, PP q, IV sz, IV m, .bool u] 86) :: w) S w0 W)
 (H :
 ∀ B : Nat,
 Bb (u)
 (Fin R (jAppendH0 B d k j i h g f a gen p e o l q sz m u w) S w0 (IV 240))
 (∃ (Z : Bool), (QCall TP 24 ⟨[.agg (jAppendA0 d k j i h g f)]⟩ (jAppendH0 B d k j i h g f a gen p e o l q sz m u w) S w0 (.bool Z)) ∧
 Bb (Z)
 (∃ (a4 : Int), (QCall TP 53 ⟨[PP a]⟩ (jAppendH0 B d k j i h g f a gen p e o l q sz m u w) S w0 (IV a4)) ∧
 Bn (d.n = a4)
 (Fin R (jAppendH0 B d k j i h g f a gen p e o l q sz m u w) S w0 (IV 240))
 (CallH TP 54 ⟨[.agg (jAppendA0 d k j i h g f)]⟩ (jAppendH0 B d k j i h g f a gen p e o l q sz m u w) S w0 (fun v L' => ∃ z, v = .string z ∧ L' = (jAppendH0 B d k j i h g f a gen p e o l q sz m u w) ∧
 CallH TP 23 ⟨[PP a]⟩ (jAppendH0 B d k j i h g f a gen p e o l q sz m u w) S w0 (fun v L' => ∃ a5, v = IV a5 ∧ L' = (jAppendH0 B d k j i h g f a gen p e o l q sz m u w) ∧
 Br (a5 < (z.size : Int))
 (Fin R (jAppendH0 B d k j i h g f a gen p e o l q sz m u w) S w0 (IV 241))
 (∃ (a6 : Int), (QCallB TP 44 ⟨[PP a, IV m]⟩ (jAppendH3 B d k j i h g f a gen p e o l q sz m u) S w0 (IV a6)) ∧
 CallH TP 49 ⟨[PP a, IV (IntKind.i64.wrap (a6 + l)), .string z]⟩ (jAppendH0 B d k j i h g f a gen p e o l q sz m u w) S w0 (fun v L' => ∃ (sp : OA) (a0 : Nat), ∃ X, v = (.slice sp 4 a0) ∧ L' = (jAppendH2 B d k j i h g f a gen p e o l q sz m u X) ∧
 CallH TP 50 ⟨[PP a, .slice sp 4 a0]⟩ (jAppendH2 B d k j i h g f a gen p e o l q sz m u X) S w0 (fun v L' => ∃ N re, ∃ (y : Bool), v = IV re ∧ L' = (jAppendH1 B d k j i h g f a gen p e o l q sz m y N) ∧
 Bn (re = 0)
 (Fin R (jAppendH1 B d k j i h g f a gen p e o l q sz m y N) S w0 (IV re))
 (CallH TP 52 ⟨[.agg (jAppendA0 d k j i h g f)]⟩ (jAppendH1 B d k j i h g f a gen p e o l q sz m y N) S w0 (fun v L' => ∃ (A : Fct) (M : OA) (G : Nat) (F : OA) (E : Nat) (D : OA) (C : Nat), ∃ a1, v = (.agg (jAppendA1 A M G F E D C)) ∧ L' = (jAppendH4 B d k j i h g f a gen p e o l q sz m y a1) ∧
 ∀ V : Nat,
 AppN TP 23 22 22 (.slice p e o) (1) (A.cells M G F E D C) ((jAppendH4 B d k j i h g f a gen p e o l q sz m y a1) ++ [(V, .cells (jAppendA1 A M G F E D C) 38)]) S w0 (fun v L' => ∃ (ap : OA) (O : Nat), ∃ Y, v = (.slice ap (e + 1) O) ∧ L' = (jAppendH5 B d k j i h g f a gen p e o l q sz m y Y) ∧
 Fin R ((B, .cells (jAppendA0 d k j i h g f) 38) :: (a, .cells #[IV gen, .slice ap (e + 1) O, IV (IntKind.i64.wrap (l + (z.size : Int))), PP q, IV sz, IV m, .bool y] 86) :: Y) S w0 (IV 0)))))))))))
 (Fin R (jAppendH0 B d k j i h g f a gen p e o l q sz m u w) S w0 (IV 240)))) :
 Calls TP 16 ⟨[PP a, .agg (jAppendA0 d k j i h g f)]⟩ W R:= by
 refine AtE.cs 85 Tryz.func16 hm (.ru 2 (.nH (.cells (jAppendA0 d k j i h g f) 38) H fun B H => (.front (.ru 11 (.ld 1 3 (.ru 7 (.nm (KC Tryz.f16 28) [(0, PP a), (3, PP B)] (jAppendH0 B d k j i h g f a gen p e o l q sz m u w) (.dr 18 (.pu (.pu (.pu (.ld 1 6 (.pu (.split 20 (b := u) (by kernel_rfl) (fun a2 => ?_) (fun a2 => ?_)))))))))))))))
 ·replace H := H.1 a2
  refine .sk (.sk (.sk (.pu (.pu (.sk (.sk (.sk (.sk (.sk (.sk (.sk (.pu (.dn (.ru 6 (.rt Tryz.func16 H)))))))))))))))
 ·replace H := H.2 a2
  refine .ld 0 0 ?_
  obtain ⟨Z, Q, H⟩ := H
  refine .cl Q (.split 22 (b := Z) (by kernel_rfl) (fun a3 => ?_) (fun a3 => ?_))
  ·replace H := H.1 a3
   refine .pu (.pu (.pu (.pu (.ld 0 0 (.pu (.pu (.pu ?_)))))))
   obtain ⟨a4, Q, H⟩ := H
   refine .cl Q (.pu (.pu (.dn (.ru 1 (.sN 33 H (fun H => ?_) fun H => ?_)))))
   ·refine .nm (KC Tryz.f16 29) [(0, PP a), (3, PP B), (33, .bool true)] (jAppendH0 B d k j i h g f a gen p e o l q sz m u w) (.ru 5 (.rt Tryz.func16 H))
   ·refine .nm (KC Tryz.f16 29) [(0, PP a), (3, PP B), (33, .bool false)] (jAppendH0 B d k j i h g f a gen p e o l q sz m u w) (.ru 4 (.ld 0 0 (.cl H ?_)))
    rintro _ _ ⟨z, rfl, rfl, H⟩
    refine .ru 8 (.cl H ?_)
    rintro _ _ ⟨a5, rfl, rfl, H⟩
    refine .ru 2 (.sP 40 H (fun H => ?_) fun H => ?_)
    ·refine .ru 5 (.rt Tryz.func16 H)
    ·refine .ru 4 (.nm (KC Tryz.f16 252) [(0, PP a), (3, PP B), (5, .string z)] (jAppendH0 B d k j i h g f a gen p e o l q sz m u w) (.dD (.ph 16 [0,1,2,3,4,5,6,7,8,9,10,11,12,13,14] [15] (jAppendH3 B d k j i h g f a gen p e o l q sz m u) (.pu (.pu (.pu (.pu (.pu (.pu (.ld 1 5 ?_))))))))))
     obtain ⟨a6, Q, H⟩ := H
     refine .cl Q (.pu (.pu (.pu (.pu (.ld 1 2 (.pu (.pu (.dn (.cl H ?_)))))))))
     rintro _ _ ⟨sp, a0, X, rfl, rfl, H⟩
     refine .dn (.nm [(0, PP a), (3, PP B), (5, .string z), (41, PP a), (56, .slice sp 4 a0)] (jAppendH2 B d k j i h g f a gen p e o l q sz m u X) (.tl (.cl H ?_)))
     rintro _ _ ⟨N, re, y, rfl, rfl, H⟩
     refine .ru 7 (.sN 59 H (fun H => ?_) fun H => ?_)
     ·refine .ru 6 (.rt Tryz.func16 H)
     ·refine .ru 3 (.nm (KC Tryz.f16 254) [(0, PP a), (3, PP B), (5, .string z)] (jAppendH1 B d k j i h g f a gen p e o l q sz m y N) (.dD (.ph 10 [0,1,2,3,4,5,6] [7,8,9] [(B, .cells (jAppendA0 d k j i h g f) 38), (a, .cells #[IV gen, .slice p e o, IV l, PP q, IV sz, IV m, .bool y] 86)] (.pu (.pu (.pu (.pu (.pu (.ld 1 1 (.ld 0 0 (.dn (.cl H ?_))))))))))))
      rintro _ _ ⟨A, M, G, F, E, D, C, a1, rfl, rfl, H⟩
      refine .new _ (fun B => .slice (SO B) 1 1) (.cells (jAppendA1 A M G F E D C) 38) rfl (fun W => by kernel_rfl) (by kernel_rfl) (fun V => ?_)
      replace H := H V
      refine .appendT _ (sz := 23) (T := 22) (U := 22) (s := .slice p e o) (x := .slice (SO V) 1 1) (1) (A.cells M G F E D C) rfl (by kernel_rfl) (srcRow (E' := 38) (t := 38) (fz := (0, 0)) (c := (A.cells M G F E D C)) (List.mem_append_right _ (by simp)) (by kernel_rfl) (by simp) (by simp [Value.oneCell'])) H ?_
      rintro _ _ ⟨ap, O, Y, rfl, rfl, H⟩
      refine .dn (.nm [(0, PP a), (5, .string z), (61, PP a), (70, .slice ap (e + 1) O)] (jAppendH5 B d k j i h g f a gen p e o l q sz m y Y) (.tl (.ru 3 (.store 1 1 (T := 22) (v := .slice ap (e + 1) O) (by kernel_rfl) (.ru 7 (.ld 1 2 (.ru 6 (.store 1 2 (T := 3) (v := IV (IntKind.i64.wrap (l + (z.size : Int)))) (by kernel_rfl) (.ru 5 (.rt Tryz.func16 H))))))))))
  ·replace H := H.2 a3
   refine .pu (.pu (.pu (.sk (.sk (.sk (.sk (.sk (.sk (.sk (.pu (.dn (.ru 6 (.rt Tryz.func16 H)))))))))))))
theorem PW.ro {P : Program} {g : FuncId} {args : Array Value} {W : World} {v : Value} {x : Nat × Obj} (h : ∀ {R : Ending → World → Prop} {S : List Nat} {w0 W : World}, Mem [x] S w0 W → Fin R [x] S w0 v → Calls P g args W R) (O : W.heap[x.1]? = some x.2) : PW P g args W v := by
 have hm : Mem [x] [x.1] W W := ⟨by simp, by simp [O], by simp, Kept.refl _ W⟩
 refine h hm fun Z M => ⟨rfl, M.kept.os, M.kept.tape, M.kept.output, M.kept.size, fun k V => ?_⟩
 by_cases e : k = x.1
 ·subst e
  rw [M.here x List.mem_cons_self, O]
 ·exact M.kept.block k V (by simpa using e)
theorem perm_of {A B : SHeap} (h : ∀ (c : SHeap → Nat) (w : Nat × Obj → Nat), (∀ x l, c (x :: l) = c l + w x) → (∀ a b, c (a ++ b) = c a + c b) → c [] = 0 → (∀ a b : SHeap, a.Perm b → c a = c b) → c A = c B) : A.Perm B :=
 letI : DecidableEq (Nat × Obj) := fun a b => Classical.propDecidable (a = b)
 List.perm_iff_count.2 fun a => h (List.count a) (fun x => if x == a then 1 else 0) (fun x l => List.count_cons) (fun _ _ => List.count_append) List.count_nil (fun _ _ hp => hp.count_eq a)
theorem perm_a {A B : SHeap} (h : ∀ (c : SHeap → Nat) (w : Nat × Obj → Nat), (∀ x l, c (x :: l) = c l + w x) → (∀ a b, c (a ++ b) = c a + c b) → c [] = 0 → (∀ a b : SHeap, a.Perm b → c a = c b) → c A = c B := by intro c w M O V Z; simp only [M, O, V, List.cons_append, List.nil_append]; omega) : A.Perm B := perm_of h
theorem AppN.monoP {P : Program} {S : List Nat} {w0 : World} {L : SHeap} {sz : Nat} {T U : TypeId} {s : Value} {m : Nat} {O : List Value} {K K' : Value → SHeap → Prop} (h : AppN P sz T U s m O L S w0 K) (a4 : ∀ v L', K v L' → ∃ M, L'.Perm M ∧ K' v M) : AppN P sz T U s m O L S w0 K' := by
 intro x ty W hm a5
 obtain ⟨v, V, L', Z, a0, a1⟩ := h x ty W hm a5
 obtain ⟨M, a2, a3⟩ := a4 v L' a1
 exact ⟨v, V, M, Z, a0.perm a2.symm, a3⟩
section perms
variable (x y z : Nat × Obj) (A F T X Z : SHeap)
theorem pm1 : ([x] ++ (y :: A)).Perm (y :: x :: A) := perm_a
theorem pm2 : ((x :: X) ++ (y :: A)).Perm (y :: x :: (X ++ A)) := perm_a
theorem pm3 : ((x :: (F ++ X)) ++ (y :: T)).Perm (y :: x :: (X ++ (F ++ T))) := perm_a
theorem pm4 : ((x :: (F ++ X)) ++ (y :: T)).Perm (y :: x :: (F ++ (X ++ T))) := perm_a
theorem pm5 : (y :: x :: (F ++ T)).Perm (x :: (F ++ (y :: T))) := perm_a
theorem pm6 : ((y :: x :: (Z ++ (F ++ (X ++ T)))) ++ [z]).Perm (Z ++ (T ++ (y :: x :: z :: (F ++ X)))) := perm_a
theorem pm7 : (A ++ (y :: x :: z :: (F ++ X))).Perm (y :: x :: (A ++ (z :: (F ++ X)))) := perm_a
theorem pm8 : (y :: x :: (A ++ (z :: (F ++ X)))).Perm (x :: (F ++ ((y :: z :: X) ++ A))) := perm_a
end perms
theorem room_pw {W : World} {JB D : Nat} {m : JM} {p : OA} {c : Nat} (h : W.heap[JB]? = some (jH JB D (m.js p c)).2) (O : m.en ≤ m.sz) (V : m.sz ≤ 4194304) : PW TP 23 ⟨[pt JB 0]⟩ W (.int .i64 ((m.sz - m.en : Nat) : Int)) := by
 refine PW.ro (x := jH JB D (m.js p c)) (fun hm M => jRoom_vc JB m.gen p m.fs.length c (m.en : Int) D (m.sz : Int) (m.cu : Int) m.br hm ?_) h
 rintro _ rfl
 rw [wi64 (by omega), show (m.sz : Int) - (m.en : Int) = ((m.sz - m.en : Nat) : Int) by omega]
 exact M
theorem gen_pw {W : World} {JB D : Nat} {m : JM} {p : OA} {c : Nat} (h : W.heap[JB]? = some (jH JB D (m.js p c)).2) : PW TP 26 ⟨[pt JB 0]⟩ W (.int .i64 m.gen) :=
 PW.ro (x := jH JB D (m.js p c)) (fun hm M => jGen_vc JB m.gen p m.fs.length c (m.en : Int) D (m.sz : Int) (m.cu : Int) m.br hm M) h
theorem start_pw {W : World} {JB D : Nat} {m : JM} {p : OA} {c k : Nat} (h : W.heap[JB]? = some (jH JB D (m.js p c)).2) (O : k ≤ 1) (V : m.sz ≤ 4194304) : PW TP 44 ⟨[pt JB 0, .int .i64 (k : Int)]⟩ W (.int .i64 ((k * m.sz : Nat) : Int)) := by
 refine PW.ro (x := jH JB D (m.js p c)) (fun hm M => jStart_vc JB (k : Int) m.gen p m.fs.length c (m.en : Int) D (m.sz : Int) (m.cu : Int) m.br hm ?_) h
 rintro _ rfl
 have e : (k : Int) * (m.sz : Int) = ((k * m.sz : Nat) : Int) := by simp
 have : k * m.sz ≤ 1 * 4194304 := Nat.mul_le_mul O V
 rw [e, wi64 (by omega)]
 exact M
theorem next_pw {W : World} {JB D : Nat} {m : JM} {p : OA} {c : Nat} (h : W.heap[JB]? = some (jH JB D (m.js p c)).2) (O : m.fs.length ≤ 1000000) : PW TP 53 ⟨[pt JB 0]⟩ W (.int .i64 ((m.fs.length + 1 : Nat) : Int)) := by
 refine PW.ro (x := jH JB D (m.js p c)) (fun hm M => jNextJ_vc JB m.gen p m.fs.length c (m.en : Int) D (m.sz : Int) (m.cu : Int) m.br [] hm ?_) h
 rintro _ rfl
 rw [wi64 (by omega), show (m.fs.length : Int) + 1 = ((m.fs.length + 1 : Nat) : Int) by omega]
 exact M
structure MOk (m : JM) : Prop where
 en : m.en ≤ m.sz
 sz : m.sz ≤ 2097152
 cu : m.cu ≤ 1
 ok : ∀ f ∈ m.fs, f.ok = true
 len : m.fs.length ≤ 500
 gen : 0 ≤ m.gen ∧ m.gen ≤ 4611686018427387903
def appendM (m : JM) (d : DS) (f : Fct) : Int × JM × DS :=
 if m.br = true then (240, m, d) else if f.ok = false then (240, m, d) else if f.n ≠ (m.fs.length + 1 : Nat) then (240, m, d)
 else if m.sz - m.en < (recL f).length then (241, m, d)
 else if (runOps (safeOps ((m.cu * m.sz + m.en : Nat) : Int) (ba (recL f))) d).1 = 0 then (0, { m with fs := m.fs ++ [f], en := m.en + (recL f).length }, (runOps (safeOps ((m.cu * m.sz + m.en : Nat) : Int) (ba (recL f))) d).2)
 else ((runOps (safeOps ((m.cu * m.sz + m.en : Nat) : Int) (ba (recL f))) d).1, { m with br := true }, (runOps (safeOps ((m.cu * m.sz + m.en : Nat) : Int) (ba (recL f))) d).2)
def JD (JB D : Nat) (m : JM) (d : DS) (L : SHeap) : Prop := ∃ F p c T, L.Perm (jH JB D (m.js p c) :: (F ++ T)) ∧ DRep D d F ∧ FRow noLk m.fs p c T
def APre (lk : Lk) (S : List Nat) (W : World) : Prop := (0 ∉ S ∧ blkW W 0 = some tabV) ∧ ∀ b c, lk b c → lkX S W b c
theorem lkX_kept {lk : Lk} {S : List Nat} {w0 W : World} {L : SHeap} (h : ∀ b c, lk b c → lkX S w0 b c) (hm : Mem L S w0 W) : ∀ b c, lk b c → lkW W b c := fun b c M => blkW_kept hm.kept (h b c M).1 (h b c M).2
theorem append_e {lk : Lk} {JB D : Nat} {m : JM} {d : DS} {L : SHeap} {f : Fct} {tp bp ap : OA} {tc bc ac : Nat} (h : JD JB D m d L) (hm : MOk m) (hp : d.pend.length < 900000) (b0 : FAt lk f tp tc bp bc ap ac) :
  EffW TP 16 ⟨[pt JB 0, .agg ⟨f.cells tp tc bp bc ap ac⟩]⟩ L (APre lk (L.map (·.1))) (fun v L' => v = .int .i64 (appendM m d f).1 ∧ JD JB D (appendM m d f).2.1 (appendM m d f).2.2 L') := by
 obtain ⟨F, p, c, T, c9, b6, a8⟩ := h
 intro W d5 ⟨⟨hS, hg⟩, hlk⟩
 generalize L.map (·.1) = S at *
 have d6 := d5.perm c9.symm
 have d3 := hm.en; have e2 := hm.sz; have b5 := hm.cu; have e7 := hm.len
 refine jAppend_vc JB f tp tc bp bc ap ac m.gen p m.fs.length c (m.en : Int) D (m.sz : Int) (m.cu : Int) m.br (F ++ T) d6 fun B => ?_
 have a2 : ∀ {e : Int} {b3 : JM × DS}, (e, b3) = appendM m d f → b3 = (m, d) → Fin (fun e O => ∃ v L', e = .returned v ∧ Mem L' S W O ∧ v = .int .i64 (appendM m d f).1 ∧ JD JB D (appendM m d f).2.1 (appendM m d f).2.2 L') (jAppendH0 B f tp tc bp bc ap ac JB m.gen p m.fs.length c (m.en : Int) D (m.sz : Int) (m.cu : Int) m.br (F ++ T)) S W (.int .i64 e) := by
  intro e b3 c7 c8
  subst c8
  rw [← c7]
  refine dkFin ⟨rfl, F, p, c, (B, .cells (jAppendA0 f tp tc bp bc ap ac) 38) :: T, ?_, b6, a8.more [_]⟩
  exact pm5 _ _ _ _
 refine ⟨fun Z => a2 (by rw [appendM, if_pos Z]) rfl, fun Z => ⟨f.ok, QCall.pw fun O M => fValid_c (b0.mono (lkX_kept hlk M)), fun V => ?_, fun V => a2 (by rw [appendM, if_neg (by rw [Z]; decide), if_pos V]) rfl⟩⟩
 refine ⟨((m.fs.length + 1 : Nat) : Int), QCall.pw fun O M => next_pw (m := m) (M.here (jH JB D (m.js p c)) (List.mem_cons_of_mem _ List.mem_cons_self)) (by omega), fun hn => a2 (by rw [appendM, if_neg (by rw [Z]; decide), if_neg (by rw [V]; decide), if_pos hn]) rfl, fun hn => ?_⟩
 refine CallH.pw (fun O M => record_c (blkW_kept M.kept hS hg) (b0.mono (lkX_kept hlk M)) V) ⟨_, rfl, rfl, ?_⟩
 refine CallH.pw (fun O M => room_pw (m := m) (M.here (jH JB D (m.js p c)) (List.mem_cons_of_mem _ List.mem_cons_self)) d3 (by omega)) ⟨_, rfl, rfl, fun b1 => a2 (by rw [appendM, if_neg (by rw [Z]; decide), if_neg (by rw [V]; decide), if_neg (by simpa using hn), if_pos (by rw [ba_size] at b1; omega)]) rfl, fun b1 => ?_⟩
 rw [ba_size] at b1
 have e8 : (recL f).length ≤ m.sz - m.en := by omega
 refine ⟨((m.cu * m.sz : Nat) : Int), QCallB.pw fun O M => start_pw (m := m) (M.here (jH JB D (m.js p c)) (List.mem_cons_of_mem _ List.mem_cons_self)) b5 (by omega), ?_⟩
 have e6 : m.cu * m.sz ≤ 1 * 2097152 := Nat.mul_le_mul b5 e2
 have c5 : IntKind.i64.wrap (((m.cu * m.sz : Nat) : Int) + (m.en : Int)) = ((m.cu * m.sz + m.en : Nat) : Int) := by rw [wi64 (by omega)]; omega
 rw [c5]
 have d8 : 1 ≤ (ba (recL f)).size := by rw [ba_size]; show 1 ≤ (frm _).length; rw [frm]; simp
 refine CallH.eff (L0 := [jH JB D (m.js p c)]) (L1 := (B, .cells (jAppendA0 f tp tc bp bc ap ac) 38) :: (F ++ T)) (safely_e (j := m.js p c) d8 (by omega)) (pm1 _ _ _) ?_
 rintro _ _ ⟨Bs, X, rfl, rfl, d9⟩
 refine ⟨_, pm2 _ _ _ _, some ⟨Bs, 0, none⟩, 4, _, rfl, rfl, ?_⟩
 obtain ⟨vs, t, fz, k1, e3, e4⟩ := d9
 refine CallH.eff (L0 := jH JB D (m.js p c) :: (F ++ X)) (L1 := (B, .cells (jAppendA0 f tp tc bp bc ap ac) 38) :: T) (run_e (ops := safeOps ((m.cu * m.sz + m.en : Nat) : Int) (ba (recL f))) (sc := 4) k1 e3 e4 (j := m.js p c) (by show 4 ≤ 1000; omega) b6 hp) (pm3 _ _ _ _ _) ?_
 rintro _ _ ⟨F', rfl, rfl, b7⟩
 have b4 : appendM m d f = if (runOps (safeOps ((m.cu * m.sz + m.en : Nat) : Int) (ba (recL f))) d).1 = 0 then (0, { m with fs := m.fs ++ [f], en := m.en + (recL f).length }, (runOps (safeOps ((m.cu * m.sz + m.en : Nat) : Int) (ba (recL f))) d).2)
   else ((runOps (safeOps ((m.cu * m.sz + m.en : Nat) : Int) (ba (recL f))) d).1, { m with br := true }, (runOps (safeOps ((m.cu * m.sz + m.en : Nat) : Int) (ba (recL f))) d).2) := by
  rw [appendM, if_neg (by rw [Z]; decide), if_neg (by rw [V]; decide), if_neg (by simpa using hn), if_neg (by omega)]
 generalize runOps (safeOps ((m.cu * m.sz + m.en : Nat) : Int) (ba (recL f))) d = r at *
 have d2 : jH JB D ((m.js p c).after r.1) = (JB, .cells #[.int .i64 m.gen, .slice p m.fs.length c, .int .i64 m.en, .pointer (SO D), .int .i64 m.sz, .int .i64 m.cu, .bool ((m.js p c).after r.1).br] 86) := by
  unfold JS.after; split <;> rfl
 rw [d2]
 refine ⟨_, pm4 _ _ _ _ _, F' ++ (X ++ T), r.1, ((m.js p c).after r.1).br, rfl, rfl, fun c2 => ?_, fun b9 => ?_⟩
 ·rw [b4, if_neg c2]
  have a9 : ((m.js p c).after r.1).br = true := by rw [JS.after, if_neg c2]
  rw [a9]
  exact dkFin ⟨rfl, F', p, c, (B, .cells (jAppendA0 f tp tc bp bc ap ac) 38) :: (X ++ T), pm5 _ _ _ _, b7, a8.more (_ :: X)⟩
 ·have a9 : ((m.js p c).after r.1).br = m.br := by rw [JS.after, if_pos b9]
  rw [a9]
  refine CallH.new (lk := lk) [_, _] (copied_e b0 (ok_small V)) (fun O M => lkX_kept hlk M) ?_
  rintro _ c3 ⟨a6, a5, a4, a3, a1, a0, rfl, d4⟩
  refine ⟨f, a6, a5, a4, a3, a1, a0, _, rfl, rfl, fun a7 => ?_⟩
  refine (FRow.push (X := c3) (Y := (B, .cells (jAppendA0 f tp tc bp bc ap ac) 38) :: jH JB D (m.js p c) :: (a7, .cells (jAppendA1 f a6 a5 a4 a3 a1 a0) 38) :: (F' ++ X)) a8 (d4.mono lkU_l) rfl (by omega) (pm6 _ _ _ _ _ _ _)).monoP ?_
  rintro _ e5 ⟨p', c', N, rfl, d7, d0, _, _⟩
  refine ⟨_, d7.trans (pm7 _ _ _ _ _ _), p', c', N ++ ((a7, .cells (jAppendA1 f a6 a5 a4 a3 a1 a0) 38) :: (F' ++ X)), rfl, rfl, ?_⟩
  rw [b4, if_pos b9]
  have c6 : IntKind.i64.wrap ((m.en : Int) + ((ba (recL f)).size : Int)) = ((m.en + (recL f).length : Nat) : Int) := by rw [ba_size, wi64 (by omega)]; omega
  have c4 : (m.fs ++ [f]).length = m.fs.length + 1 := by simp
  rw [c6]
  have d1 : FRow noLk (m.fs ++ [f]) p' c' ((((B, .cells (jAppendA0 f tp tc bp bc ap ac) 38) :: (a7, .cells (jAppendA1 f a6 a5 a4 a3 a1 a0) 38) :: X) ++ N)) := d0.more _
  exact dkFin ⟨rfl, F', p', c', _, by rw [JM.js, c4]; exact pm8 _ _ _ _ _ _, b7, d1⟩
abbrev jRedactedA0 (a : Fct) (g : OA) (f : Nat) (e : OA) (d : Nat) (c : OA) (b : Nat) : Array Value := ⟨a.cells g f e d c b⟩
abbrev jRedactedA1 (a : Fct) (g : OA) (f : Nat) (e : OA) (d : Nat) (c : OA) (b : Nat) : Array Value := ⟨a.cells g f e d c b⟩
abbrev jRedactedA2 (a : Fct) (g : OA) (f : Nat) (e : OA) (d : Nat) (c : OA) (b : Nat) : Array Value := ⟨a.cells g f e d c b⟩
abbrev jRedactedA3 (gen : Int) (e : OA) (d c : Nat) (b : Int) (f : Nat) (sz a : Int) (g : Bool) : Array Value := #[IV gen, .slice e d c, IV b, PP f, IV sz, IV a, .bool g]
abbrev jRedactedA4 (gen : Int) (e : OA) (d c : Nat) (b : Int) (f : Nat) (sz a : Int) (g : Bool) : Array Value := #[IV gen, .slice e d c, IV b, PP f, IV sz, IV a, .bool g]
abbrev jRedactedA5 : Array Value := #[IV 0, IV 0, IV 0, IV 0, sZ, IV 0, IV 0, sZ, sZ, .slice none 0 0, .slice none 0 0, IV 0, .slice none 0 0, IV 0, IV 0, IV 0, IV 0, IV 0, sZ, sZ, IV 0, IV 0, IV 0]
def jRedacted_c0 (o : Nat) (gen : Int) (e : OA) (a d : Nat) (h : Int) (n : Nat) (sz g : Int) (p : Bool) (b c : Nat) (m : Int) (j : Nat) (k : Bool) (i : Array MapEntry) (l : Nat) (f : SHeap) (S : List Nat) (w0 : World) (R : Ending → World → Prop) : Prop :=
 AtE TP 67 66 (KC Tryz.f67 116) [(0, PP b), (4, .map (some c)), (16, .slice e a d), (17, IV (a : Int)), (18, IV m)] ((b, .cells (jRedactedA4 gen e a d h j sz g k) 86) :: (c, .map i l) :: f) S w0 (nrm R)
def jRedacted_c1 (t : Nat) (gen : Int) (d : OA) (a c : Nat) (i : Int) (s : Nat) (sz h : Int) (u : Bool) (b e g : Nat) (m : OA) (l k : Nat) (q : Int) (j : Array MapEntry) (p n : Nat) (o : Bool) (f : SHeap) (S : List Nat) (w0 : World) (R : Ending → World → Prop) : Prop :=
 AtE TP 67 66 (KC Tryz.f67 2036) [(4, .map (some b)), (7, PP g), (8, .slice m l k), (44, .slice d a c), (45, IV (a : Int)), (46, IV q)] ((b, .map j p) :: (e, .cells (jRedactedA3 gen d a c i n sz h o) 86) :: f) S w0 (nrm R)
theorem jRedacted_c0_vc (U : Nat) (gen : Int) (d : OA) (a f : Nat) (k : Int) (O : Nat) (sz j : Int) (V : Bool) (g e : Nat) (s : Int) (l : Nat) (m : Bool) (h : Array MapEntry) (q : Nat) (t : SHeap)
 (H :
 Br (s < (a : Int))
 (∃ N x : Nat, d = some ⟨N, x, none⟩ ∧ (0 ≤ s ∧ s < a) ∧
 ∃ (X : List Value) (u : Fct) (F : OA) (D : Nat) (C : OA) (A : Nat) (z : OA) (y : Nat), (∃ a9 a5, (N, Obj.cells ⟨X⟩ a9 a5) ∈ ((g, .cells (jRedactedA4 gen d a f k l sz j m) 86) :: (e, .map h q) :: t)) ∧ ((X.drop (x + ((Int.toNat s) * 23))).take 23 = (u.cells F D C A z y) ∧ (x + ((Int.toNat s) * 23)) + 23 ≤ X.length) ∧
 ∀ G : Nat,
 Br (u.kind = 6)
 ((intKeys .i64 (h : Array MapEntry).toList = true) ∧
 ∀ (M : Array MapEntry) (Y : Nat), intKeys .i64 M.toList = true → (∀ Z, entryI .i64 Z M.toList = if Z = u.story then some (.bool true) else entryI .i64 Z (h : Array MapEntry).toList) →
 jRedacted_c0 U gen d a f k O sz j V g e (IntKind.i64.wrap (s + (1 : Int))) l m M Y t S w0 R)
 (jRedacted_c0 U gen d a f k O sz j V g e (IntKind.i64.wrap (s + (1 : Int))) l m h q t S w0 R))
 (∀ w : Nat,
 CallH TP 48 ⟨[IV (IntKind.i64.wrap (gen + (1 : Int)))]⟩ ((w, .cells #[.pointer none, .slice none 0 0] 103) :: (g, .cells (jRedactedA4 gen d a f k l sz j m) 86) :: (e, .map h q) :: t) S w0 (fun v L' => ∃ a0 a1, v = (.tuple #[.string a0, IV a1]) ∧ L' = ((w, .cells #[.pointer none, .slice none 0 0] 103) :: (g, .cells (jRedactedA4 gen d a f k l sz j m) 86) :: (e, .map h q) :: t) ∧
 CallH TP 47 ⟨[.string a0, IV a1]⟩ ((w, .cells #[.pointer none, .slice none 0 0] 103) :: (g, .cells (jRedactedA4 gen d a f k l sz j m) 86) :: (e, .map h q) :: t) S w0 (fun v L' => ∃ a2, v = .string a2 ∧ L' = ((w, .cells #[.pointer none, .slice none 0 0] 103) :: (g, .cells (jRedactedA4 gen d a f k l sz j m) 86) :: (e, .map h q) :: t) ∧
 CallH TP 109 ⟨[PP w, .string a2]⟩ ((w, .cells #[.pointer none, .slice none 0 0] 103) :: (g, .cells (jRedactedA4 gen d a f k l sz j m) 86) :: (e, .map h q) :: t) S w0 (fun v L' => ∃ Q a4, v = (.tuple #[IV a4, .nilIface]) ∧ L' = ((g, .cells (jRedactedA4 gen d a f k l sz j m) 86) :: (e, .map h q) :: Q) ∧
 jRedacted_c1 U gen d a f k O sz j V e g w none 0 0 (0 : Int) h q l m Q S w0 R))))) :
 jRedacted_c0 U gen d a f k O sz j V g e s l m h q t S w0 R:= by
 unfold jRedacted_c0
 refine .ru 5 (.sP 19 H (fun H => ?_) fun H => ?_)
 ·refine .ru 6 ?_
  obtain ⟨N, x, hp, H⟩ := H
  refine .indexAddrP (E := 38) (p := d) (b := N) (o := x) (len := a) (cap := f) (sz := 23) (o' := (x + ((Int.toNat s) * 23))) (kd := .i64) (i := s) hp (by kernel_rfl) H.1 (by omega) ?_
  replace H := H.2
  obtain ⟨X, u, F, D, C, A, z, y, a8, a3, H⟩ := H
  refine .loadT (b := N) (off := (x + ((Int.toNat s) * 23))) (T := 38) (v := .agg (jRedactedA2 u F D C A z y)) (by kernel_rfl) a8 (valAt_agg a3.1 a3.2 (by kernel_rfl) (by kernel_rfl)) (.nH (.cells jRedactedA5 38) H fun G H => (.front (.store 0 0 (T := 38) (v := .agg (jRedactedA2 u F D C A z y)) (by kernel_rfl) (.ru 4 (.ld 0 2 (.ru 2 (.sP 24 H (fun H => ?_) fun H => ?_)))))))
  ·refine .nm (KC Tryz.f67 7475) [(0, PP g), (4, .map (some e)), (6, PP G), (16, .slice d a f), (17, IV (a : Int)), (18, IV s), (24, .bool true)] ((G, .cells (jRedactedA2 u F D C A z y) 38) :: (g, .cells (jRedactedA4 gen d a f k l sz j m) 86) :: (e, .map h q) :: t) (.ru 4 (.ld 0 3 (.mapPut 2 (b := e) (c := q) (es := h) (kt := 3) (et := 4) (kd := .i64) (n := u.story) (v := .bool true) (by kernel_rfl) H.1 (fun M Y a6 a7 => ?_))))
   replace H := H.2 M Y a6 a7
   refine .nm (KR Tryz.f67 14950 []) [(0, PP g), (4, .map (some e)), (16, .slice d a f), (17, IV (a : Int)), (18, IV s)] ((G, .cells (jRedactedA2 u F D C A z y) 38) :: (g, .cells (jRedactedA4 gen d a f k l sz j m) 86) :: (e, .map M Y) :: t) (.ru 7 (.tT [1,2] 3 H))
  ·refine .nm (KC Tryz.f67 7475) [(0, PP g), (4, .map (some e)), (6, PP G), (16, .slice d a f), (17, IV (a : Int)), (18, IV s), (24, .bool false)] ((G, .cells (jRedactedA2 u F D C A z y) 38) :: (g, .cells (jRedactedA4 gen d a f k l sz j m) 86) :: (e, .map h q) :: t) (.ru 8 (.tT [1,2] 3 H))
 ·refine .ru 4 (.nH (.cells #[.pointer none, .slice none 0 0] 103) H fun w H => (.front (.ru 7 (.ld 1 0 (.ru 1 (.cl H ?_))))))
  rintro _ _ ⟨a0, a1, rfl, rfl, H⟩
  refine .ru 2 (.cl H ?_)
  rintro _ _ ⟨a2, rfl, rfl, H⟩
  refine .cl H ?_
  rintro _ _ ⟨Q, a4, rfl, rfl, H⟩
  refine .ru 12 (.ld 0 1 (.nm (KR Tryz.f67 508 [5,6]) [(4, .map (some e)), (7, PP w), (8, .slice none 0 0), (44, .slice d a f)] ((g, .cells (jRedactedA4 gen d a f k l sz j m) 86) :: (e, .map h q) :: Q) (.ru 5 (.tT [1,0] 2 H))))
theorem jRedacted_c1_vc (c2 : Nat) (gen : Int) (d : OA) (a f : Nat) (l : Int) (b6 : Nat) (sz k : Int) (c3 : Bool) (e j Z : Nat) (a1 : OA) (Y a0 : Nat) (X : Int) (g : Array MapEntry) (h m : Nat) (q : Bool) (a3 : SHeap)
 (H :
 Br (X < (a : Int))
 (∃ a6 a2 : Nat, d = some ⟨a6, a2, none⟩ ∧ (0 ≤ X ∧ X < a) ∧
 ∃ (b5 : List Value) (t : Fct) (C : OA) (A : Nat) (z : OA) (y : Nat) (w : OA) (u : Nat), (∃ d4 d0, (a6, Obj.cells ⟨b5⟩ d4 d0) ∈ ((e, .map g h) :: (j, .cells (jRedactedA3 gen d a f l m sz k q) 86) :: a3)) ∧ ((b5.drop (a2 + ((Int.toNat X) * 23))).take 23 = (t.cells C A z y w u) ∧ (a2 + ((Int.toNat X) * 23)) + 23 ≤ b5.length) ∧
 ∀ D : Nat,
 ∃ a7 : Bool, (intKeys .i64 (g : Array MapEntry).toList = true) ∧ ((entryI .i64 t.story (g : Array MapEntry).toList).getD (.bool false) = .bool a7) ∧
 Bb (a7)
 (CallH TP 81 ⟨[.agg (jRedactedA0 t C A z y w u)]⟩ ((D, .cells (jRedactedA0 t C A z y w u) 38) :: (e, .map g h) :: (j, .cells (jRedactedA3 gen d a f l m sz k q) 86) :: a3) S w0 (fun v L' => ∃ (F : Fct) (V : OA) (Q : Nat) (O : OA) (N : Nat) (M : OA) (G : Nat), ∃ b7, v = (.agg (jRedactedA1 F V Q O N M G)) ∧ L' = ((D, .cells (jRedactedA0 t C A z y w u) 38) :: (e, .map g h) :: (j, .cells (jRedactedA3 gen d a f l m sz k q) 86) :: b7) ∧
 ∀ a8 : Nat,
 AppN TP 23 22 22 (.slice a1 Y a0) (1) (F.cells V Q O N M G) ((a8, .cells (jRedactedA1 F V Q O N M G) 38) :: (D, .cells (jRedactedA1 F V Q O N M G) 38) :: (e, .map g h) :: (j, .cells (jRedactedA3 gen d a f l m sz k q) 86) :: b7) S w0 (fun v L' => ∃ (ap : OA) (b1 : Nat), ∃ a4, v = (.slice ap (Y + 1) b1) ∧ L' = ((D, .cells (jRedactedA1 F V Q O N M G) 38) :: (e, .map g h) :: (j, .cells (jRedactedA3 gen d a f l m sz k q) 86) :: a4) ∧
 CallH TP 54 ⟨[.agg (jRedactedA1 F V Q O N M G)]⟩ ((D, .cells (jRedactedA1 F V Q O N M G) 38) :: (e, .map g h) :: (j, .cells (jRedactedA3 gen d a f l m sz k q) 86) :: a4) S w0 (fun v L' => ∃ c5, v = .string c5 ∧ L' = ((D, .cells (jRedactedA1 F V Q O N M G) 38) :: (e, .map g h) :: (j, .cells (jRedactedA3 gen d a f l m sz k q) 86) :: a4) ∧
 CallH TP 109 ⟨[PP Z, .string c5]⟩ ((D, .cells (jRedactedA1 F V Q O N M G) 38) :: (e, .map g h) :: (j, .cells (jRedactedA3 gen d a f l m sz k q) 86) :: a4) S w0 (fun v L' => ∃ b9 c8, v = (.tuple #[IV c8, .nilIface]) ∧ L' = ((D, .cells (jRedactedA1 F V Q O N M G) 38) :: (e, .map g h) :: (j, .cells (jRedactedA3 gen d a f l m sz k q) 86) :: b9) ∧
 jRedacted_c1 c2 gen d a f l b6 sz k c3 e j Z ap (Y + 1) b1 (IntKind.i64.wrap (X + (1 : Int))) g h m q b9 S w0 R)))))
 (∀ a9 : Nat,
 AppN TP 23 22 22 (.slice a1 Y a0) (1) (t.cells C A z y w u) ((a9, .cells (jRedactedA0 t C A z y w u) 38) :: (D, .cells (jRedactedA0 t C A z y w u) 38) :: (e, .map g h) :: (j, .cells (jRedactedA3 gen d a f l m sz k q) 86) :: a3) S w0 (fun v L' => ∃ (b4 : OA) (b3 : Nat), ∃ a5, v = (.slice b4 (Y + 1) b3) ∧ L' = ((D, .cells (jRedactedA0 t C A z y w u) 38) :: (e, .map g h) :: (j, .cells (jRedactedA3 gen d a f l m sz k q) 86) :: a5) ∧
 CallH TP 54 ⟨[.agg (jRedactedA0 t C A z y w u)]⟩ ((D, .cells (jRedactedA0 t C A z y w u) 38) :: (e, .map g h) :: (j, .cells (jRedactedA3 gen d a f l m sz k q) 86) :: a5) S w0 (fun v L' => ∃ c4, v = .string c4 ∧ L' = ((D, .cells (jRedactedA0 t C A z y w u) 38) :: (e, .map g h) :: (j, .cells (jRedactedA3 gen d a f l m sz k q) 86) :: a5) ∧
 CallH TP 109 ⟨[PP Z, .string c4]⟩ ((D, .cells (jRedactedA0 t C A z y w u) 38) :: (e, .map g h) :: (j, .cells (jRedactedA3 gen d a f l m sz k q) 86) :: a5) S w0 (fun v L' => ∃ b0 c9, v = (.tuple #[IV c9, .nilIface]) ∧ L' = ((D, .cells (jRedactedA0 t C A z y w u) 38) :: (e, .map g h) :: (j, .cells (jRedactedA3 gen d a f l m sz k q) 86) :: b0) ∧
 jRedacted_c1 c2 gen d a f l b6 sz k c3 e j Z b4 (Y + 1) b3 (IntKind.i64.wrap (X + (1 : Int))) g h m q b0 S w0 R)))))
 (CallH TP 60 ⟨[PP Z]⟩ ((e, .map g h) :: (j, .cells (jRedactedA3 gen d a f l m sz k q) 86) :: a3) S w0 (fun v L' => ∃ c0 c6, v = .string c6 ∧ L' = ((e, .map g h) :: (j, .cells (jRedactedA3 gen d a f l m sz k q) 86) :: c0) ∧
 Fin R ((e, .map g h) :: (j, .cells (jRedactedA3 gen d a f l m sz k q) 86) :: c0) S w0 (.tuple #[.string c6, .slice a1 Y a0])))) :
 jRedacted_c1 c2 gen d a f l b6 sz k c3 e j Z a1 Y a0 X g h m q a3 S w0 R:= by
 unfold jRedacted_c1
 refine .ru 5 (.sP 47 H (fun H => ?_) fun H => ?_)
 ·refine .ru 6 ?_
  obtain ⟨a6, a2, hp, H⟩ := H
  refine .indexAddrP (E := 38) (p := d) (b := a6) (o := a2) (len := a) (cap := f) (sz := 23) (o' := (a2 + ((Int.toNat X) * 23))) (kd := .i64) (i := X) hp (by kernel_rfl) H.1 (by omega) ?_
  replace H := H.2
  obtain ⟨b5, t, C, A, z, y, w, u, d3, c7, H⟩ := H
  refine .loadT (b := a6) (off := (a2 + ((Int.toNat X) * 23))) (T := 38) (v := .agg (jRedactedA0 t C A z y w u)) (by kernel_rfl) d3 (valAt_agg c7.1 c7.2 (by kernel_rfl) (by kernel_rfl)) (.nH (.cells jRedactedA5 38) H fun D H => (.front (.store 0 0 (T := 38) (v := .agg (jRedactedA0 t C A z y w u)) (by kernel_rfl) (.ru 6 (.ld 0 3 ?_)))))
  obtain ⟨a7, d1, d2, H⟩ := H
  refine .mapGet 1 (b := e) (c := h) (es := g) (kt := 3) (et := 4) (kd := .i64) (n := t.story) (z := .bool false) (.bool a7) (by kernel_rfl) d1 d2 (.nm (KR Tryz.f67 260708 []) [(4, .map (some e)), (7, PP Z), (8, .slice a1 Y a0), (10, PP D), (44, .slice d a f), (45, IV (a : Int)), (46, IV X), (53, .bool a7)] ((D, .cells (jRedactedA0 t C A z y w u) 38) :: (e, .map g h) :: (j, .cells (jRedactedA3 gen d a f l m sz k q) 86) :: a3) (.ru 1 (.sB 53 H (fun H => ?_) fun H => ?_)))
  ·refine .ru 2 (.ld 0 0 (.cl H ?_))
   rintro _ _ ⟨F, V, Q, O, N, M, G, b7, rfl, rfl, H⟩
   refine .store 0 0 (T := 38) (v := .agg (jRedactedA1 F V Q O N M G)) (by kernel_rfl) (.ru 4 (.ld 0 0 (.nw (fun B => .slice (SO B) 1 1) (.cells (jRedactedA1 F V Q O N M G) 38) fun a8 => ?_)))
   replace H := H a8
   refine .front (.appendT (sz := 23) (T := 22) (U := 22) (s := .slice a1 Y a0) (x := .slice (SO a8) 1 1) (1) (F.cells V Q O N M G) (by kernel_rfl) (srcRow (E' := 38) (t := 38) (fz := (0, 0)) (c := (F.cells V Q O N M G)) (by simp) (by kernel_rfl) (by simp) (by simp [Value.oneCell'])) H ?_)
   rintro _ _ ⟨ap, b1, a4, rfl, rfl, H⟩
   refine .nm (KR Tryz.f67 260710 [4]) [(4, .map (some e)), (7, PP Z), (10, PP D), (44, .slice d a f), (45, IV (a : Int)), (46, IV X), (59, .slice ap (Y + 1) b1)] ((D, .cells (jRedactedA1 F V Q O N M G) 38) :: (e, .map g h) :: (j, .cells (jRedactedA3 gen d a f l m sz k q) 86) :: a4) (.ru 3 (.ld 0 0 (.cl H ?_)))
   rintro _ _ ⟨c5, rfl, rfl, H⟩
   refine .cl H ?_
   rintro _ _ ⟨b9, c8, rfl, rfl, H⟩
   refine .ru 7 (.tT [1,2] 3 H)
  ·refine .ru 5 (.ld 0 0 (.nw (fun B => .slice (SO B) 1 1) (.cells (jRedactedA0 t C A z y w u) 38) fun a9 => ?_))
   replace H := H a9
   refine .front (.appendT (sz := 23) (T := 22) (U := 22) (s := .slice a1 Y a0) (x := .slice (SO a9) 1 1) (1) (t.cells C A z y w u) (by kernel_rfl) (srcRow (E' := 38) (t := 38) (fz := (0, 0)) (c := (t.cells C A z y w u)) (by simp) (by kernel_rfl) (by simp) (by simp [Value.oneCell'])) H ?_)
   rintro _ _ ⟨b4, b3, a5, rfl, rfl, H⟩
   refine .ru 3 (.ld 0 0 (.cl H ?_))
   rintro _ _ ⟨c4, rfl, rfl, H⟩
   refine .cl H ?_
   rintro _ _ ⟨b0, c9, rfl, rfl, H⟩
   refine .nm (KR Tryz.f67 260711 []) [(4, .map (some e)), (7, PP Z), (8, .slice b4 (Y + 1) b3), (44, .slice d a f), (45, IV (a : Int)), (46, IV X)] ((D, .cells (jRedactedA0 t C A z y w u) 38) :: (e, .map g h) :: (j, .cells (jRedactedA3 gen d a f l m sz k q) 86) :: b0) (.ru 7 (.tT [1,2] 3 H))
 ·refine .ru 4 (.cl H ?_)
  rintro _ _ ⟨c0, c6, rfl, rfl, H⟩
  refine .ru 4 (.rt Tryz.func67 H)
theorem jRedacted_vc (a : Nat) (gen : Int) (i : OA) (h g : Nat) (f : Int) (b : Nat) (sz e : Int) (c : Bool) (d : SHeap) (hm : Mem ((a, .cells #[IV gen, .slice i h g, IV f, PP b, IV sz, IV e, .bool c] 86) :: d) S w0 W)
 (H :
 ∀ B : Nat,
 jRedacted_c0 a gen i h g f b sz e c a B (0 : Int) b c (#[]) 0 d S w0 R) :
 Calls TP 67 ⟨[PP a]⟩ W R:= by
 refine AtE.cs 66 Tryz.func67 hm (.ru 7 (.nw (fun B => .map (some B)) (.map #[] 0) fun B => ?_))
 replace H := H B
 refine .front (.ru 9 (.ld 1 1 (.ru 5 (.tT [1,0] 2 H))))
def takenB (l : List Fct) (q : Int) : Bool := l.any fun f => decide (f.kind = 6) && decide (f.story = q)
theorem takenB_snoc (l : List Fct) (f : Fct) (q : Int) : takenB (l ++ [f]) q = (takenB l q || (decide (f.kind = 6) && decide (f.story = q))) := by simp [takenB]
def redJ (l : List Fct) : List Fct := l.map fun f => if takenB l f.story = true then redF f else f
def redG (t l : List Fct) : List Fct := l.map fun f => if takenB t f.story = true then redF f else f
abbrev flat (fs : List Fct) : List UInt8 := fs.flatMap recL
abbrev cont (g : Int) (fs : List Fct) : List UInt8 := headL g ++ flat fs
theorem recL_len {f : Fct} (h : f.ok = true) : (recL f).length ≤ 60030 := by
 have M := encF_small h
 have O := encS_len (encF f)
 have V := frm_len (encS (encF f))
 rw [recL]; omega
theorem flat_len' : ∀ (fs : List Fct), (∀ f ∈ fs, f.ok = true) → (flat fs).length ≤ fs.length * 60030
 | [], _ => Nat.le_refl _
 | f :: r, h => by
  have O := recL_len (h f List.mem_cons_self)
  have V := flat_len' r fun x M => h x (List.mem_cons_of_mem _ M)
  simp only [flat, List.flatMap_cons, List.length_append, List.length_cons] at *
  omega
theorem headL_len (g : Int) : (headL g).length ≤ 21 := by
 have M := enc_len g
 have O := frm_len (Wire.enc g)
 rw [headL]; omega
theorem red_ok' {t : List Fct} {f : Fct} (h : f.ok = true) : (if takenB t f.story = true then redF f else f).ok = true := by
 split
 ·exact red_ok h
 ·exact h
theorem redG_ok {t l : List Fct} (h : ∀ f ∈ l, f.ok = true) : ∀ f ∈ redG t l, f.ok = true := by
 intro f M
 obtain ⟨x, O, rfl⟩ := List.mem_map.1 M
 exact red_ok' (h x O)
theorem FRow.join {fs : List Fct} {p : OA} {c : Nat} {N T : SHeap} (h : FRow (lkF T) fs p c N) : FRow noLk fs p c (N ++ T) := by
 obtain ⟨Z, M | ⟨Q, cs, a0, e, M, a1, a2⟩⟩ := h
 ·exact ⟨Z, .inl M⟩
 ·refine ⟨Z, .inr ⟨Q, cs, a0 ++ T, e, M.append_right T, a1, a2.mono ?_⟩⟩
  rintro b c (O | O)
  ·exact .inl (lkF_mono (fun x V => List.mem_append_left _ V) b c O)
  ·exact .inl (lkF_mono (fun x V => List.mem_append_right _ V) b c O)
section perms
variable (x y z u v : Nat × Obj) (A F T X Z N B : SHeap)
theorem pr1 : ([x] ++ (y :: z :: T)).Perm (x :: y :: z :: T) := List.Perm.refl _
theorem pr2 : (F ++ (y :: z :: T)).Perm (y :: z :: (F ++ T)) := perm_a
theorem pr3 (hp : F.Perm (B ++ (N ++ T))) : (u :: v :: y :: z :: (X ++ F)).Perm (X ++ (N ++ (u :: v :: y :: z :: (B ++ T)))) := perm_of fun c w M O V Z => by
 have := Z _ _ hp
 simp only [M, O, V] at this ⊢; omega
theorem pr4 : (N ++ (u :: v :: y :: z :: (B ++ T))).Perm (v :: y :: z :: (N ++ (u :: (B ++ T)))) := perm_a
theorem pr5 : (B ++ (v :: y :: z :: ((u :: N) ++ T))).Perm (v :: y :: z :: (N ++ (u :: (B ++ T)))) := perm_a
theorem pr6 : (B ++ (v :: y :: z :: ((u :: N) ++ T))).Perm (v :: y :: z :: (B ++ ((u :: N) ++ T))) := perm_a
theorem pr7 (hp : F.Perm (B ++ (N ++ T))) : (B ++ (y :: z :: (N ++ T))).Perm (y :: z :: F) := perm_of fun c w M O V Z => by
 have := Z _ _ hp
 simp only [M, O, V] at this ⊢; omega
end perms
def MapOk (es : Array MapEntry) (t : List Fct) : Prop := intKeys .i64 es.toList = true ∧ ∀ q, entryI .i64 q es.toList = if takenB t q = true then some (.bool true) else none
theorem MapOk.put {es M : Array MapEntry} {t : List Fct} {f : Fct} (h : MapOk es t) (Z : f.kind = 6) (O : intKeys .i64 M.toList = true) (V : ∀ q, entryI .i64 q M.toList = if q = f.story then some (.bool true) else entryI .i64 q es.toList) : MapOk M (t ++ [f]) := by
 refine ⟨O, fun q => ?_⟩
 rw [V, h.2, takenB_snoc, decide_eq_true Z, Bool.true_and]
 by_cases hq : q = f.story
 ·rw [if_pos hq, decide_eq_true hq.symm, Bool.or_true, if_pos rfl]
 ·rw [if_neg hq, decide_eq_false (fun e => hq e.symm), Bool.or_false]
theorem MapOk.keep {es : Array MapEntry} {t : List Fct} {f : Fct} (h : MapOk es t) (M : ¬ f.kind = 6) : MapOk es (t ++ [f]) := by
 refine ⟨h.1, fun q => ?_⟩
 rw [h.2, takenB_snoc, decide_eq_false M, Bool.false_and, Bool.or_false]
def RedK (JB D : Nat) (m : JM) (p : OA) (c : Nat) (v : Value) (L' : SHeap) : Prop :=
 ∃ p' c' T', v = .tuple #[.string (ba (cont (m.gen + 1) (redJ m.fs))), .slice p' m.fs.length c'] ∧ L'.Perm (jH JB D (m.js p c) :: T') ∧ FRow noLk (redJ m.fs) p' c' T' ∧ FRow noLk m.fs p c T'
theorem take_snoc {α : Type} {l : List α} {i : Nat} (h : i < l.length) : l.take i ++ [l[i]] = l.take (i + 1) := by rw [List.take_add_one, List.getElem?_eq_getElem h]; rfl
theorem red_loop {JB D a6 b1 : Nat} {m : JM} {p : OA} {c : Nat} {T : SHeap} (b4 : FRow noLk m.fs p c T) (hm : MOk m) (f2 : m.gen + 1 ≤ 4611686018427387903) {es : Array MapEntry} {a7 : Nat} (b6 : MapOk es m.fs) {S : List Nat} {w0 : World} (d2 : 0 ∉ S) (d4 : blkW w0 0 = some tabV) :
  ∀ (g i : Nat) (q : OA) (qc : Nat) (F a5 N : SHeap), g + i = m.fs.length → F.Perm (a5 ++ (N ++ T)) → BRep b1 (headL (m.gen + 1) ++ flat (redG m.fs (m.fs.take i))) a5 → FRow (lkF T) (redG m.fs (m.fs.take i)) q qc N →
   jRedacted_c1 JB m.gen p m.fs.length c (m.en : Int) D (m.sz : Int) (m.cu : Int) m.br a6 JB b1 q i qc (i : Int) es a7 D m.br F S w0 (fun e b3 => ∃ v L', e = .returned v ∧ Mem L' S w0 b3 ∧ RedK JB D m p c v L')
 | 0, i, q, qc, F, a5, N, hgi, hp, hB, hN => by
  apply jRedacted_c1_vc
  obtain rfl : i = m.fs.length := by omega
  rw [List.take_length] at hB hN
  have f3 := hm.len
  have f5 : (headL (m.gen + 1) ++ flat (redG m.fs m.fs)).length ≤ 100000000 := by
   have d0 := flat_len' (redG m.fs m.fs) (redG_ok hm.ok)
   have e8 := headL_len (m.gen + 1)
   have g2 : (redG m.fs m.fs).length = m.fs.length := List.length_map _
   rw [List.length_append]; omega
  refine no (by omega) (CallH.eff (L0 := a5) (L1 := (a6, .map es a7) :: jH JB D (m.js p c) :: (N ++ T)) (string_e hB (by omega)) (pr7 _ _ _ _ _ _ hp) ?_)
  rintro _ F' rfl
  refine ⟨_, pr2 _ _ _ _, _, _, rfl, rfl, dkFin ⟨q, qc, (a6, .map es a7) :: (F' ++ (N ++ T)), rfl, List.Perm.swap _ _ _, (hN.join.more F').more [_], ?_⟩⟩
  have := b4.more ((a6, .map es a7) :: (F' ++ N))
  rwa [List.cons_append, List.append_assoc] at this
 | g + 1, i, q, qc, F, a5, N, hgi, hp, hB, hN => by
  apply jRedacted_c1_vc
  have f3 := hm.len
  have hi : i < m.fs.length := by omega
  have b7 := hm.ok _ (List.getElem_mem hi)
  have f6 : IntKind.i64.wrap ((i : Int) + 1) = ((i + 1 : Nat) : Int) := by rw [wi64 (by omega)]; omega
  have c2 : (redG m.fs (m.fs.take i)).length = i := by rw [redG, List.length_map, List.length_take]; omega
  have b5 : redG m.fs (m.fs.take i) ++ [if takenB m.fs m.fs[i].story = true then redF m.fs[i] else m.fs[i]] = redG m.fs (m.fs.take (i + 1)) := by
   rw [← take_snoc hi, redG, redG, List.map_append]; rfl
  have f5 : (headL (m.gen + 1) ++ flat (redG m.fs (m.fs.take i))).length ≤ 100000000 := by
   have d0 := flat_len' (redG m.fs (m.fs.take i)) (redG_ok fun f a8 => hm.ok f (List.mem_of_mem_take a8))
   have e8 := headL_len (m.gen + 1)
   rw [c2] at d0
   rw [List.length_append]; omega
  obtain ⟨c1, ⟨_, _, f4⟩ | ⟨Q, cs, e6, rfl, c4, f7, d9⟩⟩ := b4
  ·rw [f4] at hi; exact absurd hi (by simp)
  have b4 : FRow noLk m.fs (SO Q) c T := ⟨c1, .inr ⟨Q, cs, e6, rfl, c4, f7, d9⟩⟩
  obtain ⟨g4, tp, tc, bp, bc, ap, ac, e, a8⟩ := d9 i hi
  have a8 : FAt (lkF T) m.fs[i] tp tc bp bc ap ac := a8.mono fun b c b0 => lkF_mono (fun x a3 => c4.mem_iff.2 (List.mem_cons_of_mem _ a3)) b c (lkU_no b c b0)
  have d8 : ∀ x ∈ T, x ∈ F := fun x a3 => hp.mem_iff.2 (List.mem_append_right _ (List.mem_append_right _ a3))
  refine yes (by omega) ⟨Q, 0, rfl, by omega, cs, m.fs[i], tp, tc, bp, bc, ap, ac, ⟨_, _, List.mem_cons_of_mem _ (List.mem_cons_of_mem _ (d8 _ (c4.mem_iff.2 List.mem_cons_self)))⟩, ⟨by rw [Nat.zero_add, Int.toNat_natCast]; exact e, by rw [Int.toNat_natCast]; omega⟩, fun B7 => ?_⟩
  have step : ∀ (M : Fct) (a2 a0 V : OA) (a1 Z O B8 : Nat) (p' : OA) (c' : Nat) (a4 : SHeap), M.ok = true → FAt (lkF (a4 ++ ((B8, .cells (jRedactedA0 M a2 a1 a0 Z V O) 38) :: (a5 ++ T)))) M a2 a1 a0 Z V O → redG m.fs (m.fs.take i) ++ [M] = redG m.fs (m.fs.take (i + 1)) → FRow (lkF T) (redG m.fs (m.fs.take i) ++ [M]) p' c' a4 →
    CallH TP 54 ⟨[.agg (jRedactedA0 M a2 a1 a0 Z V O)]⟩ ((B7, .cells (jRedactedA0 M a2 a1 a0 Z V O) 38) :: (a6, .map es a7) :: (JB, .cells (jRedactedA3 m.gen (SO Q) m.fs.length c (m.en : Int) D (m.sz : Int) (m.cu : Int) m.br) 86) :: (a4 ++ ((B8, .cells (jRedactedA0 M a2 a1 a0 Z V O) 38) :: (a5 ++ T)))) S w0
     (fun v L' => ∃ (e2 : BA), v = (.string e2) ∧ L' = ((B7, .cells (jRedactedA0 M a2 a1 a0 Z V O) 38) :: (a6, .map es a7) :: (JB, .cells (jRedactedA3 m.gen (SO Q) m.fs.length c (m.en : Int) D (m.sz : Int) (m.cu : Int) m.br) 86) :: (a4 ++ ((B8, .cells (jRedactedA0 M a2 a1 a0 Z V O) 38) :: (a5 ++ T)))) ∧
     CallH TP 109 ⟨[.pointer (SO b1), .string e2]⟩ ((B7, .cells (jRedactedA0 M a2 a1 a0 Z V O) 38) :: (a6, .map es a7) :: (JB, .cells (jRedactedA3 m.gen (SO Q) m.fs.length c (m.en : Int) D (m.sz : Int) (m.cu : Int) m.br) 86) :: (a4 ++ ((B8, .cells (jRedactedA0 M a2 a1 a0 Z V O) 38) :: (a5 ++ T)))) S w0 (fun v L' => ∃ (c5 : SHeap) (f8 : Int), v = (.tuple #[.int .i64 f8, .nilIface]) ∧ L' = ((B7, .cells (jRedactedA0 M a2 a1 a0 Z V O) 38) :: (a6, .map es a7) :: (JB, .cells (jRedactedA3 m.gen (SO Q) m.fs.length c (m.en : Int) D (m.sz : Int) (m.cu : Int) m.br) 86) :: c5) ∧
      jRedacted_c1 JB m.gen (SO Q) m.fs.length c (m.en : Int) D (m.sz : Int) (m.cu : Int) m.br a6 JB b1 p' (i + 1) c' (IntKind.i64.wrap ((i : Int) + (1 : Int))) es a7 D m.br c5 S w0 (fun e b3 => ∃ v L', e = .returned v ∧ Mem L' S w0 b3 ∧ RedK JB D m (SO Q) c v L'))) := by
   intro M a2 a0 V a1 Z O B8 p' c' a4 d6 e9 d7 a9
   refine CallH.pw (fun b3 d5 => record_c (blkW_kept d5.kept d2 d4) (e9.mono (lkF_W d5 fun x a3 => List.mem_cons_of_mem _ (List.mem_cons_of_mem _ (List.mem_cons_of_mem _ a3)))) d6) ⟨_, rfl, rfl, ?_⟩
   have g3 := recL_len d6
   refine CallH.eff (L0 := a5) (L1 := (B7, .cells (jRedactedA0 M a2 a1 a0 Z V O) 38) :: (a6, .map es a7) :: (JB, .cells (jRedactedA3 m.gen (SO Q) m.fs.length c (m.en : Int) D (m.sz : Int) (m.cu : Int) m.br) 86) :: (((B8, .cells (jRedactedA0 M a2 a1 a0 Z V O) 38) :: a4) ++ T)) (write_e hB (by rw [ba_size]; omega)) (pr5 _ _ _ _ _ _ _) ?_
   rintro _ e5 ⟨rfl, d1⟩
   refine ⟨_, pr6 _ _ _ _ _ _ _, _, _, rfl, rfl, ?_⟩
   rw [f6]
   refine red_loop b4 hm f2 b6 d2 d4 g (i + 1) p' c' _ e5 ((B8, .cells (jRedactedA0 M a2 a1 a0 Z V O) 38) :: a4) (by omega) (List.Perm.refl _) ?_ (d7 ▸ a9.more [_])
   rw [bts_mk] at d1
   rw [← d7, flat, List.flatMap_append, ← List.append_assoc, List.flatMap_singleton]
   exact d1
  refine ⟨takenB m.fs m.fs[i].story, b6.1, ?_, fun c3 => ?_, fun c3 => ?_⟩
  ·rw [b6.2]; cases takenB m.fs m.fs[i].story <;> rfl
  ·rw [c3, if_pos rfl] at b5
   refine CallH.new (lk := lkF T) [_, _, _] (redact_e a8 (ok_small b7)) (fun W hm => lkF_W hm fun x a3 => List.mem_cons_of_mem _ (List.mem_cons_of_mem _ (List.mem_cons_of_mem _ (d8 x a3)))) ?_
   rintro _ f9 ⟨e4, e3, c9, c8, c7, c6, rfl, d3⟩
   refine ⟨redF m.fs[i], e4, e3, c9, c8, c7, c6, _, rfl, rfl, fun B8 => ?_⟩
   refine (FRow.push (f := redF m.fs[i]) hN d3 c2 (by omega) (pr3 _ _ _ _ _ _ _ _ _ hp)).monoP ?_
   rintro _ e7 ⟨p', c', a4, rfl, b9, a9, _, hZ⟩
   refine ⟨_, b9.trans (pr4 _ _ _ _ _ _ _), p', c', _, rfl, rfl, step (redF m.fs[i]) e4 c9 c7 e3 c8 c6 B8 p' c' a4 (red_ok b7) (d3.mono ?_) b5 a9⟩
   rintro b c (b0 | b0)
   ·exact lkF_mono (fun x a3 => List.mem_append_left _ (hZ x a3)) b c b0
   ·exact lkF_mono (fun x a3 => by simp [a3]) b c b0
  ·rw [c3, if_neg (by decide)] at b5
   intro B8
   refine (FRow.push (X := []) (f := m.fs[i]) hN (a8.mono lkU_r) c2 (by omega) (pr3 _ _ _ _ _ _ _ _ _ hp)).monoP ?_
   rintro _ e7 ⟨p', c', a4, rfl, b9, a9, _, hZ⟩
   exact ⟨_, b9.trans (pr4 _ _ _ _ _ _ _), p', c', _, rfl, rfl, step m.fs[i] tp bp ap tc bc ac B8 p' c' a4 b7 (a8.mono (lkF_mono fun x a3 => by simp [a3])) b5 a9⟩
theorem map_loop {JB D a4 : Nat} {m : JM} {p : OA} {c : Nat} {T : SHeap} (M : FRow noLk m.fs p c T) (hm : MOk m) (a2 : m.gen + 1 ≤ 4611686018427387903) {S : List Nat} {w0 : World} (V : 0 ∉ S) (Z : blkW w0 0 = some tabV) :
  ∀ (g i : Nat) (es : Array MapEntry) (O : Nat), g + i = m.fs.length → MapOk es (m.fs.take i) →
   jRedacted_c0 JB m.gen p m.fs.length c (m.en : Int) D (m.sz : Int) (m.cu : Int) m.br JB a4 (i : Int) D m.br es O T S w0 (fun e b0 => ∃ v L', e = .returned v ∧ Mem L' S w0 b0 ∧ RedK JB D m p c v L')
 | 0, i, es, O, hgi, hes => by
  apply jRedacted_c0_vc
  obtain rfl : i = m.fs.length := by omega
  rw [List.take_length] at hes
  have c4 := hm.gen
  refine no (by omega) fun a0 => ?_
  rw [wi64 (by omega)]
  refine CallH.pure (PutInt_c _) ⟨encB (m.gen + 1), 0, if_pos (by unfold okInt maxInt; omega), rfl, ?_⟩
  have b9 := enc_len (m.gen + 1)
  refine CallH.pureG (framing_c (by rw [encB_size]; omega)) V Z ⟨_, rfl, rfl, ?_⟩
  rw [encB_bts]
  have c2 := headL_len (m.gen + 1)
  refine CallH.eff (L0 := [(a0, .cells #[.pointer none, .slice none 0 0] 103)]) (L1 := jH JB D (m.js p c) :: (a4, .map es O) :: T) (write_e (BRep.new a0) (by rw [ba_size]; show 0 + (headL (m.gen + 1)).length ≤ _; omega)) (pr1 _ _ _ _) ?_
  rintro _ a1 ⟨rfl, a5⟩
  refine ⟨_, pr2 _ _ _ _, a1 ++ T, _, rfl, rfl, ?_⟩
  refine red_loop M hm a2 hes V Z m.fs.length 0 none 0 _ a1 [] (by omega) (List.Perm.refl _) ?_ FRow.nil0
  rw [bts_mk, List.nil_append] at a5
  rw [List.take_zero]
  show BRep a0 (headL (m.gen + 1) ++ []) a1
  rw [List.append_nil]; exact a5
 | g + 1, i, es, O, hgi, hes => by
  apply jRedacted_c0_vc
  have c5 := hm.len
  have hi : i < m.fs.length := by omega
  have a6 : IntKind.i64.wrap ((i : Int) + 1) = ((i + 1 : Nat) : Int) := by rw [wi64 (by omega)]; omega
  obtain ⟨c1, ⟨_, _, b3⟩ | ⟨Q, cs, a9, rfl, a7, b4, a8⟩⟩ := M
  ·rw [b3] at hi; exact absurd hi (by simp)
  have M : FRow noLk m.fs (SO Q) c T := ⟨c1, .inr ⟨Q, cs, a9, rfl, a7, b4, a8⟩⟩
  obtain ⟨c6, tp, tc, bp, bc, ap, ac, e, c3⟩ := a8 i hi
  refine yes (by omega) ⟨Q, 0, rfl, by omega, cs, m.fs[i], tp, tc, bp, bc, ap, ac, ⟨_, _, List.mem_cons_of_mem _ (List.mem_cons_of_mem _ (a7.mem_iff.2 List.mem_cons_self))⟩, ⟨by rw [Nat.zero_add, Int.toNat_natCast]; exact e, by rw [Int.toNat_natCast]; omega⟩, fun B3 => ⟨fun a3 => ⟨hes.1, fun b1 b5 b6 b7 => ?_⟩, fun a3 => ?_⟩⟩
  ·rw [a6]
   exact map_loop M hm a2 V Z g (i + 1) b1 b5 (by omega) (by rw [← take_snoc hi]; exact hes.put a3 b6 b7)
  ·rw [a6]
   exact map_loop M hm a2 V Z g (i + 1) es O (by omega) (by rw [← take_snoc hi]; exact hes.keep a3)
theorem redacted_e {JB D : Nat} {m : JM} {p : OA} {c : Nat} {T : SHeap} (M : FRow noLk m.fs p c T) (hm : MOk m) (O : m.gen + 1 ≤ 4611686018427387903) :
  EffW TP 67 ⟨[pt JB 0]⟩ (jH JB D (m.js p c) :: T) (fun W => 0 ∉ (jH JB D (m.js p c) :: T).map (·.1) ∧ blkW W 0 = some tabV) (RedK JB D m p c) := by
 intro W V ⟨hS, hg⟩
 refine jRedacted_vc JB m.gen p m.fs.length c (m.en : Int) D (m.sz : Int) (m.cu : Int) m.br T V fun B => ?_
 exact map_loop M hm O hS hg m.fs.length 0 #[] 0 (by omega) ⟨rfl, fun q => rfl⟩
inductive Surv : List (Nat × BA) → List UInt8 → List UInt8 → Prop
 | nil (b : List UInt8) : Surv [] b b
 | cons {o : Nat} {s : BA} {r : List (Nat × BA)} {b b' : List UInt8} (t : Nat) (h : Surv r (ovr b o ((bts s).take t)) b') : Surv ((o, s) :: r) b b'
def appl : List (Nat × BA) → List UInt8 → List UInt8
 | [], b => b
 | (o, s) :: r, b => appl r (ovr b o (bts s))
theorem appl_snoc (o : Nat) (s : BA) : ∀ (p : List (Nat × BA)) (b : List UInt8), appl (p ++ [(o, s)]) b = ovr (appl p b) o (bts s)
 | [], b => rfl
 | (o', s') :: r, b => appl_snoc o s r _
def DOp.fits (n : Nat) : DOp → Prop
 | .sync => True
 | .write off s => 0 ≤ off ∧ off + s.size ≤ n
def Img : List DOp → List UInt8 → List (Nat × BA) → List UInt8 → Prop
 | [], b, p, x => Surv p b x
 | .sync :: r, b, p, x => Surv p b x ∨ Img r (appl p b) [] x
 | .write o s :: r, b, p, x => Surv p b x ∨ Img r b (p ++ [(o.toNat, s)]) x
theorem Img.now {b x : List UInt8} {p : List (Nat × BA)} (h : Surv p b x) : ∀ ops, Img ops b p x
 | [] => h
 | .sync :: _ => .inl h
 | .write _ _ :: _ => .inl h
def endOps : List DOp → List UInt8 → List (Nat × BA) → List UInt8 × List (Nat × BA)
 | [], b, p => (b, p)
 | .sync :: r, b, p => endOps r (appl p b) []
 | .write o s :: r, b, p => endOps r b (p ++ [(o.toNat, s)])
structure Coh (d : DS) : Prop where
 ok : DOk d
 vis : d.vis = appl d.pend d.dur
theorem spend_vis (d : DS) : d.spend.vis = d.vis ∧ d.spend.dur = d.dur ∧ d.spend.pend = d.pend := by
 unfold DS.spend
 split
 ·exact ⟨rfl, rfl, rfl⟩
 ·split <;> exact ⟨rfl, rfl, rfl⟩
structure RunOut (ops : List DOp) (d : DS) (r : Int × DS) : Prop where
 err : r.1 = 0 ∨ r.1 = 231
 coh : Coh r.2
 len : r.2.vis.length = d.vis.length
 img : ∀ x, Surv r.2.pend r.2.dur x → Img ops d.dur d.pend x
 fin : r.1 = 0 → (r.2.dur, r.2.pend) = endOps ops d.dur d.pend
 pow : d.on = true → d.cut = 0 → r.1 = 0 ∧ r.2.on = true ∧ r.2.cut = 0
theorem runOps_out : ∀ (ops : List DOp) (d : DS), Coh d → (∀ o ∈ ops, o.fits d.vis.length) → RunOut ops d (runOps ops d)
 | [], d, hd, _ => ⟨.inl rfl, hd, rfl, fun x h => h, fun _ => rfl, fun O M => ⟨rfl, O, M⟩⟩
 | .sync :: r, d, hd, hf => by
  cases ho : d.on with
  | false =>
   have e : runOps (.sync :: r) d = (231, d) := by
    rw [runOps]
    have e : (DOp.sync.run d) = (231, d) := if_pos ho
    rw [e]; rfl
   rw [e]
   exact ⟨.inr rfl, hd, rfl, fun x h => Img.now h _, fun h => absurd h (show ¬ (231 : Int) = 0 by decide), fun h => absurd (ho.symm.trans h) (by decide)⟩
  | true =>
   have e : runOps (.sync :: r) d = runOps r { d with dur := d.vis, pend := [] } := by
    rw [runOps]
    have e : (DOp.sync.run d) = (0, { d with dur := d.vis, pend := [] }) := if_neg (by rw [ho]; decide)
    rw [e]; rfl
   rw [e]
   have a6 : DOk { d with dur := d.vis, pend := [] } := ⟨rfl, hd.ok.pos, hd.ok.le, hd.ok.cut, fun p hp => by cases hp⟩
   have ih := runOps_out r { d with dur := d.vis, pend := [] } ⟨a6, rfl⟩ (fun o h => hf o (List.mem_cons_of_mem _ h))
   refine ⟨ih.err, ih.coh, ih.len, fun x h => .inr ?_, fun h => ?_, fun O M => ih.pow O M⟩
   ·have := ih.img x h
    simp only at this
    rwa [hd.vis] at this
   ·show _ = endOps r (appl d.pend d.dur) []
    rw [← hd.vis]
    exact ih.fin h
 | .write off s :: r, d, hd, hf => by
  have a1 := hf _ List.mem_cons_self
  simp only [DOp.fits] at a1
  cases ho : d.on with
  | false =>
   have e : runOps (.write off s :: r) d = (231, d) := by
    rw [runOps]
    have e : ((DOp.write off s).run d) = (231, d) := if_pos ho
    rw [e]; rfl
   rw [e]
   exact ⟨.inr rfl, hd, rfl, fun x h => Img.now h _, fun h => absurd h (show ¬ (231 : Int) = 0 by decide), fun h => absurd (ho.symm.trans h) (by decide)⟩
  | true =>
   have e : runOps (.write off s :: r) d = runOps r (d.put off.toNat s).spend := by
    rw [runOps]
    have e : ((DOp.write off s).run d) = (0, (d.put off.toNat s).spend) := (if_neg (by rw [ho]; decide)).trans (if_pos a1)
    rw [e]; rfl
   rw [e]
   have a0 : off.toNat + s.size ≤ d.vis.length := by omega
   have a7 : (ovr d.vis off.toNat (bts s)).length = d.vis.length := ovr_len a0
   obtain ⟨a3, V, Z⟩ := spend_vis (d.put off.toNat s)
   have a2 : (d.put off.toNat s).spend.vis.length = d.vis.length := by rw [a3]; exact a7
   have a5 : Coh (d.put off.toNat s).spend := ⟨DOk.spend (DOk.put hd.ok a0), by
    rw [a3, V, Z]
    show ovr d.vis off.toNat (bts s) = appl (d.pend ++ [(off.toNat, s)]) d.dur
    rw [appl_snoc, ← hd.vis]⟩
   have ih := runOps_out r (d.put off.toNat s).spend a5 (fun o h => by rw [a2]; exact hf o (List.mem_cons_of_mem _ h))
   refine ⟨ih.err, ih.coh, by rw [ih.len, a2], fun x h => .inr ?_, fun h => ?_, fun O M => ?_⟩
   ·have := ih.img x h
    rw [V, Z] at this
    exact this
   ·have := ih.fin h
    rw [V, Z] at this
    exact this
   ·have a4 : (d.put off.toNat s).spend = d.put off.toNat s := if_pos M
    rw [a4] at ih ⊢
    exact ih.pow O M
theorem runOps_append : ∀ (a b : List DOp) (d : DS), runOps (a ++ b) d = if (runOps a d).1 = 0 then runOps b (runOps a d).2 else runOps a d
 | [], b, d => rfl
 | o :: a, b, d => by
  rw [List.cons_append, runOps, runOps]
  by_cases h : (o.run d).1 = 0
  ·rw [if_pos h, if_pos h]; exact runOps_append a b _
  ·rw [if_neg h, if_neg h, if_neg h]
theorem runOps_on {a : List DOp} {d : DS} (h : (runOps (a ++ [.sync]) d).1 = 0) : (runOps (a ++ [.sync]) d).2.on = true := by
 rw [runOps_append] at h ⊢
 by_cases h0 : (runOps a d).1 = 0
 ·rw [if_pos h0] at h ⊢
  generalize (runOps a d).2 = d1 at h ⊢
  cases ho : d1.on with
  | false =>
   have e : runOps [.sync] d1 = (231, d1) := by
    rw [runOps]
    have e : (DOp.sync.run d1) = (231, d1) := if_pos ho
    rw [e]; rfl
   rw [e] at h
   exact absurd h (show ¬ (231 : Int) = 0 by decide)
  | true =>
   have e : runOps [.sync] d1 = (0, { d1 with dur := d1.vis, pend := [] }) := by
    rw [runOps]
    have e : (DOp.sync.run d1) = (0, { d1 with dur := d1.vis, pend := [] }) := if_neg (by rw [ho]; decide)
    rw [e]; rfl
   rw [e]; exact ho
 ·rw [if_neg h0] at h; exact absurd h h0
def lay (c : Nat) (X Y R : List UInt8) : List UInt8 := if c = 0 then X ++ Y ++ R else Y ++ X ++ R
theorem lay_len (c : Nat) (X Y R : List UInt8) : (lay c X Y R).length = X.length + Y.length + R.length := by
 unfold lay; split <;> simp <;> omega
theorem ovr_mid {A B C s : List UInt8} {o : Nat} (h : o + s.length ≤ B.length) : ovr (A ++ (B ++ C)) (A.length + o) s = A ++ (ovr B o s ++ C) := by
 unfold ovr
 have e1 : (A ++ (B ++ C)).take (A.length + o) = A ++ B.take o := by
  rw [List.take_append, List.take_of_length_le (by omega), show A.length + o - A.length = o by omega, List.take_append_of_le_length (by omega)]
 have M : (A ++ (B ++ C)).drop (A.length + o + s.length) = B.drop (o + s.length) ++ C := by
  rw [List.drop_append, List.drop_of_length_le (by omega), List.nil_append, show A.length + o + s.length - A.length = o + s.length by omega, List.drop_append_of_le_length (by omega)]
 rw [e1, M]; simp
theorem lay_cur {c sz o : Nat} {X Y R s : List UInt8} (O : c ≤ 1) (V : X.length = sz) (M : Y.length = sz) (h : o + s.length ≤ sz) : ovr (lay c X Y R) (c * sz + o) s = lay c (ovr X o s) Y R := by
 unfold lay
 split
 ·next h0 =>
  subst h0
  have := ovr_mid (A := []) (B := X) (C := Y ++ R) (s := s) (o := o) (by omega)
  simp only [List.nil_append, List.length_nil, Nat.zero_add] at this
  rw [Nat.zero_mul, Nat.zero_add, List.append_assoc, this, List.append_assoc]
 ·next h0 =>
  have : c = 1 := by omega
  subst this
  rw [Nat.one_mul, List.append_assoc, ← M, ovr_mid (by omega), List.append_assoc]
theorem lay_oth {c sz o : Nat} {X Y R s : List UInt8} (O : c ≤ 1) (M : X.length = sz) (V : Y.length = sz) (h : o + s.length ≤ sz) : ovr (lay c X Y R) ((1 - c) * sz + o) s = lay c X (ovr Y o s) R := by
 unfold lay
 split
 ·next h0 =>
  subst h0
  rw [Nat.sub_zero, Nat.one_mul, List.append_assoc, ← M, ovr_mid (by omega), List.append_assoc]
 ·next h0 =>
  have : c = 1 := by omega
  subst this
  have := ovr_mid (A := []) (B := Y) (C := X ++ R) (s := s) (o := o) (by omega)
  simp only [List.nil_append, List.length_nil, Nat.zero_add] at this
  rw [show (1 - 1) * sz + o = o by simp, List.append_assoc, this, List.append_assoc]
theorem lay_swap {c : Nat} {X Y R : List UInt8} (M : c ≤ 1) : lay c X Y R = lay (1 - c) Y X R := by
 unfold lay
 rcases (by omega : c = 0 ∨ c = 1) with rfl | rfl <;> simp
def Ends (t : List UInt8) : Prop := t = [] ∨ ∃ r, t = 0 :: r
def zs (n : Nat) : List UInt8 := List.replicate n 0
theorem zs_ends (n : Nat) : Ends (zs n) := by
 cases n with
 | zero => exact .inl rfl
 | succ n => exact .inr ⟨zs n, List.replicate_succ⟩
theorem zs_len (n : Nat) : (zs n).length = n := List.length_replicate
theorem zs_take (n t : Nat) : (zs n).take t = zs (min t n) := List.take_replicate
theorem zs_drop (n t : Nat) : (zs n).drop t = zs (n - t) := List.drop_replicate
theorem zs_append (a b : Nat) : zs a ++ zs b = zs (a + b) := List.replicate_append_replicate
theorem ovr_zero_ends {Y : List UInt8} {k : Nat} (h : k ≤ Y.length) (M : 0 < k) : Ends (ovr Y 0 (zs k)) := by
 obtain ⟨k, rfl⟩ : ∃ m, k = m + 1 := ⟨k - 1, by omega⟩
 refine .inr ⟨zs k ++ Y.drop (0 + (zs (k + 1)).length), ?_⟩
 unfold ovr
 rw [List.take_zero, List.nil_append]
 rfl
theorem ovr_zero_full {Y : List UInt8} {k : Nat} (h : Y.length = k) : ovr Y 0 (zs k) = zs k := by
 unfold ovr
 rw [List.take_zero, List.nil_append, Nat.zero_add, zs_len, List.drop_of_length_le (by omega), List.append_nil]
theorem ovr_rest {A t : List UInt8} {k : Nat} (h : k ≤ t.length) (M : Ends t) : ∃ t', ovr (A ++ t) A.length (zs k) = A ++ t' ∧ Ends t' ∧ t'.length = t.length := by
 have e : ovr (A ++ t) A.length (zs k) = A ++ ovr t 0 (zs k) := by
  have := ovr_mid (A := A) (B := t) (C := []) (s := zs k) (o := 0) (by rw [zs_len]; omega)
  simpa using this
 refine ⟨ovr t 0 (zs k), e, ?_, by rw [ovr_len (by rw [zs_len]; omega)]⟩
 rcases Nat.eq_zero_or_pos k with rfl | hk
 ·show Ends (ovr t 0 [])
  rw [ovr_nil]; exact M
 ·exact ovr_zero_ends h hk
abbrev yK5aa (a : Bool) (b x2 x3 x4 : Int) (x5 d e f : Nat) (g : OA) (c : SHeap) : SHeap := (x5, .cells #[IV b, .slice g d e, IV x2, PP f, IV x3, IV x4, .bool a] 86) :: c
theorem jCheck_vc (b : Nat) (gen : Int) (g : OA) (f e : Nat) (d : Int) (a : Nat) (sz c : Int) (h : Bool) (C : SHeap) (hm : Mem (yK5aa h gen d sz c b f e a g C) S w0 W) (H : VP S w0 R (.hp (yK5aa h gen d sz c b f e a g C) fun z => .ru [13,200,11,200] <| .B 1 21 h (.re 5 (IV 240) z) <| .ru [9,200] <| .P 2 27 (4611686018427387903 ≤ gen) (.re 5 (IV 241) z) <| .cl 5 67 [PP b] z <| .x5 fun i Q O rc u => .rt (.tuple #[.string i, .slice Q O rc]) (yK5aa h gen d sz c b f e a g u) <| .hp (yK5aa h gen d sz c b f e a g u) fun F => .ru [14,200] <| .P 2 39 (sz < (i.size : Int)) (.re 5 (IV 241) F) <| .ru [7,200] <| .li 2 5 (IntKind.i64.wrap (1 - c)) fun G => .r 2 <| .dr 10 <| .qu [2] <| .ex fun A => .qc 44 [PP b, IV G] F (IV A) <| .qu [3,100,3] <| .dn <| .r 2 <| .dD <| .nm [0,3,4,5,6,7] <| .ph 29 [0,1,2,3,4,5,7,8,9,10,11,13,14,15,16,17,18,19,21,22,23,24,27] [6,12,20,25,26,28] 1 <| .qu [5] <| .ss i 1 (i.size : Int) <| .qu [4] <| .ss i 0 1 <| .qu [6,100,3,100,1] <| .dn <| .cl 69 [PP b, IV (IntKind.i64.wrap (A + 1)), .string (i.extract (Int.toNat 1) i.size)] (yK5aa h gen d sz c b f e a g u) <| .x4 fun k n q D => .rt (.func (.func 110) #[] #[PP k, PP n, PP q]) (yK5aa h gen d sz c b f e a g D) <| .cl 69 [PP b, IV A, .string (i.extract 0 (Int.toNat 1))] (yK5aa h gen d sz c b f e a g D) <| .x4 fun l o s E => .rt (.func (.func 110) #[] #[PP l, PP o, PP s]) (yK5aa h gen d sz c b f e a g E) <| .hp (yK5aa h gen d sz c b f e a g E) fun j => .cl 44 [PP b, IV c] j <| .ex fun M => .rt (IV M) j <| .cl 70 [IV sz] j <| .ex fun N => .rt (.string N) j <| .cl 69 [PP b, IV M, .string N] j <| .x4 fun m p t w => .rt (.func (.func 110) #[] #[PP m, PP p, PP t]) (yK5aa h gen d sz c b f e a g w) <| .n2 6 (.cells #[.func (.func 110) #[] #[PP k, PP n, PP q], .func (.func 68) #[PP a] #[], .func (.func 110) #[] #[PP l, PP o, PP s], .func (.func 68) #[PP a] #[], .func (.func 110) #[] #[PP m, PP p, PP t], .func (.func 68) #[PP a] #[]] 53) fun B => .df B (.cells #[.func (.func 110) #[] #[PP k, PP n, PP q], .func (.func 68) #[PP a] #[], .func (.func 110) #[] #[PP l, PP o, PP s], .func (.func 68) #[PP a] #[], .func (.func 110) #[] #[PP m, PP p, PP t], .func (.func 68) #[PP a] #[]] 53) (yK5aa h gen d sz c b f e a g w) <| .tl <| .cl 0 50 [PP b, .slice (SO B) 6 6] ((B, .cells #[.func (.func 110) #[] #[PP k, PP n, PP q], .func (.func 68) #[PP a] #[], .func (.func 110) #[] #[PP l, PP o, PP s], .func (.func 68) #[PP a] #[], .func (.func 110) #[] #[PP m, PP p, PP t], .func (.func 68) #[PP a] #[]] 53) :: (b, .cells #[IV gen, .slice g f e, IV d, PP a, IV sz, IV c, .bool h] 86) :: w) <| .x3 fun x re y => .rt (IV re) (yK5aa y gen d sz c b f e a g x) <| .I 8 84 (re = 0) (.re 6 (IV re) (yK5aa y gen d sz c b f e a g x)) <| .ru [8,200,8,200,7,200] <| .re 5 (IV 0) ((b, .cells #[IV (IntKind.i64.wrap (gen + 1)), .slice Q O rc, IV (i.size : Int), PP a, IV sz, IV G, .bool y] 86) :: x))) : Calls TP 25 ⟨[PP b]⟩ W R := VC.cs Tryz.func25 hm _ H
def checkOps (m : JM) : List DOp :=
 [.write (((1 - m.cu) * m.sz : Nat) + 1 : Int) (cutTail (ba (cont (m.gen + 1) (redJ m.fs)))), .sync, .write (((1 - m.cu) * m.sz : Nat) : Int) (cutHead (ba (cont (m.gen + 1) (redJ m.fs)))), .sync, .write ((m.cu * m.sz : Nat) : Int) (ba (zs m.sz)), .sync]
def checkM (m : JM) (d : DS) : Int × JM × DS :=
 if m.br = true then (240, m, d) else if 4611686018427387903 ≤ m.gen then (241, m, d)
 else if m.sz < (cont (m.gen + 1) (redJ m.fs)).length then (241, m, d)
 else if (runOps (checkOps m) d).1 = 0 then (0, { gen := m.gen + 1, fs := redJ m.fs, en := (cont (m.gen + 1) (redJ m.fs)).length, sz := m.sz, cu := 1 - m.cu, br := m.br }, (runOps (checkOps m) d).2)
 else ((runOps (checkOps m) d).1, { m with br := true }, (runOps (checkOps m) d).2)
section perms
variable (x y z : Nat × Obj) (A F T X Z X1 X2 X3 L : SHeap)
theorem pc1 : ((x :: T) ++ F).Perm (x :: (F ++ T)) := perm_a
theorem pc2 (h : L.Perm (x :: T)) : (L ++ F).Perm (x :: (F ++ T)) := perm_of fun c w M O V Z => by
 have := Z _ _ h
 simp only [M, O, V] at this ⊢; omega
theorem pc3 : ((x :: X) ++ A).Perm (x :: (X ++ A)) := List.Perm.refl _
theorem pc4 : ((x :: (F ++ (z :: (X3 ++ (X2 ++ X1))))) ++ T).Perm (z :: x :: (X3 ++ (X2 ++ (X1 ++ (F ++ T))))) := perm_a
theorem pc5 : ((x :: (F ++ X)) ++ T).Perm (x :: (F ++ (X ++ T))) := perm_a
end perms
theorem redJ_len (l : List Fct) : (redJ l).length = l.length := List.length_map _
theorem check_e {JB D : Nat} {m : JM} {d : DS} {L : SHeap} (h : JD JB D m d L) (hm : MOk m) (hp : d.pend.length < 900000) :
  EffW TP 25 ⟨[pt JB 0]⟩ L (APre noLk (L.map (·.1))) (fun v L' => v = .int .i64 (checkM m d).1 ∧ JD JB D (checkM m d).2.1 (checkM m d).2.2 L') := by
 obtain ⟨F, p, c, T, d1, a8, b3⟩ := h
 intro W d4 ⟨⟨hS, hg⟩, _⟩
 generalize L.map (·.1) = S at *
 have d5 := d4.perm d1.symm
 have e5 := hm.en; have d8 := hm.sz; have d3 := hm.cu; have e7 := hm.len; have e6 := hm.gen
 refine jCheck_vc JB m.gen p m.fs.length c (m.en : Int) D (m.sz : Int) (m.cu : Int) m.br (F ++ T) d5 ⟨fun a7 => ?_, fun a7 => ⟨fun b6 => ?_, fun b6 => ?_⟩⟩
 ·rw [checkM, if_pos a7]; exact dkFin ⟨rfl, F, p, c, T, List.Perm.refl _, a8, b3⟩
 ·rw [checkM, if_neg (by rw [a7]; decide), if_pos b6]; exact dkFin ⟨rfl, F, p, c, T, List.Perm.refl _, a8, b3⟩
 ·have a6 : checkM m d = if m.sz < (cont (m.gen + 1) (redJ m.fs)).length then (241, m, d)
   else if (runOps (checkOps m) d).1 = 0 then (0, { gen := m.gen + 1, fs := redJ m.fs, en := (cont (m.gen + 1) (redJ m.fs)).length, sz := m.sz, cu := 1 - m.cu, br := m.br }, (runOps (checkOps m) d).2)
   else ((runOps (checkOps m) d).1, { m with br := true }, (runOps (checkOps m) d).2) := by
    rw [checkM, if_neg (by rw [a7]; decide), if_neg b6]
  refine CallH.effW (L0 := jH JB D (m.js p c) :: T) (L1 := F) (redacted_e b3 hm (by omega)) (fun a1 M => ⟨fun d0 => ?_, blkW_kept M.kept hS hg⟩) (pc1 _ _ _) ?_
  ·have e8 : 0 < W.heap.size := by
    have := hg
    unfold blkW at this
    rcases Nat.lt_or_ge 0 W.heap.size with h | h
    ·exact h
    ·rw [Array.getElem?_eq_none h] at this; cases this
   obtain ⟨q, b9, c6⟩ := List.mem_map.1 d0
   rcases M.own q (by rcases List.mem_cons.1 b9 with rfl | b9; exact List.mem_cons_self; exact List.mem_cons_of_mem _ (List.mem_append_right _ b9)) with h | h
   ·rw [c6] at h; try dsimp only at h
    omega
   ·rw [c6] at h; exact hS h
  rintro _ e2 ⟨p', c', a0, rfl, d6, d7, c2⟩
  refine ⟨_, pc2 _ _ _ _ d6, ba (cont (m.gen + 1) (redJ m.fs)), p', m.fs.length, c', _, rfl, rfl, fun b5 => ?_, fun b5 => ?_⟩
  ·rw [ba_size] at b5
   rw [a6, if_pos (by omega)]; exact dkFin ⟨rfl, F, p, c, a0, List.Perm.refl _, a8, c2⟩
  ·rw [ba_size] at b5
   have e3 : 1 ≤ (cont (m.gen + 1) (redJ m.fs)).length := by
    show 1 ≤ (frm _ ++ _).length
    rw [frm]; simp
   have e4 : m.cu = 0 ∨ m.cu = 1 := by omega
   intro d9 b7
   have b7 : d9 = ((1 - m.cu : Nat) : Int) := by
    rw [b7, wi64 (by omega)]; omega
   subst b7
   have e9 : (1 - m.cu) * m.sz ≤ 1 * 2097152 := Nat.mul_le_mul (by omega) d8
   have c7 : ∀ {A : SHeap} {a1 : World}, Mem (jH JB D (m.js p c) :: A) S W a1 → a1.heap[JB]? = some (jH JB D (m.js p c)).2 := fun M => M.here _ List.mem_cons_self
   refine ⟨(((1 - m.cu) * m.sz : Nat) : Int), QCall.pw fun a1 M => start_pw (m := m) (c7 M) (by omega) (by omega), by rw [ba_size]; omega, by rw [ba_size]; omega, ?_⟩
   have c9 : IntKind.i64.wrap ((((1 - m.cu) * m.sz : Nat) : Int) + 1) = (((1 - m.cu) * m.sz : Nat) : Int) + 1 := wi64 (by omega)
   rw [c9]
   refine CallH.eff (L0 := [jH JB D (m.js p c)]) (L1 := F ++ a0) (jwrite_e (j := m.js p c) (D := D)) (List.Perm.refl _) ?_
   rintro _ _ ⟨O, V, Z, rfl, rfl⟩
   refine ⟨_, pc3 _ _ _, O, V, Z, _, rfl, rfl, ?_⟩
   refine CallH.eff (L0 := [jH JB D (m.js p c)]) (L1 := jcloX JB O V Z _ _ ++ (F ++ a0)) (jwrite_e (j := m.js p c) (D := D)) (List.Perm.refl _) ?_
   rintro _ _ ⟨a3, a4, a5, rfl, rfl⟩
   refine ⟨_, pc3 _ _ _, a3, a4, a5, _, rfl, rfl, ?_⟩
   refine CallH.pw (fun a1 M => start_pw (m := m) (c7 M) d3 (by omega)) ⟨_, rfl, rfl, ?_⟩
   refine CallH.pure (zeros_c m.sz (by omega)) ⟨_, rfl, rfl, ?_⟩
   refine CallH.eff (L0 := [jH JB D (m.js p c)]) (L1 := jcloX JB a3 a4 a5 _ _ ++ (jcloX JB O V Z _ _ ++ (F ++ a0))) (jwrite_e (j := m.js p c) (D := D)) (List.Perm.refl _) ?_
   rintro _ _ ⟨a9, b0, b1, rfl, rfl⟩
   refine ⟨_, pc3 _ _ _, a9, b0, b1, _, rfl, rfl, fun B => ?_⟩
   refine CallH.eff (L0 := jH JB D (m.js p c) :: (F ++ ((B, .cells #[jcloV O V Z, .func (.func 68) ⟨[pt D 0]⟩ ⟨[]⟩, jcloV a3 a4 a5, .func (.func 68) ⟨[pt D 0]⟩ ⟨[]⟩, jcloV a9 b0 b1, .func (.func 68) ⟨[pt D 0]⟩ ⟨[]⟩] 53) :: (jcloX JB a9 b0 b1 _ _ ++ (jcloX JB a3 a4 a5 _ _ ++ jcloX JB O V Z _ _))))) (L1 := a0)
    (run_e (ops := checkOps m) (sc := 6) (j := m.js p c) (vs := [jcloV O V Z, .func (.func 68) ⟨[pt D 0]⟩ ⟨[]⟩, jcloV a3 a4 a5, .func (.func 68) ⟨[pt D 0]⟩ ⟨[]⟩, jcloV a9 b0 b1, .func (.func 68) ⟨[pt D 0]⟩ ⟨[]⟩]) List.mem_cons_self (Nat.le_refl 6) ?_ (by show 6 ≤ 1000; omega) a8 hp) (pc4 _ _ _ _ _ _ _) ?_
   ·intro i hi
    match i, hi with
    | 0, _ => exact jclo_at fun x a2 => List.mem_cons_of_mem _ (List.mem_append_right _ (List.mem_append_right _ a2))
    | 1, _ => exact rfl
    | 2, _ => exact jclo_at fun x a2 => List.mem_cons_of_mem _ (List.mem_append_right _ (List.mem_append_left _ a2))
    | 3, _ => exact rfl
    | 4, _ => exact jclo_at fun x a2 => List.mem_cons_of_mem _ (List.mem_append_left _ a2)
    | 5, _ => exact rfl
   ·rintro _ _ ⟨F', rfl, rfl, c3⟩
    rw [if_neg (by omega)] at a6
    generalize runOps (checkOps m) d = r at *
    have d2 : jH JB D ((m.js p c).after r.1) = (JB, .cells #[.int .i64 m.gen, .slice p m.fs.length c, .int .i64 m.en, .pointer (SO D), .int .i64 m.sz, .int .i64 m.cu, .bool ((m.js p c).after r.1).br] 86) := by
     unfold JS.after; split <;> rfl
    rw [d2]
    refine ⟨_, pc5 _ _ _ _, _, r.1, ((m.js p c).after r.1).br, rfl, rfl, fun c5 => ?_, fun c4 => ?_⟩
    ·rw [a6, if_neg c5]
     have b4 : ((m.js p c).after r.1).br = true := by rw [JS.after, if_neg c5]
     rw [b4]
     exact dkFin ⟨rfl, F', p, c, _, List.Perm.refl _, c3, c2.more _⟩
    ·rw [a6, if_pos c4]
     have b4 : ((m.js p c).after r.1).br = m.br := by rw [JS.after, if_pos c4]
     have c8 : IntKind.i64.wrap (m.gen + 1) = m.gen + 1 := wi64 (by omega)
     rw [b4, c8, ba_size]
     exact dkFin ⟨rfl, F', p', c', _, by rw [JM.js, redJ_len], c3, d7.more _⟩
abbrev zK6aa (a : Bool) (b x2 x3 : Int) (x4 x5 c : Nat) (d : OA) : Array Value := #[IV b, .slice d x4 x5, IV x2, PP c, IV x3, IV 0, .bool a]
abbrev zK6ab (a : Bool) (b x2 x3 : Int) (x4 x5 c : Nat) (d : OA) : Array Value := #[IV b, .slice d x4 x5, IV x2, PP c, IV x3, IV 1, .bool a]
abbrev yK6aa (a b : BA) (x2 : Bool) (x3 x4 x5 : Int) (g h i j c d : Nat) (e : OA) (f : SHeap) : SHeap := (g, .cells (zK6aa x2 x3 x4 x5 h i j e) 86) :: (c, .cells #[.string a, .string b] 87) :: (d, .cells #[IV x4, IV 0] 139) :: f
abbrev yK6ab (a b : BA) (x2 : Bool) (x3 x4 x5 : Int) (g h i j c d : Nat) (e : OA) (f : SHeap) : SHeap := (g, .cells (zK6ab x2 x3 x4 x5 h i j e) 86) :: (c, .cells #[.string a, .string b] 87) :: (d, .cells #[IV 0, IV x4] 139) :: f
noncomputable def jClean0_c0 (u : Nat) (gen : Int) (h : OA) (g f : Nat) (e : Int) (t : Nat) (sz : Int) (w : Bool) (a b c : Nat) (p : OA) (o n : Nat) (m : BA) (q s : Int) (k : Nat) (l : Bool) (i j : BA) (d : SHeap) (S : List Nat) : Cut := ⟨TP, S, 46, 88, (KC Tryz.f46 3664284), [(0, PP a), (3, PP b), (5, PP c), (7, .slice p o n), (9, IV 0), (10, .string m), (39, .agg #[IV 0, IV 1]), (40, IV 0), (51, IV q), (52, IV s)], (yK6aa i j l gen e sz a g f k b c h d)⟩
noncomputable def jClean0_c1 (u : Nat) (gen : Int) (h : OA) (g f : Nat) (e : Int) (t : Nat) (sz : Int) (w : Bool) (a b c : Nat) (p : OA) (o n : Nat) (m : BA) (q s : Int) (k : Nat) (l : Bool) (i j : BA) (d : SHeap) (S : List Nat) : Cut := ⟨TP, S, 46, 88, (KC Tryz.f46 3664284), [(0, PP a), (3, PP b), (5, PP c), (7, .slice p o n), (9, IV 1), (10, .string m), (39, .agg #[IV 1, IV 0]), (40, IV 0), (51, IV q), (52, IV s)], (yK6aa i j l gen e sz a g f k b c h d)⟩
noncomputable def jClean0_c2 (u : Nat) (gen : Int) (h : OA) (g f : Nat) (e : Int) (t : Nat) (sz : Int) (w : Bool) (a b c : Nat) (p : OA) (o n : Nat) (m : BA) (q s : Int) (k : Nat) (l : Bool) (i j : BA) (d : SHeap) (S : List Nat) : Cut := ⟨TP, S, 46, 88, (KC Tryz.f46 3664284), [(0, PP a), (3, PP b), (5, PP c), (7, .slice p o n), (9, IV 1), (10, .string m), (39, .agg #[IV 0, IV 1]), (40, IV 1), (51, IV q), (52, IV s)], (yK6aa i j l gen e sz a g f k b c h d)⟩
noncomputable def jClean0_c3 (u : Nat) (gen : Int) (h : OA) (g f : Nat) (e : Int) (t : Nat) (sz : Int) (w : Bool) (a b c : Nat) (p : OA) (o n : Nat) (m : BA) (q s : Int) (k : Nat) (l : Bool) (i j : BA) (d : SHeap) (S : List Nat) : Cut := ⟨TP, S, 46, 88, (KC Tryz.f46 3664284), [(0, PP a), (3, PP b), (5, PP c), (7, .slice p o n), (9, IV 0), (10, .string m), (39, .agg #[IV 1, IV 0]), (40, IV 1), (51, IV q), (52, IV s)], (yK6aa i j l gen e sz a g f k b c h d)⟩
theorem jClean0_c0_vc (u : Nat) (gen : Int) (h : OA) (g f : Nat) (b : Int) (s : Nat) (sz : Int) (w : Bool) (c d e : Nat) (y : OA) (l x : Nat) (p : BA) (C q : Int) (j : Nat) (k : Bool) (i a : BA) (t : SHeap) (H : VP S w0 R (.P 5 53 (q < C) (.r 13 <| .ix p q <| .I 2 58 ((bat p q) = 0) (.r 2 <| .dD <| .nm [0,3,5,7,9,10,39,40] <| .ph 14 [0,1,2,3,4,5,6,7,8,9,10,11] [12,13] 3 <| .hp [(c, .cells (zK6aa k gen b sz g f j h) 86), (d, .cells #[.string i, .string a] 87), (e, .cells #[IV b, IV 0] 139)] fun E => .qu [4] <| .ex fun F => .qc 44 [PP c, IV 0] E (IV F) <| .qu [2,102,3] <| .ex fun G => .qc 70 [IV (p.size : Int)] E (.string G) <| .dn <| .cl 69 [PP c, IV (IntKind.i64.wrap (F + b)), .string G] (yK6aa i a k gen b sz c g f j d e h t) <| .x4 fun m n o A => .rt (.func (.func 110) #[] #[PP m, PP n, PP o]) (yK6aa i a k gen b sz c g f j d e h A) <| .n2 1 (.cells #[.func (.func 110) #[] #[PP m, PP n, PP o]] 53) fun z => .df z (.cells #[.func (.func 110) #[] #[PP m, PP n, PP o]] 53) (yK6aa i a k gen b sz c g f j d e h A) <| .tl <| .ap 0 z 53 53 1 92 92 (.slice y l x) 1 1 [.func (.func 110) #[] #[PP m, PP n, PP o]] ((z, .cells #[.func (.func 110) #[] #[PP m, PP n, PP o]] 53) :: (c, .cells (zK6aa k gen b sz g f j h) 86) :: (d, .cells #[.string i, .string a] 87) :: (e, .cells #[IV b, IV 0] 139) :: A) <| .x3 fun ap (D : Nat) F4 => .rt (.slice ap (l + 1) D) (yK6aa i a k gen b sz c g f j d e h F4) <| .r 23 <| .dr 8 <| .qu [2,101,2,102] <| .ss a 0 (a.size : Int) <| .qu [1] <| .zls 10 (a.extract (Int.toNat 0) a.size) fun M => .dn <| .cT 9 [0,1,2] 3 (jClean0_c2 u gen h g f b s sz w c d e ap (l + 1) D M (M.size : Int) 0 j k i a F4 S)) <| .cT 8 [0,1,2] 3 (jClean0_c0 u gen h g f b s sz w c d e y l x p C (IntKind.i64.wrap (q + 1)) j k i a t S)) <| .r 23 <| .dr 8 <| .qu [2,101,2,102] <| .ss a 0 (a.size : Int) <| .qu [1] <| .zls 10 (a.extract (Int.toNat 0) a.size) fun N => .dn <| .cT 9 [0,1,2] 3 (jClean0_c2 u gen h g f b s sz w c d e y l x N (N.size : Int) 0 j k i a t S))) : jClean0_c0 u gen h g f b s sz w c d e y l x p C q j k i a t S w0 R := VC.go Tryz.func46 _ H
theorem jClean0_c1_vc (u : Nat) (gen : Int) (h : OA) (g f : Nat) (b : Int) (s : Nat) (sz : Int) (w : Bool) (c d e : Nat) (y : OA) (l x : Nat) (p : BA) (C q : Int) (j : Nat) (k : Bool) (a i : BA) (t : SHeap) (H : VP S w0 R (.P 5 53 (q < C) (.r 13 <| .ix p q <| .I 2 58 ((bat p q) = 0) (.r 2 <| .dD <| .nm [0,3,5,7,9,10,39,40] <| .ph 14 [0,1,2,3,4,5,6,7,8,9,10,11] [12,13] 3 <| .hp [(c, .cells (zK6aa k gen b sz g f j h) 86), (d, .cells #[.string a, .string i] 87), (e, .cells #[IV b, IV 0] 139)] fun E => .qu [4] <| .ex fun F => .qc 44 [PP c, IV 1] E (IV F) <| .qu [2,102,3] <| .ex fun G => .qc 70 [IV (p.size : Int)] E (.string G) <| .dn <| .cl 69 [PP c, IV (IntKind.i64.wrap (F + 0)), .string G] (yK6aa a i k gen b sz c g f j d e h t) <| .x4 fun m n o A => .rt (.func (.func 110) #[] #[PP m, PP n, PP o]) (yK6aa a i k gen b sz c g f j d e h A) <| .n2 1 (.cells #[.func (.func 110) #[] #[PP m, PP n, PP o]] 53) fun z => .df z (.cells #[.func (.func 110) #[] #[PP m, PP n, PP o]] 53) (yK6aa a i k gen b sz c g f j d e h A) <| .tl <| .ap 0 z 53 53 1 92 92 (.slice y l x) 1 1 [.func (.func 110) #[] #[PP m, PP n, PP o]] ((z, .cells #[.func (.func 110) #[] #[PP m, PP n, PP o]] 53) :: (c, .cells (zK6aa k gen b sz g f j h) 86) :: (d, .cells #[.string a, .string i] 87) :: (e, .cells #[IV b, IV 0] 139) :: A) <| .x3 fun ap1 (D : Nat) F7 => .rt (.slice ap1 (l + 1) D) (yK6aa a i k gen b sz c g f j d e h F7) <| .r 23 <| .dr 8 <| .qu [2,101,2,102] <| .ss a b (a.size : Int) <| .qu [1] <| .zls 10 (a.extract (Int.toNat b) a.size) fun M => .dn <| .cT 9 [0,1,2] 3 (jClean0_c3 u gen h g f b s sz w c d e ap1 (l + 1) D M (M.size : Int) 0 j k a i F7 S)) <| .cT 8 [0,1,2] 3 (jClean0_c1 u gen h g f b s sz w c d e y l x p C (IntKind.i64.wrap (q + 1)) j k a i t S)) <| .r 23 <| .dr 8 <| .qu [2,101,2,102] <| .ss a b (a.size : Int) <| .qu [1] <| .zls 10 (a.extract (Int.toNat b) a.size) fun N => .dn <| .cT 9 [0,1,2] 3 (jClean0_c3 u gen h g f b s sz w c d e y l x N (N.size : Int) 0 j k a i t S))) : jClean0_c1 u gen h g f b s sz w c d e y l x p C q j k a i t S w0 R := VC.go Tryz.func46 _ H
theorem jClean0_c2_vc (E : Nat) (gen : Int) (h : OA) (g f : Nat) (b : Int) (D : Nat) (sz : Int) (M : Bool) (c d e : Nat) (t : OA) (l s : Nat) (q : BA) (z u : Int) (a : Nat) (k : Bool) (i j : BA) (m : SHeap) (H : VP S w0 R (.P 5 53 (u < z) (.r 13 <| .ix q u <| .I 2 58 ((bat q u) = 0) (.r 2 <| .dD <| .nm [0,3,5,7,9,10,39,40] <| .ph 14 [0,1,2,3,4,5,6,7,8,9,10,11] [12,13] 3 <| .hp [(c, .cells (zK6aa k gen b sz g f a h) 86), (d, .cells #[.string i, .string j] 87), (e, .cells #[IV b, IV 0] 139)] fun N => .qu [4] <| .ex fun O => .qc 44 [PP c, IV 1] N (IV O) <| .qu [2,102,3] <| .ex fun Q => .qc 70 [IV (q.size : Int)] N (.string Q) <| .dn <| .cl 69 [PP c, IV (IntKind.i64.wrap (O + 0)), .string Q] (yK6aa i j k gen b sz c g f a d e h m) <| .x4 fun n o p x => .rt (.func (.func 110) #[] #[PP n, PP o, PP p]) (yK6aa i j k gen b sz c g f a d e h x) <| .n2 1 (.cells #[.func (.func 110) #[] #[PP n, PP o, PP p]] 53) fun w => .df w (.cells #[.func (.func 110) #[] #[PP n, PP o, PP p]] 53) (yK6aa i j k gen b sz c g f a d e h x) <| .tl <| .ap 0 w 53 53 1 92 92 (.slice t l s) 1 1 [.func (.func 110) #[] #[PP n, PP o, PP p]] ((w, .cells #[.func (.func 110) #[] #[PP n, PP o, PP p]] 53) :: (c, .cells (zK6aa k gen b sz g f a h) 86) :: (d, .cells #[.string i, .string j] 87) :: (e, .cells #[IV b, IV 0] 139) :: x) <| .x3 fun ap2 (y : Nat) F10 => .rt (.slice ap2 (l + 1) y) (yK6aa i j k gen b sz c g f a d e h F10) <| .P 22 78 (0 < ((l + 1) : Int)) (.ru [6,200] <| .r 1 <| .ns true 1 (.cells #[.func (.func 68) #[PP a] #[]] 53) fun A => .ap 0 A 53 53 1 92 92 (.slice ap2 (l + 1) y) 1 1 [.func (.func 68) #[PP a] #[]] ((A, .cells #[.func (.func 68) #[PP a] #[]] 53) :: (c, .cells (zK6aa k gen b sz g f a h) 86) :: (d, .cells #[.string i, .string j] 87) :: (e, .cells #[IV b, IV 0] 139) :: F10) <| .x3 fun ap3 (F : Nat) F11 => .rt (.slice ap3 ((l + 1) + 1) F) (yK6aa i j k gen b sz c g f a d e h F11) <| .re 7 (.slice ap3 ((l + 1) + 1) F) (yK6aa i j k gen b sz c g f a d e h F11)) <| .re 7 (.slice ap2 (l + 1) y) (yK6aa i j k gen b sz c g f a d e h F10)) <| .cT 8 [0,1,2] 3 (jClean0_c2 E gen h g f b D sz M c d e t l s q z (IntKind.i64.wrap (u + 1)) a k i j m S)) <| .P 22 78 (0 < (l : Int)) (.ru [6,200] <| .r 1 <| .ns true 1 (.cells #[.func (.func 68) #[PP a] #[]] 53) fun C => .ap 0 C 53 53 1 92 92 (.slice t l s) 1 1 [.func (.func 68) #[PP a] #[]] ((C, .cells #[.func (.func 68) #[PP a] #[]] 53) :: (c, .cells (zK6aa k gen b sz g f a h) 86) :: (d, .cells #[.string i, .string j] 87) :: (e, .cells #[IV b, IV 0] 139) :: m) <| .x3 fun ap4 (G : Nat) F12 => .rt (.slice ap4 (l + 1) G) (yK6aa i j k gen b sz c g f a d e h F12) <| .re 7 (.slice ap4 (l + 1) G) (yK6aa i j k gen b sz c g f a d e h F12)) <| .re 7 (.slice t l s) (yK6aa i j k gen b sz c g f a d e h m))) : jClean0_c2 E gen h g f b D sz M c d e t l s q z u a k i j m S w0 R := VC.go Tryz.func46 _ H
theorem jClean0_c3_vc (E : Nat) (gen : Int) (h : OA) (g f : Nat) (b : Int) (D : Nat) (sz : Int) (M : Bool) (c d e : Nat) (t : OA) (l s : Nat) (q : BA) (z u : Int) (a : Nat) (k : Bool) (i j : BA) (m : SHeap) (H : VP S w0 R (.P 5 53 (u < z) (.r 13 <| .ix q u <| .I 2 58 ((bat q u) = 0) (.r 2 <| .dD <| .nm [0,3,5,7,9,10,39,40] <| .ph 14 [0,1,2,3,4,5,6,7,8,9,10,11] [12,13] 3 <| .hp [(c, .cells (zK6aa k gen b sz g f a h) 86), (d, .cells #[.string i, .string j] 87), (e, .cells #[IV b, IV 0] 139)] fun N => .qu [4] <| .ex fun O => .qc 44 [PP c, IV 0] N (IV O) <| .qu [2,102,3] <| .ex fun Q => .qc 70 [IV (q.size : Int)] N (.string Q) <| .dn <| .cl 69 [PP c, IV (IntKind.i64.wrap (O + b)), .string Q] (yK6aa i j k gen b sz c g f a d e h m) <| .x4 fun n o p x => .rt (.func (.func 110) #[] #[PP n, PP o, PP p]) (yK6aa i j k gen b sz c g f a d e h x) <| .n2 1 (.cells #[.func (.func 110) #[] #[PP n, PP o, PP p]] 53) fun w => .df w (.cells #[.func (.func 110) #[] #[PP n, PP o, PP p]] 53) (yK6aa i j k gen b sz c g f a d e h x) <| .tl <| .ap 0 w 53 53 1 92 92 (.slice t l s) 1 1 [.func (.func 110) #[] #[PP n, PP o, PP p]] ((w, .cells #[.func (.func 110) #[] #[PP n, PP o, PP p]] 53) :: (c, .cells (zK6aa k gen b sz g f a h) 86) :: (d, .cells #[.string i, .string j] 87) :: (e, .cells #[IV b, IV 0] 139) :: x) <| .x3 fun ap5 (y : Nat) F14 => .rt (.slice ap5 (l + 1) y) (yK6aa i j k gen b sz c g f a d e h F14) <| .P 22 78 (0 < ((l + 1) : Int)) (.ru [6,200] <| .r 1 <| .ns true 1 (.cells #[.func (.func 68) #[PP a] #[]] 53) fun A => .ap 0 A 53 53 1 92 92 (.slice ap5 (l + 1) y) 1 1 [.func (.func 68) #[PP a] #[]] ((A, .cells #[.func (.func 68) #[PP a] #[]] 53) :: (c, .cells (zK6aa k gen b sz g f a h) 86) :: (d, .cells #[.string i, .string j] 87) :: (e, .cells #[IV b, IV 0] 139) :: F14) <| .x3 fun ap6 (F : Nat) F15 => .rt (.slice ap6 ((l + 1) + 1) F) (yK6aa i j k gen b sz c g f a d e h F15) <| .re 7 (.slice ap6 ((l + 1) + 1) F) (yK6aa i j k gen b sz c g f a d e h F15)) <| .re 7 (.slice ap5 (l + 1) y) (yK6aa i j k gen b sz c g f a d e h F14)) <| .cT 8 [0,1,2] 3 (jClean0_c3 E gen h g f b D sz M c d e t l s q z (IntKind.i64.wrap (u + 1)) a k i j m S)) <| .P 22 78 (0 < (l : Int)) (.ru [6,200] <| .r 1 <| .ns true 1 (.cells #[.func (.func 68) #[PP a] #[]] 53) fun C => .ap 0 C 53 53 1 92 92 (.slice t l s) 1 1 [.func (.func 68) #[PP a] #[]] ((C, .cells #[.func (.func 68) #[PP a] #[]] 53) :: (c, .cells (zK6aa k gen b sz g f a h) 86) :: (d, .cells #[.string i, .string j] 87) :: (e, .cells #[IV b, IV 0] 139) :: m) <| .x3 fun ap7 (G : Nat) F16 => .rt (.slice ap7 (l + 1) G) (yK6aa i j k gen b sz c g f a d e h F16) <| .re 7 (.slice ap7 (l + 1) G) (yK6aa i j k gen b sz c g f a d e h F16)) <| .re 7 (.slice t l s) (yK6aa i j k gen b sz c g f a d e h m))) : jClean0_c3 E gen h g f b D sz M c d e t l s q z u a k i j m S w0 R := VC.go Tryz.func46 _ H
theorem jClean0_vc (c : Nat) (a b : BA) (gen : Int) (j : OA) (i h : Nat) (d : Int) (e : Nat) (sz : Int) (f : Bool) (g : SHeap) (hm : Mem ((c, .cells (zK6aa f gen d sz i h e j) 86) :: g) S w0 W) (H : VP S w0 R (.nf 2 (.cells #[.string a, .string b] 87) fun B => .nf 5 (.cells #[IV 0, IV 0] 139) fun k => .r 2 <| .dr 10 <| .qu [3,102,4,102,1] <| .dn <| .ru [200] <| .r 2 <| .dD <| .nm [0,3,5] <| .ph 11 [0,1,2,3,4,5,6,7,8,9] [10] 3 <| .qu [3,102,4,102,1] <| .dn <| .n1 (.cells #[IV 0, IV 0] 139) fun n => .df n (.cells #[IV 0, IV 0] 139) ((k, .cells #[IV d, IV 0] 139) :: (B, .cells #[.string a, .string b] 87) :: (c, .cells (zK6aa f gen d sz i h e j) 86) :: g) <| .tl <| .ru [200,8,203] <| .P 2 37 (gen = 0) (.ru [3,200,10,200] <| .r 19 <| .dr 8 <| .qu [2,102,2,101] <| .ss a d (a.size : Int) <| .qu [1] <| .zls 10 (a.extract (Int.toNat d) a.size) fun l => .dn <| .cT 9 [3,2,1] 4 (jClean0_c0 c gen j i h d e sz f c B k none 0 0 l (l.size : Int) 0 e f a b g S)) <| .ru [11,200] <| .r 19 <| .dr 8 <| .qu [2,102,2,101] <| .ss b 0 (b.size : Int) <| .qu [1] <| .zls 10 (b.extract (Int.toNat 0) b.size) fun m => .dn <| .cT 9 [3,2,1] 4 (jClean0_c1 c gen j i h d e sz f c B k none 0 0 m (m.size : Int) 0 e f a b g S))) : Calls TP 46 ⟨[PP c, .agg #[.string a, .string b]]⟩ W R := VC.cs Tryz.func46 hm _ H
noncomputable def jClean1_c0 (u : Nat) (gen : Int) (h : OA) (g f : Nat) (e : Int) (t : Nat) (sz : Int) (w : Bool) (a b c : Nat) (p : OA) (o n : Nat) (m : BA) (q s : Int) (k : Nat) (l : Bool) (i j : BA) (d : SHeap) (S : List Nat) : Cut := ⟨TP, S, 46, 88, (KC Tryz.f46 3664284), [(0, PP a), (3, PP b), (5, PP c), (7, .slice p o n), (9, IV 0), (10, .string m), (39, .agg #[IV 0, IV 1]), (40, IV 0), (51, IV q), (52, IV s)], (yK6ab i j l gen e sz a g f k b c h d)⟩
noncomputable def jClean1_c1 (u : Nat) (gen : Int) (h : OA) (g f : Nat) (e : Int) (t : Nat) (sz : Int) (w : Bool) (a b c : Nat) (p : OA) (o n : Nat) (m : BA) (q s : Int) (k : Nat) (l : Bool) (i j : BA) (d : SHeap) (S : List Nat) : Cut := ⟨TP, S, 46, 88, (KC Tryz.f46 3664284), [(0, PP a), (3, PP b), (5, PP c), (7, .slice p o n), (9, IV 1), (10, .string m), (39, .agg #[IV 0, IV 1]), (40, IV 1), (51, IV q), (52, IV s)], (yK6ab i j l gen e sz a g f k b c h d)⟩
theorem jClean1_c0_vc (u : Nat) (gen : Int) (h : OA) (g f : Nat) (b : Int) (s : Nat) (sz : Int) (w : Bool) (c d e : Nat) (y : OA) (l x : Nat) (p : BA) (C q : Int) (j : Nat) (k : Bool) (i a : BA) (t : SHeap) (H : VP S w0 R (.P 5 53 (q < C) (.r 13 <| .ix p q <| .I 2 58 ((bat p q) = 0) (.r 2 <| .dD <| .nm [0,3,5,7,9,10,39,40] <| .ph 14 [0,1,2,3,4,5,6,7,8,9,10,11] [12,13] 3 <| .hp [(c, .cells (zK6ab k gen b sz g f j h) 86), (d, .cells #[.string i, .string a] 87), (e, .cells #[IV 0, IV b] 139)] fun E => .qu [4] <| .ex fun F => .qc 44 [PP c, IV 0] E (IV F) <| .qu [2,102,3] <| .ex fun G => .qc 70 [IV (p.size : Int)] E (.string G) <| .dn <| .cl 69 [PP c, IV (IntKind.i64.wrap (F + 0)), .string G] (yK6ab i a k gen b sz c g f j d e h t) <| .x4 fun m n o A => .rt (.func (.func 110) #[] #[PP m, PP n, PP o]) (yK6ab i a k gen b sz c g f j d e h A) <| .n2 1 (.cells #[.func (.func 110) #[] #[PP m, PP n, PP o]] 53) fun z => .df z (.cells #[.func (.func 110) #[] #[PP m, PP n, PP o]] 53) (yK6ab i a k gen b sz c g f j d e h A) <| .tl <| .ap 0 z 53 53 1 92 92 (.slice y l x) 1 1 [.func (.func 110) #[] #[PP m, PP n, PP o]] ((z, .cells #[.func (.func 110) #[] #[PP m, PP n, PP o]] 53) :: (c, .cells (zK6ab k gen b sz g f j h) 86) :: (d, .cells #[.string i, .string a] 87) :: (e, .cells #[IV 0, IV b] 139) :: A) <| .x3 fun ap (D : Nat) F3 => .rt (.slice ap (l + 1) D) (yK6ab i a k gen b sz c g f j d e h F3) <| .r 23 <| .dr 8 <| .qu [2,101,2,102] <| .ss a b (a.size : Int) <| .qu [1] <| .zls 10 (a.extract (Int.toNat b) a.size) fun M => .dn <| .cT 9 [0,1,2] 3 (jClean1_c1 u gen h g f b s sz w c d e ap (l + 1) D M (M.size : Int) 0 j k i a F3 S)) <| .cT 8 [0,1,2] 3 (jClean1_c0 u gen h g f b s sz w c d e y l x p C (IntKind.i64.wrap (q + 1)) j k i a t S)) <| .r 23 <| .dr 8 <| .qu [2,101,2,102] <| .ss a b (a.size : Int) <| .qu [1] <| .zls 10 (a.extract (Int.toNat b) a.size) fun N => .dn <| .cT 9 [0,1,2] 3 (jClean1_c1 u gen h g f b s sz w c d e y l x N (N.size : Int) 0 j k i a t S))) : jClean1_c0 u gen h g f b s sz w c d e y l x p C q j k i a t S w0 R := VC.go Tryz.func46 _ H
theorem jClean1_c1_vc (E : Nat) (gen : Int) (h : OA) (g f : Nat) (b : Int) (D : Nat) (sz : Int) (M : Bool) (c d e : Nat) (t : OA) (l s : Nat) (q : BA) (z u : Int) (a : Nat) (k : Bool) (i j : BA) (m : SHeap) (H : VP S w0 R (.P 5 53 (u < z) (.r 13 <| .ix q u <| .I 2 58 ((bat q u) = 0) (.r 2 <| .dD <| .nm [0,3,5,7,9,10,39,40] <| .ph 14 [0,1,2,3,4,5,6,7,8,9,10,11] [12,13] 3 <| .hp [(c, .cells (zK6ab k gen b sz g f a h) 86), (d, .cells #[.string i, .string j] 87), (e, .cells #[IV 0, IV b] 139)] fun N => .qu [4] <| .ex fun O => .qc 44 [PP c, IV 1] N (IV O) <| .qu [2,102,3] <| .ex fun Q => .qc 70 [IV (q.size : Int)] N (.string Q) <| .dn <| .cl 69 [PP c, IV (IntKind.i64.wrap (O + b)), .string Q] (yK6ab i j k gen b sz c g f a d e h m) <| .x4 fun n o p x => .rt (.func (.func 110) #[] #[PP n, PP o, PP p]) (yK6ab i j k gen b sz c g f a d e h x) <| .n2 1 (.cells #[.func (.func 110) #[] #[PP n, PP o, PP p]] 53) fun w => .df w (.cells #[.func (.func 110) #[] #[PP n, PP o, PP p]] 53) (yK6ab i j k gen b sz c g f a d e h x) <| .tl <| .ap 0 w 53 53 1 92 92 (.slice t l s) 1 1 [.func (.func 110) #[] #[PP n, PP o, PP p]] ((w, .cells #[.func (.func 110) #[] #[PP n, PP o, PP p]] 53) :: (c, .cells (zK6ab k gen b sz g f a h) 86) :: (d, .cells #[.string i, .string j] 87) :: (e, .cells #[IV 0, IV b] 139) :: x) <| .x3 fun ap1 (y : Nat) F6 => .rt (.slice ap1 (l + 1) y) (yK6ab i j k gen b sz c g f a d e h F6) <| .P 22 78 (0 < ((l + 1) : Int)) (.ru [6,200] <| .r 1 <| .ns true 1 (.cells #[.func (.func 68) #[PP a] #[]] 53) fun A => .ap 0 A 53 53 1 92 92 (.slice ap1 (l + 1) y) 1 1 [.func (.func 68) #[PP a] #[]] ((A, .cells #[.func (.func 68) #[PP a] #[]] 53) :: (c, .cells (zK6ab k gen b sz g f a h) 86) :: (d, .cells #[.string i, .string j] 87) :: (e, .cells #[IV 0, IV b] 139) :: F6) <| .x3 fun ap2 (F : Nat) F7 => .rt (.slice ap2 ((l + 1) + 1) F) (yK6ab i j k gen b sz c g f a d e h F7) <| .re 7 (.slice ap2 ((l + 1) + 1) F) (yK6ab i j k gen b sz c g f a d e h F7)) <| .re 7 (.slice ap1 (l + 1) y) (yK6ab i j k gen b sz c g f a d e h F6)) <| .cT 8 [0,1,2] 3 (jClean1_c1 E gen h g f b D sz M c d e t l s q z (IntKind.i64.wrap (u + 1)) a k i j m S)) <| .P 22 78 (0 < (l : Int)) (.ru [6,200] <| .r 1 <| .ns true 1 (.cells #[.func (.func 68) #[PP a] #[]] 53) fun C => .ap 0 C 53 53 1 92 92 (.slice t l s) 1 1 [.func (.func 68) #[PP a] #[]] ((C, .cells #[.func (.func 68) #[PP a] #[]] 53) :: (c, .cells (zK6ab k gen b sz g f a h) 86) :: (d, .cells #[.string i, .string j] 87) :: (e, .cells #[IV 0, IV b] 139) :: m) <| .x3 fun ap3 (G : Nat) F8 => .rt (.slice ap3 (l + 1) G) (yK6ab i j k gen b sz c g f a d e h F8) <| .re 7 (.slice ap3 (l + 1) G) (yK6ab i j k gen b sz c g f a d e h F8)) <| .re 7 (.slice t l s) (yK6ab i j k gen b sz c g f a d e h m))) : jClean1_c1 E gen h g f b D sz M c d e t l s q z u a k i j m S w0 R := VC.go Tryz.func46 _ H
theorem jClean1_vc (b : Nat) (a f : BA) (gen : Int) (j : OA) (i h : Nat) (e : Int) (c : Nat) (sz : Int) (d : Bool) (g : SHeap) (hm : Mem ((b, .cells (zK6ab d gen e sz i h c j) 86) :: g) S w0 W) (H : VP S w0 R (.nf 2 (.cells #[.string a, .string f] 87) fun B => .nf 5 (.cells #[IV 0, IV 0] 139) fun k => .r 2 <| .dr 10 <| .qu [3,102,4,102,1] <| .dn <| .ru [200] <| .r 2 <| .dD <| .nm [0,3,5] <| .ph 11 [0,1,2,3,4,5,6,7,8,9] [10] 3 <| .qu [3,102,4,102,1] <| .dn <| .n1 (.cells #[IV 0, IV 0] 139) fun n => .df n (.cells #[IV 0, IV 0] 139) ((k, .cells #[IV 0, IV e] 139) :: (B, .cells #[.string a, .string f] 87) :: (b, .cells (zK6ab d gen e sz i h c j) 86) :: g) <| .tl <| .ru [200,8,203] <| .P 2 37 (gen = 0) (.ru [3,200,10,200] <| .r 19 <| .dr 8 <| .qu [2,102,2,101] <| .ss a 0 (a.size : Int) <| .qu [1] <| .zls 10 (a.extract (Int.toNat 0) a.size) fun l => .dn <| .cT 9 [3,2,1] 4 (jClean1_c0 b gen j i h e c sz d b B k none 0 0 l (l.size : Int) 0 c d a f g S)) <| .ru [11,200] <| .r 19 <| .dr 8 <| .qu [2,102,2,101] <| .ss a 0 (a.size : Int) <| .qu [1] <| .zls 10 (a.extract (Int.toNat 0) a.size) fun m => .dn <| .cT 9 [3,2,1] 4 (jClean1_c0 b gen j i h e c sz d b B k none 0 0 m (m.size : Int) 0 c d a f g S))) : Calls TP 46 ⟨[PP b, .agg #[.string a, .string f]]⟩ W R := VC.cs Tryz.func46 hm _ H
def SRow (JB D : Nat) (ops : List DOp) (p : OA) (c : Nat) (G : SHeap) : Prop :=
 ops.length ≤ c ∧ ((p = none ∧ c = 0 ∧ ops = []) ∨ ∃ Q cs G0, p = some ⟨Q, 0, none⟩ ∧ G.Perm ((Q, .cells ⟨cs⟩ 53) :: G0) ∧ cs.length = c ∧ ∀ i (h : i < ops.length), ∃ v, cs[i]? = some v ∧ StepAt G0 JB D ops[i] v)
theorem SRow.nil0 {JB D : Nat} {G : SHeap} : SRow JB D [] none 0 G := ⟨Nat.le_refl _, .inl ⟨rfl, rfl, rfl⟩⟩
theorem SRow.push {JB D : Nat} {ops os : List DOp} {p : OA} {c n : Nat} {G X Y L : SHeap} {S : List Nat} {w0 : World} {vs : List Value} (h : SRow JB D ops p c G) (hn : ops.length = n) (b4 : n ≤ 1000) (Z : os.length = vs.length) (a1 : 0 < vs.length) (b3 : vs.length ≤ 1000) (a2 : ∀ i (h : i < os.length), StepAt X JB D os[i] (vs[i]'(by omega))) (hp : L.Perm (X ++ (G ++ Y))) {m : Nat} (hm : m = vs.length) :
  AppN TP 1 92 92 (.slice p n c) m vs L S w0 (fun v L' => ∃ p' c' N, v = .slice p' (n + m) c' ∧ L'.Perm (N ++ Y) ∧ SRow JB D (ops ++ os) p' c' N) := by
 subst hn hm
 obtain ⟨a4, ⟨rfl, rfl, rfl⟩ | ⟨Q, cs, O, rfl, a5, b1, a6⟩⟩ := h
 ·refine (AppN.nil (T := 92) (E := 53) (z := .nilFunc) (sz := 1) (bytes := 8) (by kernel_rfl) (by kernel_rfl) rfl a1 (by omega)).mono ?_
  rintro _ _ ⟨B, cap, r, rfl, V, b0, rfl⟩
  refine ⟨some ⟨B, 0, none⟩, cap, (B, .cells ⟨vs ++ r⟩ 53) :: (X ++ G), by rw [List.length_nil, Nat.zero_add], ?_, ⟨by simpa [Z] using V, .inr ⟨B, _, X ++ G, rfl, List.Perm.refl _, by omega, fun i hi => ?_⟩⟩⟩
  ·exact List.perm_append_comm.trans ((List.Perm.cons _ hp).trans perm_as1)
  ·simp only [List.nil_append] at hi ⊢
   exact ⟨vs[i]'(by omega), by rw [List.getElem?_append_left (by omega), List.getElem?_eq_getElem], (a2 i hi).mono fun x M => List.mem_append_left _ M⟩
 ·have a9 : L.Perm ((Q, .cells ⟨cs⟩ 53) :: (X ++ (O ++ Y))) := hp.trans (((a5.append_right Y).append_left X).trans List.perm_middle)
  refine (AppN.row (E := 53) (z := .nilFunc) (sz := 1) (bytes := 8) (by kernel_rfl) (by kernel_rfl) rfl a9 ⟨a4, by omega⟩ a1 (by omega)).mono ?_
  rintro _ _ ⟨B, cap, r, rfl, V, b0, a7⟩
  have a3 : ∀ i (h : i < (ops ++ os).length), ∃ v, (cs.take (ops.length * 1) ++ vs ++ r)[i]? = some v ∧ StepAt (X ++ O) JB D (ops ++ os)[i] v := by
   intro i hi
   rw [List.length_append] at hi
   have a8 : (cs.take (ops.length * 1)).length = ops.length := by rw [List.length_take]; omega
   rcases Nat.lt_or_ge i ops.length with hlt | hge
   ·obtain ⟨v, k1, a0⟩ := a6 i hlt
    refine ⟨v, ?_, ?_⟩
    ·rw [List.append_assoc, List.getElem?_append_left (by omega), List.getElem?_take_of_lt (by omega)]; exact k1
    ·rw [List.getElem_append_left hlt]; exact a0.mono fun x M => List.mem_append_right _ M
   ·refine ⟨vs[i - ops.length]'(by omega), ?_, ?_⟩
    ·rw [List.append_assoc, List.getElem?_append_right (by omega), a8, List.getElem?_append_left (by omega), List.getElem?_eq_getElem]
    ·rw [List.getElem_append_right hge]; exact (a2 _ (by omega)).mono fun x M => List.mem_append_left _ M
  rcases a7 with ⟨rfl, rfl, rfl⟩ | rfl
  ·exact ⟨some ⟨B, 0, none⟩, cap, (B, .cells ⟨cs.take (ops.length * 1) ++ vs ++ r⟩ 53) :: (X ++ O), rfl, perm_as1, ⟨by rw [List.length_append, Z]; exact V, .inr ⟨B, _, X ++ O, rfl, List.Perm.refl _, by omega, a3⟩⟩⟩
  ·refine ⟨some ⟨B, 0, none⟩, cap, (B, .cells ⟨cs.take (ops.length * 1) ++ vs ++ r⟩ 53) :: (Q, .cells ⟨cs⟩ 53) :: (X ++ O), rfl, perm_as2, ⟨by rw [List.length_append, Z]; exact V, .inr ⟨B, _, (Q, .cells ⟨cs⟩ 53) :: (X ++ O), rfl, List.Perm.refl _, by omega, fun i hi => ?_⟩⟩⟩
   obtain ⟨v, k1, a0⟩ := a3 i hi
   exact ⟨v, k1, a0.mono fun x M => List.mem_cons_of_mem _ M⟩
def dirtyOp (k sz fr : Nat) (img : List UInt8) : List DOp := if (img.drop fr).all (fun b => b == 0) = true then [] else [.write ((k * sz + fr : Nat) : Int) (ba (zs (img.length - fr)))]
def syncIf (ops : List DOp) : List DOp := if ops.length = 0 then [] else ops ++ [.sync]
def cleanOps (gen : Int) (cu en sz : Nat) (i0 i1 : List UInt8) : List DOp :=
 syncIf (if cu = 0 then (if gen = 0 then dirtyOp 0 sz en i0 ++ dirtyOp 1 sz 0 i1 else dirtyOp 1 sz 0 i1 ++ dirtyOp 0 sz en i0) else dirtyOp 0 sz 0 i0 ++ dirtyOp 1 sz en i1)
theorem scan_ind {rest : BA} {P : Nat → Prop} (a0 : (bts rest).all (fun b => b == 0) = false → ∀ t, t < rest.size → ¬ bat rest (t : Int) = 0 → P t) (go : ∀ t, t < rest.size → bat rest (t : Int) = 0 → P (t + 1) → P t) (a1 : (bts rest).all (fun b => b == 0) = true → P rest.size) : P 0 := by
 have key : ∀ g t, g + t = rest.size → (∀ i, i < t → bat rest (i : Int) = 0) → P t := by
  intro g
  induction g with
  | zero =>
   intro t Z h
   obtain rfl : t = rest.size := by omega
   refine a1 (List.all_eq_true.2 fun b M => ?_)
   obtain ⟨i, hi, rfl⟩ := List.mem_iff_getElem.1 M
   simpa using (bat_zero hi).1 (h i (by rw [bts_len] at hi; exact hi))
  | succ g ih =>
   intro t Z h
   by_cases M : bat rest (t : Int) = 0
   ·exact go t (by omega) M (ih (t + 1) (by omega) fun i hi => by
     rcases Nat.lt_or_ge i t with h1 | h1
     ·exact h i h1
     ·obtain rfl : i = t := by omega
      exact M)
   ·refine a0 ?_ t (by omega) M
    have O : t < (bts rest).length := by rw [bts_len]; omega
    rw [Bool.eq_false_iff]
    intro V
    have := List.all_eq_true.1 V _ (List.getElem_mem O)
    exact M ((bat_zero O).2 (by simpa using this))
 exact key rest.size 0 (by omega) fun i hi => absurd hi (by omega)
section perms
variable (x y z q u : Nat × Obj) (A F T X Z N G Y : SHeap)
theorem pl1 (hp : F.Perm (G ++ Y)) : (q :: x :: y :: z :: (X ++ F)).Perm (X ++ (G ++ (q :: x :: y :: z :: Y))) := perm_of fun c w M O V Z => by
 have := Z _ _ hp
 simp only [M, O, V] at this ⊢; omega
theorem pl2 : (N ++ (q :: x :: y :: z :: Y)).Perm (x :: y :: z :: (N ++ (q :: Y))) := perm_a
theorem pl3 : ((x :: X) ++ (y :: z :: F)).Perm (x :: y :: z :: (X ++ F)) := perm_a
theorem pl4 (hp : F.Perm (N ++ Y)) : (x :: y :: z :: F).Perm (x :: (N ++ (y :: z :: Y))) := perm_of fun c w M O V Z => by
 have := Z _ _ hp
 simp only [M, O, V] at this ⊢; omega
end perms
def ClnK (JB D : Nat) (m : JM) (p : OA) (c : Nat) (T : SHeap) (ops : List DOp) (v : Value) (L' : SHeap) : Prop :=
 ∃ q qc N Y, v = .slice q ops.length qc ∧ L'.Perm (jH JB D (m.js p c) :: (N ++ (Y ++ T))) ∧ SRow JB D ops q qc N
section cln
variable {JB D : Nat} {m : JM} {p : Option Addr} {c : Nat} {T : SHeap} {S : List Nat} {w0 : World} (y z : Nat × Obj)
theorem clean_hit {k fr : Nat} {rest : BA} {ops : List DOp} {q : OA} {qc n : Nat} {F G Y : SHeap} {a2 : OA → Nat → SHeap → Prop} (a3 : k ≤ 1) (b4 : m.sz ≤ 2097152) (b7 : fr ≤ 2097152) (c3 : rest.size ≤ 2097152) (hp : F.Perm (G ++ (Y ++ T))) (b1 : SRow JB D ops q qc G) (hn : ops.length = n) (c2 : n ≤ 10)
    (next : ∀ ap ac F' a1 a6, F'.Perm (a1 ++ (a6 ++ T)) → SRow JB D (ops ++ [.write ((k * m.sz + fr : Nat) : Int) (ba (zs rest.size))]) ap ac a1 → a2 ap ac F') :
    ∃ (a4 : Int), (QCallB TP 44 ⟨[pt JB 0, .int .i64 (k : Int)]⟩ [jH JB D (m.js p c), y, z] S w0 (.int .i64 a4)) ∧
          ∃ (a5 : BA), (QCallB TP 70 ⟨[.int .i64 (rest.size : Int)]⟩ [jH JB D (m.js p c), y, z] S w0 (.string a5)) ∧
          CallH TP 69 ⟨[pt JB 0, .int .i64 (IntKind.i64.wrap (a4 + (fr : Int))), .string a5]⟩ (jH JB D (m.js p c) :: y :: z :: F) S w0 (fun v L' => ∃ (M : Nat) (O : Nat) (V : Nat) (Z : SHeap), v = jcloV M O V ∧ L' = (jH JB D (m.js p c) :: y :: z :: Z) ∧
            ∀ B9 : Nat,
            AppN TP 1 92 92 (.slice q n qc) (1) [jcloV M O V] ((B9, .cells #[jcloV M O V] 53) :: jH JB D (m.js p c) :: y :: z :: Z) S w0 (fun v L' => ∃ (ap : OA) (ac : Nat) (a0 : SHeap), v = (.slice ap (n + 1) ac) ∧ L' = (jH JB D (m.js p c) :: y :: z :: a0) ∧ a2 ap ac a0)) := by
  have b9 : k * m.sz ≤ 1 * 2097152 := Nat.mul_le_mul a3 b4
  refine ⟨((k * m.sz : Nat) : Int), QCallB.pw fun b6 a9 => start_pw (m := m) (a9.here _ List.mem_cons_self) a3 (by omega), ba (zs rest.size), QCallB.of (zeros_c rest.size (by omega)), ?_⟩
  have a7 : IntKind.i64.wrap (((k * m.sz : Nat) : Int) + (fr : Int)) = ((k * m.sz + fr : Nat) : Int) := by rw [wi64 (by omega)]; omega
  rw [a7]
  refine CallH.eff (L0 := [jH JB D (m.js p c)]) (L1 := y :: z :: F) (jwrite_e (j := m.js p c) (D := D)) (List.Perm.refl _) ?_
  rintro _ _ ⟨M, O, V, rfl, rfl⟩
  refine ⟨_, pl3 _ _ _ _ _, M, O, V, _, rfl, rfl, fun B9 => ?_⟩
  refine (SRow.push (os := [.write ((k * m.sz + fr : Nat) : Int) (ba (zs rest.size))]) (vs := [jcloV M O V]) b1 hn (by omega) rfl (by simp) (by simp) (fun i hi => ?_) (pl1 _ _ _ _ _ (jcloX JB M O V _ _) _ _ hp) rfl).monoP ?_
  · match i, hi with
    | 0, _ => exact jclo_at fun x b3 => b3
  · rintro _ b5 ⟨p', c', N, rfl, b0, a8⟩
    exact ⟨_, b0.trans (pl2 _ _ _ _ _ _), p', c', _, rfl, rfl, next p' c' _ N ((B9, .cells #[jcloV M O V] 53) :: Y) (List.Perm.refl _) a8⟩
theorem clean_fin {ops : List DOp} {q : OA} {qc n : Nat} {F G Y : SHeap} (hp : F.Perm (G ++ (Y ++ T))) (a1 : SRow JB D ops q qc G) (hn : ops.length = n) (a5 : n ≤ 10) :
    (((0 : Int) < (n : Int)) →
          ∀ O : Nat,
          AppN TP 1 92 92 (.slice q n qc) (1) [.func (.func 68) #[pt D 0] #[]] ((O, .cells #[.func (.func 68) #[pt D 0] #[]] 53) :: jH JB D (m.js p c) :: y :: z :: F) S w0 (fun v L' => ∃ (a0 : OA) (Z : Nat) (V : SHeap), v = (.slice a0 (n + 1) Z) ∧ L' = (jH JB D (m.js p c) :: y :: z :: V) ∧
            Fin (fun e M => ∃ v L', e = .returned v ∧ Mem L' S w0 M ∧ ClnK JB D m p c T (syncIf ops) v L') (jH JB D (m.js p c) :: y :: z :: V) S w0 (.slice a0 (n + 1) Z))) ∧
         ((¬ ((0 : Int) < (n : Int))) →
          Fin (fun e M => ∃ v L', e = .returned v ∧ Mem L' S w0 M ∧ ClnK JB D m p c T (syncIf ops) v L') (jH JB D (m.js p c) :: y :: z :: F) S w0 (.slice q n qc)) := by
  refine ⟨fun h O => ?_, fun h => ?_⟩
  · have e : syncIf ops = ops ++ [.sync] := if_neg (by omega)
    refine (SRow.push (os := [.sync]) (X := []) (vs := [.func (.func 68) #[pt D 0] #[]]) a1 hn (by omega) rfl (by simp) (by simp) (fun i hi => ?_) (pl1 _ _ _ _ _ [] _ _ hp) rfl).monoP ?_
    · match i, hi with
      | 0, _ => exact rfl
    · rintro _ a4 ⟨p', c', N, rfl, a3, a2⟩
      refine ⟨_, a3.trans (pl2 _ _ _ _ _ _), p', c', _, rfl, rfl, dkFin ⟨p', c', N, y :: z :: (_ :: Y), by rw [e, List.length_append, hn]; rfl, pl4 _ _ _ _ _ _ (List.Perm.refl _), by rw [e]; exact a2⟩⟩
  · have e : syncIf ops = ops := by rw [syncIf, if_pos (by omega)]; exact (List.length_eq_zero_iff.1 (by omega)).symm
    exact dkFin ⟨q, qc, G, y :: z :: Y, by rw [e, hn], pl4 _ _ _ _ _ _ hp, by rw [e]; exact a1⟩
abbrev ClnR (S : List Nat) (w0 : World) (K : Value → SHeap → Prop) : Ending → World → Prop := fun e W' => ∃ v L', e = .returned v ∧ Mem L' S w0 W' ∧ K v L'
theorem rest_bts (i : BA) (fr : Nat) : bts (i.extract fr i.size) = (bts i).drop fr := by
 rw [bts_extract, List.take_of_length_le (by rw [List.length_drop, bts_len]; omega)]
theorem rest_size {i : BA} {fr : Nat} (h : fr ≤ i.size) : (i.extract fr i.size).size = (bts i).length - fr := by
 rw [ByteArray.size_extract, bts_len]; omega
theorem dirty_hit {k sz fr : Nat} {rest : BA} {M : List UInt8} (e : bts rest = M.drop fr) (es : rest.size = M.length - fr) (O : (bts rest).all (fun b => b == 0) = false) : dirtyOp k sz fr M = [.write ((k * sz + fr : Nat) : Int) (ba (zs rest.size))] := by
 rw [dirtyOp, ← e, O, if_neg (by decide), es]
theorem dirty_miss {k sz fr : Nat} {rest : BA} {M : List UInt8} (e : bts rest = M.drop fr) (O : (bts rest).all (fun b => b == 0) = true) : dirtyOp k sz fr M = [] := by
 rw [dirtyOp, ← e, O, if_pos rfl]
theorem cleaning0 {gen : Int} {fs : List Fct} {en sz : Nat} {br : Bool} {M O : BA} (a7 : sz ≤ 2097152) (c3 : M.size ≤ 2097152) (c4 : O.size ≤ 2097152) (b4 : en ≤ M.size) {W : World} (b6 : Mem (jH JB D ((JM.mk gen fs en sz 0 br).js p c) :: T) S w0 W) :
  Calls TP 46 ⟨[pt JB 0, .agg #[.string M, .string O]]⟩ W (ClnR S w0 (ClnK JB D (JM.mk gen fs en sz 0 br) p c T (cleanOps gen 0 en sz (bts M) (bts O)))) := by
 have b7 : Mem ((JB, .cells #[.int .i64 gen, .slice p fs.length c, .int .i64 (en : Int), .pointer (SO D), .int .i64 (sz : Int), .int .i64 (0 : Int), .bool br] 86) :: T) S w0 W := b6
 have b9 : (bts M).length = M.size := bts_len M
 have c2 : (bts O).length = O.size := bts_len O
 have e1 : bts (O.extract (Int.toNat (0 : Int)) O.size) = (bts O).drop 0 := rest_bts O 0
 have b3 : (O.extract (Int.toNat (0 : Int)) O.size).size = (bts O).length - 0 := rest_size (Nat.zero_le _)
 have e0 : bts (M.extract (Int.toNat (en : Int)) M.size) = (bts M).drop en := by rw [Int.toNat_natCast]; exact rest_bts M en
 have b1 : (M.extract (Int.toNat (en : Int)) M.size).size = (bts M).length - en := by rw [Int.toNat_natCast]; exact rest_size b4
 rw [cleanOps, if_pos rfl]
 refine jClean0_vc JB M O gen p fs.length c (en : Int) D (sz : Int) br T b7 fun B a4 B2 => ⟨fun b0 => ?_, fun b0 => ?_⟩
 ·rw [if_pos b0]
  have a5 : ∀ (ops : List DOp) (q : OA) (qc n : Nat) (F G Y : SHeap), F.Perm (G ++ (Y ++ T)) → SRow JB D ops q qc G → ops.length = n → n ≤ 5 →
    jClean0_c2 JB gen p fs.length c (en : Int) D (sz : Int) br JB B a4 q n qc (O.extract (Int.toNat (0 : Int)) O.size) ((O.extract (Int.toNat (0 : Int)) O.size).size : Int) (0 : Int) D br M O F S w0 (ClnR S w0 (ClnK JB D (JM.mk gen fs en sz 0 br) p c T (syncIf (ops ++ dirtyOp 1 sz 0 (bts O))))) := by
   intro ops q qc n F G Y hp a6 hn b5
   refine scan_ind (rest := (O.extract (Int.toNat (0 : Int)) O.size)) (P := fun t => jClean0_c2 JB gen p fs.length c (en : Int) D (sz : Int) br JB B a4 q n qc (O.extract (Int.toNat (0 : Int)) O.size) ((O.extract (Int.toNat (0 : Int)) O.size).size : Int) (t : Int) D br M O F S w0 (ClnR S w0 (ClnK JB D (JM.mk gen fs en sz 0 br) p c T (syncIf (ops ++ dirtyOp 1 sz 0 (bts O)))))) (fun a0 t a3 V => ?_) (fun t a3 V ih => ?_) fun Z => ?_
   ·apply jClean0_c2_vc
    rw [dirty_hit e1 b3 a0]
    exact yes (by omega) ⟨by omega, fun _ => clean_hit (m := JM.mk gen fs en sz 0 br) (k := 1) (fr := 0) _ _ (by omega) a7 (by omega) (by omega) hp a6 hn (by omega) fun ap ac F' a8 a9 a1 a2 => clean_fin (m := JM.mk gen fs en sz 0 br) (n := n + 1) _ _ a1 a2 (by rw [List.length_append, hn]; simp) (by omega), fun h => absurd h V⟩
   ·apply jClean0_c2_vc
    refine yes (by omega) ⟨by omega, fun h => absurd V h, fun _ => ?_⟩
    rw [wi64 (by omega), show (t : Int) + 1 = ((t + 1 : Nat) : Int) by omega]
    exact ih
   ·apply jClean0_c2_vc
    rw [dirty_miss e1 Z, List.append_nil]
    exact no (by omega) (clean_fin (m := JM.mk gen fs en sz 0 br) _ _ hp a6 hn (by omega))
  refine ⟨by omega, ?_⟩
  rintro _ rfl
  refine scan_ind (rest := (M.extract (Int.toNat (en : Int)) M.size)) (P := fun t => jClean0_c0 JB gen p fs.length c (en : Int) D (sz : Int) br JB B a4 none 0 0 (M.extract (Int.toNat (en : Int)) M.size) ((M.extract (Int.toNat (en : Int)) M.size).size : Int) (t : Int) D br M O T S w0 (ClnR S w0 (ClnK JB D (JM.mk gen fs en sz 0 br) p c T (syncIf (dirtyOp 0 sz en (bts M) ++ dirtyOp 1 sz 0 (bts O)))))) (fun a0 t a3 V => ?_) (fun t a3 V ih => ?_) fun Z => ?_
  ·apply jClean0_c0_vc
   rw [dirty_hit e0 b1 a0]
   refine yes (by omega) ⟨by omega, fun _ => clean_hit (m := JM.mk gen fs en sz 0 br) (k := 0) (fr := en) (ops := []) (G := []) (Y := []) _ _ (by omega) a7 (by omega) (by omega) (List.Perm.refl _) SRow.nil0 rfl (by omega) fun ap ac F' a8 a9 a1 a2 => ⟨by omega, ?_⟩, fun h => absurd h V⟩
   rintro _ rfl
   exact a5 _ _ _ _ _ _ _ a1 a2 rfl (by decide)
  ·apply jClean0_c0_vc
   refine yes (by omega) ⟨by omega, fun h => absurd V h, fun _ => ?_⟩
   rw [wi64 (by omega), show (t : Int) + 1 = ((t + 1 : Nat) : Int) by omega]
   exact ih
  ·apply jClean0_c0_vc
   rw [dirty_miss e0 Z]
   refine no (by omega) ⟨by omega, ?_⟩
   rintro _ rfl
   exact a5 [] none 0 0 T [] [] (List.Perm.refl _) SRow.nil0 rfl (by omega)
 ·rw [if_neg b0]
  have a5 : ∀ (ops : List DOp) (q : OA) (qc n : Nat) (F G Y : SHeap), F.Perm (G ++ (Y ++ T)) → SRow JB D ops q qc G → ops.length = n → n ≤ 5 →
    jClean0_c3 JB gen p fs.length c (en : Int) D (sz : Int) br JB B a4 q n qc (M.extract (Int.toNat (en : Int)) M.size) ((M.extract (Int.toNat (en : Int)) M.size).size : Int) (0 : Int) D br M O F S w0 (ClnR S w0 (ClnK JB D (JM.mk gen fs en sz 0 br) p c T (syncIf (ops ++ dirtyOp 0 sz en (bts M))))) := by
   intro ops q qc n F G Y hp a6 hn b5
   refine scan_ind (rest := (M.extract (Int.toNat (en : Int)) M.size)) (P := fun t => jClean0_c3 JB gen p fs.length c (en : Int) D (sz : Int) br JB B a4 q n qc (M.extract (Int.toNat (en : Int)) M.size) ((M.extract (Int.toNat (en : Int)) M.size).size : Int) (t : Int) D br M O F S w0 (ClnR S w0 (ClnK JB D (JM.mk gen fs en sz 0 br) p c T (syncIf (ops ++ dirtyOp 0 sz en (bts M)))))) (fun a0 t a3 V => ?_) (fun t a3 V ih => ?_) fun Z => ?_
   ·apply jClean0_c3_vc
    rw [dirty_hit e0 b1 a0]
    exact yes (by omega) ⟨by omega, fun _ => clean_hit (m := JM.mk gen fs en sz 0 br) (k := 0) (fr := en) _ _ (by omega) a7 (by omega) (by omega) hp a6 hn (by omega) fun ap ac F' a8 a9 a1 a2 => clean_fin (m := JM.mk gen fs en sz 0 br) (n := n + 1) _ _ a1 a2 (by rw [List.length_append, hn]; simp) (by omega), fun h => absurd h V⟩
   ·apply jClean0_c3_vc
    refine yes (by omega) ⟨by omega, fun h => absurd V h, fun _ => ?_⟩
    rw [wi64 (by omega), show (t : Int) + 1 = ((t + 1 : Nat) : Int) by omega]
    exact ih
   ·apply jClean0_c3_vc
    rw [dirty_miss e0 Z, List.append_nil]
    exact no (by omega) (clean_fin (m := JM.mk gen fs en sz 0 br) _ _ hp a6 hn (by omega))
  refine ⟨by omega, ?_⟩
  rintro _ rfl
  refine scan_ind (rest := (O.extract (Int.toNat (0 : Int)) O.size)) (P := fun t => jClean0_c1 JB gen p fs.length c (en : Int) D (sz : Int) br JB B a4 none 0 0 (O.extract (Int.toNat (0 : Int)) O.size) ((O.extract (Int.toNat (0 : Int)) O.size).size : Int) (t : Int) D br M O T S w0 (ClnR S w0 (ClnK JB D (JM.mk gen fs en sz 0 br) p c T (syncIf (dirtyOp 1 sz 0 (bts O) ++ dirtyOp 0 sz en (bts M)))))) (fun a0 t a3 V => ?_) (fun t a3 V ih => ?_) fun Z => ?_
  ·apply jClean0_c1_vc
   rw [dirty_hit e1 b3 a0]
   refine yes (by omega) ⟨by omega, fun _ => clean_hit (m := JM.mk gen fs en sz 0 br) (k := 1) (fr := 0) (ops := []) (G := []) (Y := []) _ _ (by omega) a7 (by omega) (by omega) (List.Perm.refl _) SRow.nil0 rfl (by omega) fun ap ac F' a8 a9 a1 a2 => ⟨by omega, ?_⟩, fun h => absurd h V⟩
   rintro _ rfl
   exact a5 _ _ _ _ _ _ _ a1 a2 rfl (by decide)
  ·apply jClean0_c1_vc
   refine yes (by omega) ⟨by omega, fun h => absurd V h, fun _ => ?_⟩
   rw [wi64 (by omega), show (t : Int) + 1 = ((t + 1 : Nat) : Int) by omega]
   exact ih
  ·apply jClean0_c1_vc
   rw [dirty_miss e1 Z]
   refine no (by omega) ⟨by omega, ?_⟩
   rintro _ rfl
   exact a5 [] none 0 0 T [] [] (List.Perm.refl _) SRow.nil0 rfl (by omega)
theorem cleaning1 {gen : Int} {fs : List Fct} {en sz : Nat} {br : Bool} {O M : BA} (a8 : sz ≤ 2097152) (c3 : O.size ≤ 2097152) (c4 : M.size ≤ 2097152) (b4 : en ≤ M.size) {W : World} (b6 : Mem (jH JB D ((JM.mk gen fs en sz 1 br).js p c) :: T) S w0 W) :
  Calls TP 46 ⟨[pt JB 0, .agg #[.string O, .string M]]⟩ W (ClnR S w0 (ClnK JB D (JM.mk gen fs en sz 1 br) p c T (cleanOps gen 1 en sz (bts O) (bts M)))) := by
 have b7 : Mem ((JB, .cells #[.int .i64 gen, .slice p fs.length c, .int .i64 (en : Int), .pointer (SO D), .int .i64 (sz : Int), .int .i64 (1 : Int), .bool br] 86) :: T) S w0 W := b6
 have b9 : (bts O).length = O.size := bts_len O
 have c2 : (bts M).length = M.size := bts_len M
 have e1 : bts (M.extract (Int.toNat (en : Int)) M.size) = (bts M).drop en := by rw [Int.toNat_natCast]; exact rest_bts M en
 have b3 : (M.extract (Int.toNat (en : Int)) M.size).size = (bts M).length - en := by rw [Int.toNat_natCast]; exact rest_size b4
 have e0 : bts (O.extract (Int.toNat (0 : Int)) O.size) = (bts O).drop 0 := rest_bts O 0
 have b1 : (O.extract (Int.toNat (0 : Int)) O.size).size = (bts O).length - 0 := rest_size (Nat.zero_le _)
 rw [cleanOps, if_neg (by decide)]
 have key : ∀ B V : Nat, (0 ≤ (0 : Int) ∧ (0 : Int) ≤ (O.size : Int) ∧ (O.size : Int) ≤ O.size) ∧ ∀ a5 : BA, a5 = (O.extract (Int.toNat (0 : Int)) O.size) → jClean1_c0 JB gen p fs.length c (en : Int) D (sz : Int) br JB B V none 0 0 a5 (a5.size : Int) (0 : Int) D br O M T S w0 (ClnR S w0 (ClnK JB D (JM.mk gen fs en sz 1 br) p c T (syncIf (dirtyOp 0 sz 0 (bts O) ++ dirtyOp 1 sz en (bts M))))) := by
  intro B V
  have a6 : ∀ (ops : List DOp) (q : OA) (qc n : Nat) (F G Y : SHeap), F.Perm (G ++ (Y ++ T)) → SRow JB D ops q qc G → ops.length = n → n ≤ 5 →
    jClean1_c1 JB gen p fs.length c (en : Int) D (sz : Int) br JB B V q n qc (M.extract (Int.toNat (en : Int)) M.size) ((M.extract (Int.toNat (en : Int)) M.size).size : Int) (0 : Int) D br O M F S w0 (ClnR S w0 (ClnK JB D (JM.mk gen fs en sz 1 br) p c T (syncIf (ops ++ dirtyOp 1 sz en (bts M))))) := by
   intro ops q qc n F G Y hp a7 hn c5
   refine scan_ind (rest := (M.extract (Int.toNat (en : Int)) M.size)) (P := fun t => jClean1_c1 JB gen p fs.length c (en : Int) D (sz : Int) br JB B V q n qc (M.extract (Int.toNat (en : Int)) M.size) ((M.extract (Int.toNat (en : Int)) M.size).size : Int) (t : Int) D br O M F S w0 (ClnR S w0 (ClnK JB D (JM.mk gen fs en sz 1 br) p c T (syncIf (ops ++ dirtyOp 1 sz en (bts M)))))) (fun a1 t a4 Z => ?_) (fun t a4 Z ih => ?_) fun a0 => ?_
   ·apply jClean1_c1_vc
    rw [dirty_hit e1 b3 a1]
    exact yes (by omega) ⟨by omega, fun _ => clean_hit (m := JM.mk gen fs en sz 1 br) (k := 1) (fr := en) _ _ (by omega) a8 (by omega) (by omega) hp a7 hn (by omega) fun ap ac F' a9 b0 a2 a3 => clean_fin (m := JM.mk gen fs en sz 1 br) (n := n + 1) _ _ a2 a3 (by rw [List.length_append, hn]; simp) (by omega), fun h => absurd h Z⟩
   ·apply jClean1_c1_vc
    refine yes (by omega) ⟨by omega, fun h => absurd Z h, fun _ => ?_⟩
    rw [wi64 (by omega), show (t : Int) + 1 = ((t + 1 : Nat) : Int) by omega]
    exact ih
   ·apply jClean1_c1_vc
    rw [dirty_miss e1 a0, List.append_nil]
    exact no (by omega) (clean_fin (m := JM.mk gen fs en sz 1 br) _ _ hp a7 hn (by omega))
  refine ⟨by omega, ?_⟩
  rintro _ rfl
  refine scan_ind (rest := (O.extract (Int.toNat (0 : Int)) O.size)) (P := fun t => jClean1_c0 JB gen p fs.length c (en : Int) D (sz : Int) br JB B V none 0 0 (O.extract (Int.toNat (0 : Int)) O.size) ((O.extract (Int.toNat (0 : Int)) O.size).size : Int) (t : Int) D br O M T S w0 (ClnR S w0 (ClnK JB D (JM.mk gen fs en sz 1 br) p c T (syncIf (dirtyOp 0 sz 0 (bts O) ++ dirtyOp 1 sz en (bts M)))))) (fun a1 t a4 Z => ?_) (fun t a4 Z ih => ?_) fun a0 => ?_
  ·apply jClean1_c0_vc
   rw [dirty_hit e0 b1 a1]
   refine yes (by omega) ⟨by omega, fun _ => clean_hit (m := JM.mk gen fs en sz 1 br) (k := 0) (fr := 0) (ops := []) (G := []) (Y := []) _ _ (by omega) a8 (by omega) (by omega) (List.Perm.refl _) SRow.nil0 rfl (by omega) fun ap ac F' a9 b0 a2 a3 => ⟨by omega, ?_⟩, fun h => absurd h Z⟩
   rintro _ rfl
   exact a6 _ _ _ _ _ _ _ a2 a3 rfl (by decide)
  ·apply jClean1_c0_vc
   refine yes (by omega) ⟨by omega, fun h => absurd Z h, fun _ => ?_⟩
   rw [wi64 (by omega), show (t : Int) + 1 = ((t + 1 : Nat) : Int) by omega]
   exact ih
  ·apply jClean1_c0_vc
   rw [dirty_miss e0 a0]
   refine no (by omega) ⟨by omega, ?_⟩
   rintro _ rfl
   exact a6 [] none 0 0 T [] [] (List.Perm.refl _) SRow.nil0 rfl (by omega)
 exact jClean1_vc JB O M gen p fs.length c (en : Int) D (sz : Int) br T b7 fun B V B2 => ⟨fun b5 => key B V, fun b5 => key B V⟩
end cln
abbrev parsedH0 (B a : Nat) : SHeap := [(B, .cells #[IV 0, .slice none 0 0, IV 0] 84), (a, .cells #[.bool false] 4)]
abbrev parsedH1 (B b c : Nat) (f a : Int) (e : Nat) (g : BA) (d : Nat) : SHeap := [(B, .cells #[IV 0, .slice none 0 0, IV 0] 84), (b, .cells #[.bool false] 4), (c, .cells #[IV f, .slice none 0 0, IV a] 84), (e, .cells #[.string g] 9), (d, .cells #[IV a] 3)]
abbrev parsedA0 (a : Fct) (g : OA) (f : Nat) (e : OA) (d : Nat) (c : OA) (b : Nat) : Array Value := ⟨a.cells g f e d c b⟩
theorem parsed_vc (f : BA) (hm : Mem [] S w0 W)
 (H :
 ∀ B c : Nat,
 (0 ≤ (0 : Int) ∧ (0 : Int) < f.size) ∧
 Br ((bat f (0 : Int)) = (0 : Int))
 (Fin R [(B, .cells #[IV 0, .slice none 0 0, IV 0] 84), (c, .cells #[.bool true] 4)] S w0 (.tuple #[.agg #[IV 0, .slice none 0 0, IV 0], .bool true]))
 (CallH TP 82 ⟨[.string f, IV 0, .func (.func 83) #[] #[]]⟩ (parsedH0 B c) S w0 (fun v L' => ∃ e p z, v = (.tuple #[IV e, IV p, .bool z]) ∧ L' = (parsedH0 B c) ∧
 Bb (z)
 (Br (e < 1)
 (Fin R (parsedH0 B c) S w0 (.tuple #[.agg #[IV 0, .slice none 0 0, IV 0], .bool false]))
 (∀ h : Nat,
 CallH TP 84 ⟨[.string f, IV p]⟩ [(B, .cells #[IV 0, .slice none 0 0, IV 0] 84), (c, .cells #[.bool false] 4), (h, .cells #[IV e, .slice none 0 0, IV p] 84)] S w0 (fun v L' => ∃ (j : Nat) (q : Nat), v = (.func (.func 120) #[] #[PP q, PP j]) ∧ L' = (parsedH1 B c h e p j f q) ∧
 ∀ (d m : Nat) (n : Array Value), Knows 73 [(0, .string f), (2, PP B), (3, PP c), (7, PP h)] n →
 CallH TP 120 ⟨.func (.yield m) #[] #[] :: [PP q, PP j]⟩ [(B, .cells #[IV 0, .slice none 0 0, IV 0] 84), (c, .cells #[.bool false] 4), (h, .cells #[IV e, .slice none 0 0, IV p] 84), (j, .cells #[.string f] 9), (q, .cells #[IV p] 3), (d, .deferred (some [])), (m, loopO .ready none 45 n (sub (Eng.body Tryz.f45) [1,1,1,1,1,0,1,0]) d)] S w0 (fun v L' => (∃ (hp : OA) (l : Nat) (k : Nat) (g : Int) (o : SHeap), L' = ((B, .cells #[IV 0, .slice none 0 0, IV 0] 84) :: (c, .cells #[.bool false] 4) :: (h, .cells #[IV e, .slice hp l k, IV g] 84) :: (j, .cells #[.string f] 9) :: (d, .deferred (some [])) :: (m, loopO .ready none 45 n (sub (Eng.body Tryz.f45) [1,1,1,1,1,0,1,0]) d) :: o) ∧
 Br (g < (f.size : Int))
 ((0 ≤ g ∧ g < f.size) ∧
 Bn ((bat f g) = (0 : Int))
 (Fin R ((B, .cells #[IV 0, .slice none 0 0, IV 0] 84) :: (c, .cells #[.bool false] 4) :: (h, .cells #[IV e, .slice hp l k, IV g] 84) :: (j, .cells #[.string f] 9) :: (d, .deferred none) :: (m, loopO .exhausted none 45 n (sub (Eng.body Tryz.f45) [1,1,1,1,1,0,1,0]) d) :: o) S w0 (.tuple #[.agg #[IV 0, .slice none 0 0, IV 0], .bool false]))
 (Fin R ((B, .cells #[IV e, .slice hp l k, IV g] 84) :: (c, .cells #[.bool true] 4) :: (h, .cells #[IV e, .slice hp l k, IV g] 84) :: (j, .cells #[.string f] 9) :: (d, .deferred none) :: (m, loopO .exhausted none 45 n (sub (Eng.body Tryz.f45) [1,1,1,1,1,0,1,0]) d) :: o) S w0 (.tuple #[.agg #[IV e, .slice hp l k, IV g], .bool true])))
 (Fin R ((B, .cells #[IV e, .slice hp l k, IV g] 84) :: (c, .cells #[.bool true] 4) :: (h, .cells #[IV e, .slice hp l k, IV g] 84) :: (j, .cells #[.string f] 9) :: (d, .deferred none) :: (m, loopO .exhausted none 45 n (sub (Eng.body Tryz.f45) [1,1,1,1,1,0,1,0]) d) :: o) S w0 (.tuple #[.agg #[IV e, .slice hp l k, IV g], .bool true]))) ∨
 (∃ (y : OA) (x : Nat) (w : Nat) (t : Int) (s : SHeap), L' = ((B, .cells #[IV 0, .slice none 0 0, IV 0] 84) :: (c, .cells #[.bool false] 4) :: (h, .cells #[IV e, .slice y x w, IV t] 84) :: (j, .cells #[.string f] 9) :: (d, .deferred (some [])) :: (m, loopO .done (some .ret) 45 n (sub (Eng.body Tryz.f45) [1,1,1,1,1,0,1,0]) d) :: s) ∧
 Fin R ((B, .cells #[IV 0, .slice none 0 0, IV 0] 84) :: (c, .cells #[.bool false] 4) :: (h, .cells #[IV e, .slice y x w, IV t] 84) :: (j, .cells #[.string f] 9) :: (d, .deferred none) :: (m, loopO .exhausted (some .ret) 45 n (sub (Eng.body Tryz.f45) [1,1,1,1,1,0,1,0]) d) :: s) S w0 (.tuple #[.agg #[IV 0, .slice none 0 0, IV 0], .bool false]))))))
 (Fin R (parsedH0 B c) S w0 (.tuple #[.agg #[IV 0, .slice none 0 0, IV 0], .bool false]))))) :
 Calls TP 45 ⟨[.string f]⟩ W R:= by
 refine AtE.cs 73 Tryz.func45 hm (.ru 2 (.nH (.cells #[IV 0, .slice none 0 0, IV 0] 84) H fun B H => (.nH (.cells #[.bool false] 4) H fun c H => (.ru 5 (.indexS (s := f) (kd := .i64) (i := (0 : Int)) (by kernel_rfl) H.1 ?_)))))
 replace H := H.2
 refine .ru 2 (.sP 14 H (fun H => ?_) fun H => ?_)
 ·refine .ru 4 (.st 0 0 (.st 1 0 (.ru 1 (.retR Tryz.func45 (by kernel_rfl) (ResOk.cells2 (a := 2) (b := 3) (T := 84) (U := 4) (u := .agg #[IV 0, .slice none 0 0, IV 0]) (v := .bool true) 0 0 1 0 (by kernel_rfl) (by kernel_rfl)) H))))
 ·refine .ru 5 (.cl H ?_)
  rintro _ _ ⟨e, p, z, rfl, rfl, H⟩
  refine .ru 12 (.sB 22 H (fun H => ?_) fun H => ?_)
  ·refine .ru 6 (.sP 27 H (fun H => ?_) fun H => ?_)
   ·refine .nm (KC Tryz.f45 61) [(0, .string f), (2, PP B), (3, PP c), (4, IV e), (5, IV p), (27, .bool true)] (parsedH0 B c) (.ru 4 (.st 0 0 (.st 1 0 (.ru 1 (.retR Tryz.func45 (by kernel_rfl) (ResOk.cells2 (a := 2) (b := 3) (T := 84) (U := 4) (u := .agg #[IV 0, .slice none 0 0, IV 0]) (v := .bool false) 0 0 1 0 (by kernel_rfl) (by kernel_rfl)) H)))))
   ·refine .nm (KC Tryz.f45 61) [(0, .string f), (2, PP B), (3, PP c), (4, IV e), (5, IV p), (27, .bool false)] (parsedH0 B c) (.ru 7 (.nH (.cells #[IV 0, .slice none 0 0, IV 0] 84) H fun h H => (.st 2 0 (.ru 6 (.cl H ?_)))))
    rintro _ _ ⟨j, q, rfl, rfl, H⟩
    refine .ru 2 (.nm (KC Tryz.f45 506) [(0, .string f), (2, PP B), (3, PP c), (7, PP h), (34, .func (.func 120) #[] #[PP q, PP j])] (parsedH1 B c h e p j f q) (.rangeFunc (rf := sub (Eng.body Tryz.f45) [1,1,1,1,1,0,1,0]) (k' := [.inBlock 0, .code (sub (Eng.body Tryz.f45) [1,1,1,1,1,1])]) (L1 := (parsedH1 B c h e p j f q)) 120 [PP q, PP j] (e' := [(0, .string f), (2, PP B), (3, PP c), (7, PP h)]) (by kernel_rfl) (fun W m => by kernel_rfl) (fun d m n A => ?_)))
    refine CallH.mono (H d m n A) ?_
    rintro _ _ (⟨hp, l, k, g, o, rfl, H⟩ | ⟨y, x, w, t, s, rfl, H⟩)
    ·skip
     refine ⟨5, .ready, none, rfl, by decide, ?_⟩
     refine .nm [.inBlock 0, .code (sub (Eng.body Tryz.f45) [1,1,1,1,1,1])] [(0, .string f), (2, PP B), (3, PP c), (7, PP h)] ((B, .cells #[IV 0, .slice none 0 0, IV 0] 84) :: (c, .cells #[.bool false] 4) :: (h, .cells #[IV e, .slice hp l k, IV g] 84) :: (j, .cells #[.string f] 9) :: (d, .deferred (some [])) :: (m, loopO .exhausted none 45 n (sub (Eng.body Tryz.f45) [1,1,1,1,1,0,1,0]) d) :: o) (.ru 5 (.ld 2 2 (.ru 4 (.sP 64 H (fun H => ?_) fun H => ?_))))
     ·refine .ru 2 (.ld 2 2 (.indexS (s := f) (kd := .i64) (i := g) (by kernel_rfl) H.1 ?_))
      replace H := H.2
      refine .ru 3 (.sN 70 H (fun H => ?_) fun H => ?_)
      ·refine .ru 4 (.st 0 0 (.st 1 0 (.nm (KR Tryz.f45 2036 []) [(2, PP B), (3, PP c)] ((B, .cells #[IV 0, .slice none 0 0, IV 0] 84) :: (c, .cells #[.bool false] 4) :: (h, .cells #[IV e, .slice hp l k, IV g] 84) :: (j, .cells #[.string f] 9) :: (d, .deferred (some [])) :: (m, loopO .exhausted none 45 n (sub (Eng.body Tryz.f45) [1,1,1,1,1,0,1,0]) d) :: o) (.ru 1 (.retM 4 (D := d) (v := (.tuple #[.agg #[IV 0, .slice none 0 0, IV 0], .bool false])) (L1 := ((B, .cells #[IV 0, .slice none 0 0, IV 0] 84) :: (c, .cells #[.bool false] 4) :: (h, .cells #[IV e, .slice hp l k, IV g] 84) :: (j, .cells #[.string f] 9) :: (d, .deferred (some [])) :: (m, loopO .exhausted none 45 n (sub (Eng.body Tryz.f45) [1,1,1,1,1,0,1,0]) d) :: o)) Tryz.func45 (by kernel_rfl) (ResOk.cells2 (a := 2) (b := 3) (T := 84) (U := 4) (u := .agg #[IV 0, .slice none 0 0, IV 0]) (v := .bool false) 0 0 1 0 (by kernel_rfl) (by kernel_rfl)) H)))))
      ·refine .ru 4 (.ld 2 0 (.st 0 0 (.nm (KR Tryz.f45 510 [2]) [(2, PP B), (3, PP c)] ((B, .cells #[IV e, .slice hp l k, IV g] 84) :: (c, .cells #[.bool false] 4) :: (h, .cells #[IV e, .slice hp l k, IV g] 84) :: (j, .cells #[.string f] 9) :: (d, .deferred (some [])) :: (m, loopO .exhausted none 45 n (sub (Eng.body Tryz.f45) [1,1,1,1,1,0,1,0]) d) :: o) (.st 1 0 (.ru 1 (.retM 4 (D := d) (v := (.tuple #[.agg #[IV e, .slice hp l k, IV g], .bool true])) (L1 := ((B, .cells #[IV e, .slice hp l k, IV g] 84) :: (c, .cells #[.bool true] 4) :: (h, .cells #[IV e, .slice hp l k, IV g] 84) :: (j, .cells #[.string f] 9) :: (d, .deferred (some [])) :: (m, loopO .exhausted none 45 n (sub (Eng.body Tryz.f45) [1,1,1,1,1,0,1,0]) d) :: o)) Tryz.func45 (by kernel_rfl) (ResOk.cells2 (a := 2) (b := 3) (T := 84) (U := 4) (u := .agg #[IV e, .slice hp l k, IV g]) (v := .bool true) 0 0 1 0 (by kernel_rfl) (by kernel_rfl)) H))))))
     ·refine .ru 11 (.ld 2 0 (.st 0 0 (.st 1 0 (.ru 1 (.retM 4 (D := d) (v := (.tuple #[.agg #[IV e, .slice hp l k, IV g], .bool true])) (L1 := ((B, .cells #[IV e, .slice hp l k, IV g] 84) :: (c, .cells #[.bool true] 4) :: (h, .cells #[IV e, .slice hp l k, IV g] 84) :: (j, .cells #[.string f] 9) :: (d, .deferred (some [])) :: (m, loopO .exhausted none 45 n (sub (Eng.body Tryz.f45) [1,1,1,1,1,0,1,0]) d) :: o)) Tryz.func45 (by kernel_rfl) (ResOk.cells2 (a := 2) (b := 3) (T := 84) (U := 4) (u := .agg #[IV e, .slice hp l k, IV g]) (v := .bool true) 0 0 1 0 (by kernel_rfl) (by kernel_rfl)) H)))))
    ·skip
     refine ⟨5, .done, (some .ret), rfl, by decide, ?_⟩
     refine .nm [.code .ret, .inBlock 0, .code (sub (Eng.body Tryz.f45) [1,1,1,1,1,1])] [(2, PP B), (3, PP c)] ((B, .cells #[IV 0, .slice none 0 0, IV 0] 84) :: (c, .cells #[.bool false] 4) :: (h, .cells #[IV e, .slice y x w, IV t] 84) :: (j, .cells #[.string f] 9) :: (d, .deferred (some [])) :: (m, loopO .exhausted (some .ret) 45 n (sub (Eng.body Tryz.f45) [1,1,1,1,1,0,1,0]) d) :: s) (.retM 4 (D := d) (v := (.tuple #[.agg #[IV 0, .slice none 0 0, IV 0], .bool false])) (L1 := ((B, .cells #[IV 0, .slice none 0 0, IV 0] 84) :: (c, .cells #[.bool false] 4) :: (h, .cells #[IV e, .slice y x w, IV t] 84) :: (j, .cells #[.string f] 9) :: (d, .deferred (some [])) :: (m, loopO .exhausted (some .ret) 45 n (sub (Eng.body Tryz.f45) [1,1,1,1,1,0,1,0]) d) :: s)) Tryz.func45 (by kernel_rfl) (ResOk.cells2 (a := 2) (b := 3) (T := 84) (U := 4) (u := .agg #[IV 0, .slice none 0 0, IV 0]) (v := .bool false) 0 0 1 0 (by kernel_rfl) (by kernel_rfl)) H)
  ·refine .ru 10 (.st 0 0 (.nm (KR Tryz.f45 244 [2]) [(2, PP B), (3, PP c)] (parsedH0 B c) (.st 1 0 (.ru 1 (.retR Tryz.func45 (by kernel_rfl) (ResOk.cells2 (a := 2) (b := 3) (T := 84) (U := 4) (u := .agg #[IV 0, .slice none 0 0, IV 0]) (v := .bool false) 0 0 1 0 (by kernel_rfl) (by kernel_rfl)) H)))))
theorem parsed_r0_vc (s : BA) (B h b u : Nat) (w : Int) (hp : OA) (q t : Nat) (z : Int) (N : SHeap) (M : BA) (C : Int) (a e : Nat) (g : Array Value) {K : Value → SHeap → Prop} (V : Knows 73 [(0, .string s), (2, PP B), (3, PP h), (7, PP b)] g)
 (H :
 CallH TP 85 ⟨[.string M]⟩ ((B, .cells #[IV 0, .slice none 0 0, IV 0] 84) :: (h, .cells #[.bool false] 4) :: (b, .cells #[IV w, .slice hp q t, IV z] 84) :: (u, .cells #[.string s] 9) :: (a, .deferred (some [])) :: (e, loopO .busy none 45 g (sub (Eng.body Tryz.f45) [1,1,1,1,1,0,1,0]) a) :: N) S w0 (fun v L' => ∃ (d : Fct) (o : OA) (m : Nat) (l : OA) (k : Nat) (j : OA) (i : Nat), ∃ F A, v = (.tuple #[.agg (parsedA0 d o m l k j i), IV F]) ∧ L' = ((B, .cells #[IV 0, .slice none 0 0, IV 0] 84) :: (h, .cells #[.bool false] 4) :: (b, .cells #[IV w, .slice hp q t, IV z] 84) :: (u, .cells #[.string s] 9) :: (a, .deferred (some [])) :: (e, loopO .busy none 45 g (sub (Eng.body Tryz.f45) [1,1,1,1,1,0,1,0]) a) :: A) ∧
 ∀ y : Nat,
 Bn (F = 0)
 (K (.bool false) ((y, .cells (parsedA0 d o m l k j i) 38) :: (B, .cells #[IV 0, .slice none 0 0, IV 0] 84) :: (h, .cells #[.bool false] 4) :: (b, .cells #[IV w, .slice hp q t, IV z] 84) :: (u, .cells #[.string s] 9) :: (a, .deferred (some [])) :: (e, loopO .done (some .ret) 45 g (sub (Eng.body Tryz.f45) [1,1,1,1,1,0,1,0]) a) :: A))
 (∃ (Q : Int), (QCall TP 53 ⟨[PP b]⟩ ((y, .cells (parsedA0 d o m l k j i) 38) :: (B, .cells #[IV 0, .slice none 0 0, IV 0] 84) :: (h, .cells #[.bool false] 4) :: (b, .cells #[IV w, .slice hp q t, IV z] 84) :: (u, .cells #[.string s] 9) :: (a, .deferred (some [])) :: (e, loopO .busy none 45 g (sub (Eng.body Tryz.f45) [1,1,1,1,1,0,1,0]) a) :: A) S w0 (IV Q)) ∧
 Bn (d.n = Q)
 (K (.bool false) ((y, .cells (parsedA0 d o m l k j i) 38) :: (B, .cells #[IV 0, .slice none 0 0, IV 0] 84) :: (h, .cells #[.bool false] 4) :: (b, .cells #[IV w, .slice hp q t, IV z] 84) :: (u, .cells #[.string s] 9) :: (a, .deferred (some [])) :: (e, loopO .done (some .ret) 45 g (sub (Eng.body Tryz.f45) [1,1,1,1,1,0,1,0]) a) :: A))
 (∀ D : Nat,
 AppN TP 23 22 22 (.slice hp q t) (1) (d.cells o m l k j i) ((D, .cells (parsedA0 d o m l k j i) 38) :: (y, .cells (parsedA0 d o m l k j i) 38) :: (B, .cells #[IV 0, .slice none 0 0, IV 0] 84) :: (h, .cells #[.bool false] 4) :: (b, .cells #[IV w, .slice hp q t, IV z] 84) :: (u, .cells #[.string s] 9) :: (a, .deferred (some [])) :: (e, loopO .busy none 45 g (sub (Eng.body Tryz.f45) [1,1,1,1,1,0,1,0]) a) :: A) S w0 (fun v L' => ∃ (ap : OA) (E : Nat), ∃ G, v = (.slice ap (q + 1) E) ∧ L' = ((y, .cells (parsedA0 d o m l k j i) 38) :: (B, .cells #[IV 0, .slice none 0 0, IV 0] 84) :: (h, .cells #[.bool false] 4) :: (b, .cells #[IV w, .slice hp q t, IV z] 84) :: (u, .cells #[.string s] 9) :: (a, .deferred (some [])) :: (e, loopO .busy none 45 g (sub (Eng.body Tryz.f45) [1,1,1,1,1,0,1,0]) a) :: G) ∧
 K (.bool true) ((y, .cells (parsedA0 d o m l k j i) 38) :: (B, .cells #[IV 0, .slice none 0 0, IV 0] 84) :: (h, .cells #[.bool false] 4) :: (b, .cells #[IV w, .slice ap (q + 1) E, IV C] 84) :: (u, .cells #[.string s] 9) :: (a, .deferred (some [])) :: (e, loopO .ready none 45 g (sub (Eng.body Tryz.f45) [1,1,1,1,1,0,1,0]) a) :: G)))))) :
 YieldH TP e ⟨[.string M, IV C]⟩ ((B, .cells #[IV 0, .slice none 0 0, IV 0] 84) :: (h, .cells #[.bool false] 4) :: (b, .cells #[IV w, .slice hp q t, IV z] 84) :: (u, .cells #[.string s] 9) :: (a, .deferred (some [])) :: (e, loopO .ready none 45 g (sub (Eng.body Tryz.f45) [1,1,1,1,1,0,1,0]) a) :: N) S w0 K:= by
 refine YieldH.of (f := 45) (nt := 73) (l := e) (D := a) (t := g) (rf := sub (Eng.body Tryz.f45) [1,1,1,1,1,0,1,0]) (e1 := [(36, IV C), (35, .string M), (0, .string s), (2, PP B), (3, PP h), (7, PP b)]) (k1 := [.code (sub (Eng.body Tryz.f45) [1,1,1,1,1,0,1,0,0]), .beginRound, .code (sub (Eng.body Tryz.f45) [1,1,1,1,1,0,1,0,1])]) 5 V (by kernel_rfl) (by kernel_rfl) ?_
 refine .ru 7 (.begin 5 (l := e) (D := a) (f' := 45) (t := g) (rf := sub (Eng.body Tryz.f45) [1,1,1,1,1,0,1,0]) (k' := [.code (sub (Eng.body Tryz.f45) [1,1,1,1,1,0,1,0,1])]) (by kernel_rfl) (.nm [.code (sub (Eng.body Tryz.f45) [1,1,1,1,1,0,1,0,1])] [(2, PP B), (3, PP h), (7, PP b), (8, .string M), (9, IV C)] ((B, .cells #[IV 0, .slice none 0 0, IV 0] 84) :: (h, .cells #[.bool false] 4) :: (b, .cells #[IV w, .slice hp q t, IV z] 84) :: (u, .cells #[.string s] 9) :: (a, .deferred (some [])) :: (e, loopO .busy none 45 g (sub (Eng.body Tryz.f45) [1,1,1,1,1,0,1,0]) a) :: N) (.ru 4 (.cl H ?_))))
 rintro _ _ ⟨d, o, m, l, k, j, i, F, A, rfl, rfl, H⟩
 refine .ru 3 (.nH (.cells #[IV 0, IV 0, IV 0, IV 0, sZ, IV 0, IV 0, sZ, sZ, .slice none 0 0, .slice none 0 0, IV 0, .slice none 0 0, IV 0, IV 0, IV 0, IV 0, IV 0, sZ, sZ, IV 0, IV 0, IV 0] 38) H fun y H => (.front (.store 0 0 (T := 38) (v := .agg (parsedA0 d o m l k j i)) (by kernel_rfl) (.ru 4 (.nm [.code (sub (Eng.body Tryz.f45) [1,1,1,1,1,0,1,0,1,0,1,0,0]), .code (sub (Eng.body Tryz.f45) [1,1,1,1,1,0,1,0,1,0,1,0,1]), .code (sub (Eng.body Tryz.f45) [1,1,1,1,1,0,1,0,1,0,1,1]), .inBlock 1] [(2, PP B), (3, PP h), (7, PP b), (9, IV C), (10, PP y), (11, IV F)] ((y, .cells (parsedA0 d o m l k j i) 38) :: (B, .cells #[IV 0, .slice none 0 0, IV 0] 84) :: (h, .cells #[.bool false] 4) :: (b, .cells #[IV w, .slice hp q t, IV z] 84) :: (u, .cells #[.string s] 9) :: (a, .deferred (some [])) :: (e, loopO .busy none 45 g (sub (Eng.body Tryz.f45) [1,1,1,1,1,0,1,0]) a) :: A) (.dr 8 (.pu (.pu (.pu (.splitN 44 (p := F = 0) (by kernel_rfl) (fun O => ?_) (fun O => ?_)))))))))))
 ·replace H := H.1 O
  refine .sk (.sk (.sk (.sk (.pu (.dn (.ru 5 (.store 1 0 (T := 84) (v := .agg #[IV 0, .slice none 0 0, IV 0]) (by kernel_rfl) (.store 2 0 (T := 4) (v := .bool false) (by kernel_rfl) (.ru 1 (.jumpRound 6 (l := e) (D := a) (f' := 45) (t := g) (rf := sub (Eng.body Tryz.f45) [1,1,1,1,1,0,1,0]) (st := .busy) (L1 := ((y, .cells (parsedA0 d o m l k j i) 38) :: (B, .cells #[IV 0, .slice none 0 0, IV 0] 84) :: (h, .cells #[.bool false] 4) :: (b, .cells #[IV w, .slice hp q t, IV z] 84) :: (u, .cells #[.string s] 9) :: (a, .deferred (some [])) :: (e, loopO .busy none 45 g (sub (Eng.body Tryz.f45) [1,1,1,1,1,0,1,0]) a) :: A)) (c := .ret) (by kernel_rfl) ?_))))))))))
  exact H
 ·replace H := H.2 O
  refine .pu (.ld 0 0 ?_)
  obtain ⟨Q, X, H⟩ := H
  refine .cl X (.pu (.pu (.dn (.ru 1 (.sN 49 H (fun H => ?_) fun H => ?_)))))
  ·refine .ru 4 (.store 1 0 (T := 84) (v := .agg #[IV 0, .slice none 0 0, IV 0]) (by kernel_rfl) (.store 2 0 (T := 4) (v := .bool false) (by kernel_rfl) (.ru 1 (.jumpRound 6 (l := e) (D := a) (f' := 45) (t := g) (rf := sub (Eng.body Tryz.f45) [1,1,1,1,1,0,1,0]) (st := .busy) (L1 := ((y, .cells (parsedA0 d o m l k j i) 38) :: (B, .cells #[IV 0, .slice none 0 0, IV 0] 84) :: (h, .cells #[.bool false] 4) :: (b, .cells #[IV w, .slice hp q t, IV z] 84) :: (u, .cells #[.string s] 9) :: (a, .deferred (some [])) :: (e, loopO .busy none 45 g (sub (Eng.body Tryz.f45) [1,1,1,1,1,0,1,0]) a) :: A)) (c := .ret) (by kernel_rfl) ?_))))
   exact H
  ·refine .ru 5 (.ld 3 1 (.ld 0 0 (.nw (fun B => .slice (SO B) 1 1) (.cells (parsedA0 d o m l k j i) 38) fun D => ?_)))
   replace H := H D
   refine .front (.nm [.inRegion (regOps [.code (sub (Eng.body Tryz.f45) [1,1,1,1,1,0,1,0,1,0,1,1,0])]) [4,5,6], .code (sub (Eng.body Tryz.f45) [1,1,1,1,1,0,1,0,1,0,1,1,1]), .inBlock 1] [(2, PP B), (3, PP h), (7, PP b), (9, IV C), (52, .slice hp q t), (54, .slice (SO D) 1 1)] ((D, .cells (parsedA0 d o m l k j i) 38) :: (y, .cells (parsedA0 d o m l k j i) 38) :: (B, .cells #[IV 0, .slice none 0 0, IV 0] 84) :: (h, .cells #[.bool false] 4) :: (b, .cells #[IV w, .slice hp q t, IV z] 84) :: (u, .cells #[.string s] 9) :: (a, .deferred (some [])) :: (e, loopO .busy none 45 g (sub (Eng.body Tryz.f45) [1,1,1,1,1,0,1,0]) a) :: A) (.appendT (sz := 23) (T := 22) (U := 22) (s := .slice hp q t) (x := .slice (SO D) 1 1) (1) (d.cells o m l k j i) (by kernel_rfl) (srcRow (E' := 38) (t := 38) (fz := (0, 0)) (c := (d.cells o m l k j i)) (by simp) (by kernel_rfl) (by simp) (by simp [Value.oneCell'])) H ?_))
   rintro _ _ ⟨ap, E, G, rfl, rfl, H⟩
   refine .ru 1 (.store 3 1 (T := 22) (v := .slice ap (q + 1) E) (by kernel_rfl) (.ru 4 (.store 3 2 (T := 3) (v := IV C) (by kernel_rfl) (.ru 2 (.endRound 6 (l := e) (D := a) (f' := 45) (t := g) (rf := sub (Eng.body Tryz.f45) [1,1,1,1,1,0,1,0]) (st := .busy) (L1 := ((y, .cells (parsedA0 d o m l k j i) 38) :: (B, .cells #[IV 0, .slice none 0 0, IV 0] 84) :: (h, .cells #[.bool false] 4) :: (b, .cells #[IV w, .slice ap (q + 1) E, IV C] 84) :: (u, .cells #[.string s] 9) :: (a, .deferred (some [])) :: (e, loopO .busy none 45 g (sub (Eng.body Tryz.f45) [1,1,1,1,1,0,1,0]) a) :: G)) (by kernel_rfl) ?_)))))
   exact H
def pR (l : List UInt8) (n : Nat) : Option (List Fct × Nat) := parseR l.length l n
def halfR : List UInt8 → Option (Int × List Fct × Nat)
 | [] => some (0, [], 0)
 | b :: r => if b = 0 then some (0, [], 0) else (match frmR rdInt (b :: r) with
  | none => none
  | some (g, k) => if g < 1 then none else (pR ((b :: r).drop k) 1).map fun q => (g, q.1, k + q.2))
theorem pR_step {b : UInt8} {r : List UInt8} {n : Nat} (O : b ≠ 0) {t : BA} {k : Nat} (M : frmR rdStrB (b :: r) = some (t, k)) :
  pR (b :: r) n = if Takes t n then (pR ((b :: r).drop k) (n + 1)).map (fun q => ((decF (bts t)).1 :: q.1, k + q.2)) else none := by
 unfold pR
 rw [List.length_cons, parseR, if_neg O, M]
 simp only
 have Z := frmR_pos M
 have V : ((b :: r).drop k).length ≤ r.length := by rw [List.length_drop, List.length_cons]; omega
 rw [parseR_fuel r.length _ _ V]
theorem pR_none {b : UInt8} {r : List UInt8} {n : Nat} (M : b ≠ 0) (O : frmR rdStrB (b :: r) = none) : pR (b :: r) n = none := by
 unfold pR
 rw [List.length_cons, parseR, if_neg M, O]
theorem pR_zero {r : List UInt8} {n : Nat} : pR (0 :: r) n = some ([], 0) := by
 unfold pR
 rw [List.length_cons, parseR, if_pos rfl]
theorem pR_nil {n : Nat} : pR [] n = some ([], 0) := rfl
def PRel (s : List UInt8) (a0 : Nat) (l : List Fct) (a : Nat) : Prop := a0 ≤ a ∧ pR (s.drop a0) 1 = (pR (s.drop a) (l.length + 1)).map fun q => (l ++ q.1, a - a0 + q.2)
theorem PRel.start (s : List UInt8) (a : Nat) : PRel s a [] a := ⟨Nat.le_refl _, by
 simp only [List.length_nil, Nat.zero_add, List.nil_append, Nat.sub_self]
 cases pR (s.drop a) 1 <;> simp⟩
theorem dropH {s : List UInt8} {a : Nat} (h : a < s.length) : ∃ r, s.drop a = s[a] :: r := ⟨_, List.drop_eq_getElem_cons h⟩
theorem PRel.step {s : List UInt8} {M a : Nat} {l : List Fct} (h : PRel s M l a) (Z : a < s.length) (a0 : s[a] ≠ 0) {t : BA} {k : Nat} (O : frmR rdStrB (s.drop a) = some (t, k)) (a1 : Takes t (l.length + 1)) : PRel s M (l ++ [(decF (bts t)).1]) (a + k) := by
 obtain ⟨a2, V⟩ := h
 refine ⟨by omega, ?_⟩
 obtain ⟨r, e⟩ := dropH Z
 rw [V]
 rw [e] at O ⊢
 rw [pR_step a0 O, if_pos a1, ← e, List.drop_drop, List.length_append, List.length_singleton]
 cases pR (s.drop (a + k)) (l.length + 1 + 1) with
 | none => rfl
 | some q => simp; omega
theorem PRel.bad {s : List UInt8} {M a : Nat} {l : List Fct} (h : PRel s M l a) (V : a < s.length) (Z : s[a] ≠ 0) {t : BA} {k : Nat} (O : frmR rdStrB (s.drop a) = some (t, k)) (a0 : ¬ Takes t (l.length + 1)) : pR (s.drop M) 1 = none := by
 obtain ⟨r, e⟩ := dropH V
 rw [h.2]
 rw [e] at O ⊢
 rw [pR_step Z O, if_neg a0]; rfl
theorem PRel.bad2 {s : List UInt8} {M a : Nat} {l : List Fct} (h : PRel s M l a) (V : a < s.length) (Z : s[a] ≠ 0) (O : frmR rdStrB (s.drop a) = none) : pR (s.drop M) 1 = none := by
 obtain ⟨r, e⟩ := dropH V
 rw [h.2]
 rw [e] at O ⊢
 rw [pR_none Z O]; rfl
theorem PRel.stop {s : List UInt8} {M a : Nat} {l : List Fct} (h : PRel s M l a) (O : s.length ≤ a ∨ ∃ V : a < s.length, s[a] = 0) : pR (s.drop M) 1 = some (l, a - M) := by
 rw [h.2]
 rcases O with O | ⟨V, hb⟩
 ·rw [List.drop_of_length_le O, pR_nil]; simp
 ·obtain ⟨r, e⟩ := dropH V
  rw [e, hb, pR_zero]; simp
abbrev hZ (B : Nat) : Nat × Obj := hH B 0 none 0 0 0
abbrev bF (B : Nat) : Nat × Obj := (B, .cells #[.bool false] 4)
abbrev kA (ka : Nat) (k : Int) : Nat × Obj := (ka, .cells #[.int .i64 k] 3)
noncomputable abbrev lpO (l : Nat) (st : LoopState) (o : Option Code) (t : Array Value) (D : Nat) : Nat × Obj := (l, loopO st o 45 t (sub (Eng.body Tryz.f45) [1, 1, 1, 1, 1, 0, 1, 0]) D)
abbrev dfN (D : Nat) : Nat × Obj := (D, .deferred (some []))
section par
variable (s : ByteArray) (B B1 B2 kb : Nat) (g : Int) (a0 D lp : Nat) (t : Array Value)
noncomputable abbrev parH (st : LoopState) (o : Option Code) (p : OA) (n c : Nat) (en : Int) (T : SHeap) : SHeap :=
 hZ B :: bF B1 :: hH B2 g p n c en :: dfN D :: lpO lp st o t D :: T
def ParI (l : List Fct) (a : Nat) (F : SHeap) : Prop :=
 ∃ p c T, F.Perm (parH B B1 B2 g D lp t .ready none p l.length c (a : Int) T) ∧ FRow noLk l p c T ∧ PRel (bts s) a0 l a ∧ l.length ≤ 500 ∧ a ≤ (bts s).length
def ParJ (F : SHeap) : Prop :=
 ∃ p n c en T, F.Perm (parH B B1 B2 g D lp t .done (some .ret) p n c en T) ∧ pR ((bts s).drop a0) 1 = none
end par
section perms
variable (x y z v w' q r : Nat × Obj) (A F T X Z N : SHeap)
theorem pp1 (hp : F.Perm (x :: y :: z :: v :: w' :: T)) : (x :: y :: z :: q :: v :: w' :: T).Perm (q :: F) := perm_of fun c w M O V Z => by
 have := Z _ _ hp
 simp only [M, O, V] at this ⊢; omega
theorem pp3 : (r :: x :: y :: z :: q :: v :: w' :: T).Perm (q :: x :: y :: z :: v :: w' :: (r :: T)) := perm_a
theorem pp4 (r' : Nat × Obj) : (r' :: r :: x :: y :: z :: q :: v :: w' :: (F ++ T)).Perm (F ++ (T ++ [r', r, x, y, z, q, v, w'])) := perm_a
theorem pp5 (r' : Nat × Obj) : (N ++ [r', r, x, y, z, q, v, w']).Perm (r :: x :: y :: z :: q :: v :: w' :: (r' :: N)) := perm_a
theorem pp6 : (q :: r :: [x, y, z, v, w']).Perm [x, y, z, r, q, v, w'] := perm_a
end perms
theorem frmR_one {α : Type} {M : List UInt8 → Option (α × Nat)} {l : List UInt8} {v : α} {k : Nat} (h : frmR M l = some (v, k)) : ∃ r, l = 1 :: r := by
 cases l with
 | nil => cases h
 | cons b r =>
  rw [frmR] at h
  split at h
  ·next hb => exact ⟨r, by rw [hb]⟩
  ·cases h
theorem rdStrB_sz {l : List UInt8} {v : BA} {k : Nat} (h : rdStrB l = some (v, k)) : v.size ≤ 65536 := by
 rw [rdStrB, Option.map_eq_some_iff] at h
 obtain ⟨⟨t, k'⟩, O, M⟩ := h
 simp only [Prod.mk.injEq] at M
 obtain ⟨rfl, _⟩ := M
 have := (rdStr_inv O).1
 show t.toArray.size ≤ 65536
 simpa using this
theorem frmR_sz {l : List UInt8} {v : BA} {k : Nat} (h : frmR rdStrB l = some (v, k)) : v.size ≤ 65536 := by
 obtain ⟨r, rfl⟩ := frmR_one h
 rw [frmR, if_pos rfl] at h
 split at h
 ·cases h
 ·next v' k' hv =>
  split at h
  ·cases h
  ·split at h
   ·simp only [Option.some.injEq, Prod.mk.injEq] at h
    obtain ⟨rfl, _⟩ := h
    exact rdStrB_sz hv
   ·cases h
theorem hnext_pw {W : World} {M n c : Nat} {gen en : Int} {p : OA} (h : W.heap[M]? = some (hH M gen p n c en).2) (hn : n ≤ 1000000) : PW TP 53 ⟨[pt M 0]⟩ W (.int .i64 ((n + 1 : Nat) : Int)) := by
 refine PW.ro (x := hH M gen p n c en) (fun hm O => jNext_vc M gen p n c en [] hm ?_) h
 rintro _ rfl
 rw [wi64 (by omega), show (n : Int) + 1 = ((n + 1 : Nat) : Int) by omega]
 exact O
section round
variable {s : ByteArray} {B B1 B2 kb : Nat} {g : Int} {a0 D lp : Nat} {tt : Array Value} {S : List Nat} {w0 : World}
def ParK (s : BA) (B B1 B2 : Nat) (g : Int) (a0 D lp : Nat) (tt : Array Value) (l : List Fct) (a : Nat) (t : BA) (k : Nat) (v : Value) (F' : SHeap) : Prop :=
 (v = .bool true ∧ Takes t (l.length + 1) ∧ ParI s B B1 B2 g a0 D lp tt (l ++ [(decF (bts t)).1]) (a + k) F') ∨ (v = .bool false ∧ ¬ Takes t (l.length + 1) ∧ ParJ s B B1 B2 g a0 D lp tt F')
theorem par_round (c2 : s.size < 4611686018427387904) (a8 : Knows 73 [(0, .string s), (2, .pointer (SO B)), (3, .pointer (SO B1)), (7, .pointer (SO B2))] tt) {l : List Fct} {a : Nat} {F : SHeap} {t : BA} {k : Nat} (V : a < (bts s).length) (a5 : ParI s B B1 B2 g a0 D lp tt l a F) (O : frmR rdStrB ((bts s).drop a) = some (t, k)) :
  YieldH TP lp ⟨[.string t, .int .i64 ((a + k : Nat) : Int)]⟩ (tStr kb s :: F) S w0 (fun v L' => ∃ F', L' = tStr kb s :: F' ∧ ParK s B B1 B2 g a0 D lp tt l a t k v F') := by
 obtain ⟨p, c, T, hp, a7, a2, b7, b9⟩ := a5
 have Z : (bts s)[a] ≠ 0 := by
  obtain ⟨r, e⟩ := frmR_one O
  have := List.drop_eq_getElem_cons V
  rw [e] at this
  simp only [List.cons.injEq] at this
  rw [← this.1]; decide
 have b0 : a + k ≤ (bts s).length := by
  have := frmR_len rdStrB_len O
  rw [List.length_drop] at this; omega
 refine YieldH.perm (pp1 _ _ _ _ _ (tStr kb s) _ _ hp) ?_
 refine YieldH.monoP (K := fun v L' => ∃ F', L'.Perm (tStr kb s :: F') ∧ ParK s B B1 B2 g a0 D lp tt l a t k v F') ?_ fun v L' ⟨F', h1, h2⟩ => ⟨tStr kb s :: F', h1.symm, F', rfl, h2⟩
 refine parsed_r0_vc s B B1 B2 kb g p l.length c (a : Int) T t _ D lp tt a8 ?_
 have c3 := frmR_sz O
 refine CallH.addF [_, _, _, _, _, _] (fDecode_e (s := t) (by omega)) ?_
 rintro _ F' ⟨tp, tc, bp, bc, ap, ac, rfl, a9⟩
 refine ⟨_, tp, tc, bp, bc, ap, ac, _, _, rfl, rfl, fun B3 => ⟨fun a3 => ?_, fun a1 => ?_⟩⟩
 ·exact ⟨_, pp3 _ _ _ _ _ _ _ _, .inr ⟨rfl, fun M => a3 M.1, p, l.length, c, (a : Int), _, List.Perm.refl _, a2.bad V Z O fun M => a3 M.1⟩⟩
 ·refine ⟨((l.length + 1 : Nat) : Int), QCall.pw fun b6 b1 => hnext_pw (b1.here (hH B2 g p l.length c (a : Int)) (by simp)) (by omega), fun hn => ?_, fun hn a4 => ?_⟩
  ·exact ⟨_, pp3 _ _ _ _ _ _ _ _, .inr ⟨rfl, fun M => hn M.2, p, l.length, c, (a : Int), _, List.Perm.refl _, a2.bad V Z O fun M => hn M.2⟩⟩
  ·refine (FRow.push (Y := [_, _, _, _, _, _, _, _]) (f := (decF (bts t)).1) a7 (a9.mono lkU_l) rfl (by omega) (pp4 _ _ _ _ _ _ _ _ _ _)).monoP ?_
   rintro _ b5 ⟨p', c', N, rfl, b4, a6, _, _⟩
   refine ⟨_, b4.trans (pp5 _ _ _ _ _ _ _ _ _), p', c', _, rfl, rfl, _, pp3 _ _ _ _ _ _ _ _, .inl ⟨rfl, ⟨a1, hn⟩, p', c', [(B3, .cells (parsedA0 (decF (bts t)).1 tp tc bp bc ap ac) 38), (a4, .cells (parsedA0 (decF (bts t)).1 tp tc bp bc ap ac) 38)] ++ N, ?_, a6.more [_, _], a2.step V Z O ⟨a1, hn⟩, ?_, b0⟩⟩
   ·rw [List.length_append, List.length_singleton]; exact List.Perm.refl _
   ·have b3 : (decF (bts t)).1.ok = true := by
     rcases decF_err (bts t) with h | h
     ·exact h.2
     ·exact absurd a1 h.2
    have := (Fct.good b3).n
    rw [List.length_append, List.length_singleton]
    omega
end round
def ParOut (s : List UInt8) (v : Value) (F : SHeap) : Prop :=
 match halfR s with
 | none => v = .tuple #[.agg #[.int .i64 0, .slice none 0 0, .int .i64 0], .bool false]
 | some (g, fs, e) => ∃ p c, v = .tuple #[.agg #[.int .i64 g, .slice p fs.length c, .int .i64 (e : Int)], .bool true] ∧ FRow noLk fs p c F
theorem parsed_e {s : BA} (b1 : s.size < 4611686018427387904) (b3 : 0 < s.size) : EffW TP 45 ⟨[.string s]⟩ [] (fun W => blkW W 0 = some tabV) (ParOut (bts s)) := by
 intro W hm b5
 have a8 : 0 < (bts s).length := b3
 obtain ⟨r, e⟩ := dropH a8
 rw [List.drop_zero] at e
 have e' : bts s = (bts s)[0] :: r := e
 refine parsed_vc s hm fun B a0 => ⟨by omega, fun Z => ?_, fun Z => ?_⟩
 ·have a6 : (bts s)[0] = 0 := (bat_zero a8).1 Z
  refine dkFin ?_
  have : halfR (bts s) = some (0, [], 0) := by rw [e', a6, halfR, if_pos rfl]
  rw [ParOut, this]
  exact ⟨none, 0, rfl, FRow.nil0⟩
 ·have a6 : (bts s)[0] ≠ 0 := fun h => Z ((bat_zero a8).2 h)
  refine CallH.pureG (framedI_c b1 b3) (by simp) b5 ?_
  have c4 : (bts s).drop 0 = bts s := List.drop_zero
  rw [c4]
  have O : halfR (bts s) = match frmR rdInt (bts s) with | none => none | some (g, k) => if g < 1 then none else (pR ((bts s).drop k) 1).map fun q => (g, q.1, k + q.2) := by
   conv => lhs; rw [e', halfR, if_neg a6, ← e']
  cases hf : frmR rdInt (bts s) with
  | none =>
   rw [hf] at O
   refine ⟨0, 0, false, rfl, rfl, fun h => Bool.noConfusion h, fun _ => dkFin ?_⟩
   rw [ParOut, O]
  | some q =>
   obtain ⟨g, k⟩ := q
   rw [hf] at O
   simp only at O
   refine ⟨g, ((0 + k : Nat) : Int), true, rfl, rfl, fun _ => ⟨fun a7 => dkFin ?_, fun a7 B2 => ?_⟩, fun h => Bool.noConfusion h⟩
   ·rw [ParOut, O, if_pos a7]
   ·rw [if_neg a7] at O
    refine CallH.eff (L0 := []) (L1 := [hZ B, bF a0, hH B2 g none 0 0 ((0 + k : Nat) : Int)]) (K := fun v L' => ∃ M V, v = .func (.func 120) ⟨[]⟩ ⟨[pt V 0, pt M 0]⟩ ∧ L' = [tStr M s, kA V ((0 + k : Nat) : Int)]) (fun b7 a9 => records_vc s _ a9 fun M V => dkFin ⟨M, V, rfl, rfl⟩) (List.Perm.refl _) ?_
    rintro _ _ ⟨M, V, rfl, rfl⟩
    refine ⟨_, List.perm_append_comm, M, V, rfl, rfl, fun D lp t c3 => ?_⟩
    intro b7 a9
    have c7 : (kA V ((0 + k : Nat) : Int) :: tStr M s :: [hZ B, bF a0, hH B2 g none 0 0 ((0 + k : Nat) : Int), dfN D, lpO lp .ready none t D]).Perm [hZ B, bF a0, hH B2 g none 0 0 ((0 + k : Nat) : Int), tStr M s, kA V ((0 + k : Nat) : Int), dfN D, lpO lp .ready none t D] := pp6 _ _ _ _ _ _ _
    have c9 := frmR_len (fun l v k h => (rdInt_inv h).2.1) hf
    refine recIter_vc lp V M _ s _ (a9.perm c7) (rec_loop b1 (by simp) b5 (I := ParI s B a0 B2 g (0 + k) D lp t) (J := ParJ s B a0 B2 g (0 + k) D lp t) (fun l a F t' k' a5 a4 c5 => par_round b1 c3 a5 a4 c5) (fun l a F a4 a3 => ?_) (fun F c2 => ?_) s.size (0 + k) [] _ (by omega) ⟨none, 0, [], List.Perm.refl _, FRow.nil0, PRel.start _ _, by simp, by omega⟩)
    ·obtain ⟨p, c, T, hp, b4, a1, c8, d0⟩ := a4
     have d1 : ((bts s).drop k).length = (bts s).length - k := List.length_drop
     intro b9 b0
     refine ⟨_, _, rfl, b0.perm (pp1 _ _ _ _ _ (tStr M s) _ _ hp), .inl ⟨p, l.length, c, (a : Int), T, rfl, fun a5 => ?_, fun a5 => ?_⟩⟩
     ·have a2 : a < (bts s).length := by rw [bts_len]; omega
      refine ⟨by omega, fun Z => dkFin ?_, fun Z => dkFin ?_⟩
      ·rcases a3 with a3 | ⟨_, a3 | ⟨h1, h2⟩⟩
       ·omega
       ·exact absurd ((bat_zero a2).2 a3) Z
       ·have := a1.bad2 a2 h1 h2
        rw [Nat.zero_add] at this
        rw [ParOut, O, this]; rfl
      ·have := a1.stop (.inr ⟨a2, (bat_zero a2).1 Z⟩)
       rw [Nat.zero_add] at this
       have c6 := a1.1
       rw [ParOut, O, this]
       simp only [Option.map_some]
       exact ⟨p, c, by rw [show k + (a - k) = a by omega], b4.more [_, _, _, _, _, _]⟩
     ·have := a1.stop (.inl (by rw [bts_len]; omega))
      rw [Nat.zero_add] at this
      have c6 := a1.1
      refine dkFin ?_
      rw [ParOut, O, this]
      simp only [Option.map_some]
      exact ⟨p, c, by rw [show k + (a - k) = a by omega], b4.more [_, _, _, _, _, _]⟩
    ·obtain ⟨p, n, c, en, T, hp, b6⟩ := c2
     rw [Nat.zero_add] at b6
     intro b9 b0
     refine ⟨_, _, rfl, b0.perm (pp1 _ _ _ _ _ (tStr M s) _ _ hp), .inr ⟨p, n, c, en, T, rfl, dkFin ?_⟩⟩
     rw [ParOut, O, b6]; rfl
end Go.Eng
