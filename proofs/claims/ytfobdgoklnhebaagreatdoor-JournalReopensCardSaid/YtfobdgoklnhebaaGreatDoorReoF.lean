/- A part of the proof: the engine by which functions are walked, verification conditions that a program of the prover wrote, contracts and plain laws; no claim of its own. -/
import Derived.Shelf.Strings.Repeat
import Derived.Test.YtfobdgoklnhebaaGreatDoorProg
import Derived.Test.YtfobdgoklnhebaaGreatDoorChecked
import Derived.Test.YtfobdgoklnhebaaGreatDoorReoE
set_option linter.unusedVariables false
set_option linter.unusedSimpArgs false
namespace Go.Proofs
section
open Go.Shelf
def Tryz.lays105_ren : Go.Shelf.Ren := ⟨fun | 105 => 111 | 212 => 151 | 99 => 152 | 165 => 153 | 166 => 109 | 170 => 154 | 169 => 60 | 263 => 174 | 264 => 175 | 206 => 176 | 240 => 150 | 241 => 177 | 276 => 173 | 277 => 195 | n => n, fun | 9 => 9 | 3 => 3 | 4 => 4 | 20 => 20 | 0 => 0 | 46 => 185 | 109 => 210 | 5 => 5 | 72 => 103 | 76 => 167 | 51 => 184 | 146 => 223 | 53 => 141 | 148 => 225 | 70 => 101 | 37 => 47 | 75 => 166 | 127 => 158 | 164 => 221 | 80 => 108 | n => n, fun | n => n⟩
theorem Tryz.lays105 : Go.Proofs.Lays.n105 Tryz.prog Tryz.lays105_ren := {
 mixed := by kernel_rfl
 f99 := Tryz.func152.trans (congrArg some (by kernel_rfl))
 f105 := Tryz.func111.trans (congrArg some (by kernel_rfl))
 f165 := Tryz.func153.trans (congrArg some (by kernel_rfl))
 f166 := Tryz.func109.trans (congrArg some (by kernel_rfl))
 f169 := Tryz.func60.trans (congrArg some (by kernel_rfl))
 f170 := Tryz.func154.trans (congrArg some (by kernel_rfl))
 f206 := Tryz.func176.trans (congrArg some (by kernel_rfl))
 f212 := Tryz.func151.trans (congrArg some (by kernel_rfl))
 f240 := Tryz.func150.trans (congrArg some (by kernel_rfl))
 f241 := Tryz.func177.trans (congrArg some (by kernel_rfl))
 f263 := Tryz.func174.trans (congrArg some (by kernel_rfl))
 f264 := Tryz.func175.trans (congrArg some (by kernel_rfl))
 f276 := Tryz.func173.trans (congrArg some (by kernel_rfl))
 f277 := Tryz.func195.trans (congrArg some (by kernel_rfl))
 t0 := Tryz.underlying0
 a0 := Tryz.isAgg0
 z0 := Tryz.sizeOf0
 v0 := Tryz.zeroValue0
 t3 := Tryz.underlying3
 a3 := Tryz.isAgg3
 z3 := Tryz.sizeOf3
 v3 := Tryz.zeroValue3
 t4 := Tryz.underlying4
 a4 := Tryz.isAgg4
 z4 := Tryz.sizeOf4
 v4 := Tryz.zeroValue4
 t5 := Tryz.underlying5
 a5 := Tryz.isAgg5
 z5 := Tryz.sizeOf5
 v5 := Tryz.zeroValue5
 t9 := Tryz.underlying9
 a9 := Tryz.isAgg9
 z9 := Tryz.sizeOf9
 v9 := Tryz.zeroValue9
 t20 := Tryz.underlying20
 a20 := Tryz.isAgg20
 z20 := Tryz.sizeOf20
 v20 := Tryz.zeroValue20
 t37 := Tryz.underlying47
 a37 := Tryz.isAgg47
 z37 := Tryz.sizeOf47
 v37 := Tryz.zeroValue47
 t46 := Tryz.underlying185
 a46 := Tryz.isAgg185
 z46 := Tryz.sizeOf185
 v46 := Tryz.zeroValue185
 t51 := Tryz.underlying184
 a51 := Tryz.isAgg184
 z51 := Tryz.sizeOf184
 v51 := Tryz.zeroValue184
 t53 := Tryz.underlying141
 a53 := Tryz.isAgg141
 z53 := Tryz.sizeOf141
 v53 := Tryz.zeroValue141
 t70 := Tryz.underlying101
 a70 := Tryz.isAgg101
 z70 := Tryz.sizeOf101
 v70 := Tryz.zeroValue101
 t72 := Tryz.underlying103
 a72 := Tryz.isAgg103
 z72 := Tryz.sizeOf103
 v72 := Tryz.zeroValue103
 t75 := Tryz.underlying166
 a75 := Tryz.isAgg166
 z75 := Tryz.sizeOf166
 v75 := Tryz.zeroValue166
 t76 := Tryz.underlying167
 a76 := Tryz.isAgg167
 z76 := Tryz.sizeOf167
 v76 := Tryz.zeroValue167
 t109 := Tryz.underlying210
 a109 := Tryz.isAgg210
 z109 := Tryz.sizeOf210
 v109 := Tryz.zeroValue210
 t127 := Tryz.underlying158
 a127 := Tryz.isAgg158
 z127 := Tryz.sizeOf158
 v127 := Tryz.zeroValue158
 t146 := Tryz.underlying223
 a146 := Tryz.isAgg223
 z146 := Tryz.sizeOf223
 v146 := Tryz.zeroValue223
 t148 := Tryz.underlying225
 a148 := Tryz.isAgg225
 z148 := Tryz.sizeOf225
 v148 := Tryz.zeroValue225
 t164 := Tryz.underlying221
 a164 := Tryz.isAgg221
 z164 := Tryz.sizeOf221
 v164 := Tryz.zeroValue221 }
theorem Tryz.Builder_Extra_105 : Builder.Extra Tryz.prog Tryz.lays105_ren := {
 sizeBuilder := by kernel_rfl
 liesBuilder := by kernel_rfl
 t5 := Tryz.underlying5
 a5 := Tryz.isAgg5
 z5 := Tryz.sizeOf5
 v5 := Tryz.zeroValue5
 infoByte := by kernel_rfl
 cellsByte := by kernel_rfl
 sizeByte := by kernel_rfl
 neB5 := by decide }
open Go.RowKit Go.Lib in
theorem Tryz.strings_Repeat (s : ByteArray) (c : Nat) (w : World) (hc : c ≤ 9223372036854775807) (hlen : s.size * c ≤ 140737488355328) :
  Calls Tryz.prog 111 #[.string s, .int .i64 c] w fun e w' => e = .returned (.string ⟨(Lib.repeatL s.data.toList c).toArray⟩) ∧ Below w.heap.size w w' := Any.strings_Repeat Tryz.lays105 Tryz.Builder_Extra_105 s c w hc hlen
end
end Go.Proofs
namespace Wire
def bitStep (r : Nat) : Nat := if r % 2 = 1 then r / 2 ^^^ 2197175160 else r / 2
def steps : Nat → Nat → Nat
 | 0, r => r
 | n + 1, r => steps n (bitStep r)
def crcByte (r b : Nat) : Nat := steps 8 (r ^^^ b)
def crcFrom (r : Nat) (l : List UInt8) : Nat := l.foldl (fun r b => crcByte r b.toNat) r
def crc (l : List UInt8) : Nat := 4294967295 ^^^ crcFrom 4294967295 l
theorem xor_mod2 (a b : Nat) : (a ^^^ b) % 2 = (a % 2 + b % 2) % 2 := by
 have h1 := Nat.mod_two_eq_zero_or_one a
 have h2 := Nat.mod_two_eq_zero_or_one b
 have h3 := Nat.mod_two_eq_zero_or_one (a ^^^ b)
 have h := Nat.testBit_xor a b 0
 simp only [Nat.testBit_zero] at h
 rcases h1 with h1 | h1 <;> rcases h2 with h2 | h2 <;> rcases h3 with h3 | h3 <;> simp_all
theorem xor_div2 (a b : Nat) : (a ^^^ b) / 2 = a / 2 ^^^ b / 2 := by
 apply Nat.eq_of_testBit_eq
 intro j
 rw [← Nat.testBit_add_one, Nat.testBit_xor, Nat.testBit_add_one, Nat.testBit_add_one, Nat.testBit_xor]
theorem bitStep_xor (a b : Nat) : bitStep (a ^^^ b) = bitStep a ^^^ bitStep b := by
 unfold bitStep
 rw [xor_mod2, xor_div2]
 have h1 := Nat.mod_two_eq_zero_or_one a
 have h2 := Nat.mod_two_eq_zero_or_one b
 rcases h1 with h1 | h1 <;> rcases h2 with h2 | h2 <;> simp only [h1, h2, Nat.zero_add, Nat.add_zero, Nat.reduceAdd, Nat.reduceMod, if_true, if_false, Nat.zero_ne_one]
 ·rw [Nat.xor_assoc]
 ·rw [Nat.xor_assoc, Nat.xor_assoc]; congr 1; exact Nat.xor_comm ..
 ·have : ∀ x y p : Nat, x ^^^ y = (x ^^^ p) ^^^ (y ^^^ p) := by
   intro x y p
   rw [Nat.xor_assoc, ← Nat.xor_assoc p, Nat.xor_comm p y, Nat.xor_assoc y, Nat.xor_self, Nat.xor_zero]
  exact this _ _ _
theorem steps_xor : ∀ (n a b : Nat), steps n (a ^^^ b) = steps n a ^^^ steps n b
 | 0, _, _ => rfl
 | n + 1, a, b => by rw [steps, steps, steps, bitStep_xor, steps_xor n]
theorem steps_add : ∀ (m n r : Nat), steps (m + n) r = steps n (steps m r)
 | 0, n, r => by rw [Nat.zero_add]; rfl
 | m + 1, n, r => by rw [Nat.add_right_comm, steps, steps, steps_add m n]
theorem bitStep_even (h : Nat) : bitStep (2 * h) = h := by
 unfold bitStep; rw [if_neg (by omega)]; omega
theorem steps_shift : ∀ (n h : Nat), steps n (2 ^ n * h) = h
 | 0, h => by simp [steps]
 | n + 1, h => by rw [steps, Nat.pow_succ, Nat.mul_comm (2 ^ n) 2, Nat.mul_assoc, bitStep_even, steps_shift n]
theorem bitStep_lt {r : Nat} (h : r < 2 ^ 32) : bitStep r < 2 ^ 32 := by
 unfold bitStep; split
 ·exact Nat.xor_lt_two_pow (by omega) (by decide)
 ·omega
theorem steps_lt : ∀ (n : Nat) {r : Nat}, r < 2 ^ 32 → steps n r < 2 ^ 32
 | 0, _, h => h
 | n + 1, _, h => steps_lt n (bitStep_lt h)
theorem byte_lt (b : UInt8) : b.toNat < 2 ^ 32 := by have := b.toNat_lt; omega
theorem crcByte_lt {r b : Nat} (h : r < 2 ^ 32) (hb : b < 2 ^ 32) : crcByte r b < 2 ^ 32 := steps_lt 8 (Nat.xor_lt_two_pow h hb)
theorem crcFrom_lt : ∀ (l : List UInt8) {r : Nat}, r < 2 ^ 32 → crcFrom r l < 2 ^ 32
 | [], _, h => h
 | b :: l, _, h => crcFrom_lt l (crcByte_lt h (byte_lt b))
theorem crc_lt (l : List UInt8) : crc l < 2 ^ 32 := Nat.xor_lt_two_pow (by decide) (crcFrom_lt l (by decide))
def shiftTab : List Nat := [0x00000000, 0x105ec76f, 0x20bd8ede, 0x30e349b1, 0x417b1dbc, 0x5125dad3, 0x61c69362, 0x7198540d, 0x82f63b78, 0x92a8fc17, 0xa24bb5a6, 0xb21572c9, 0xc38d26c4, 0xd3d3e1ab, 0xe330a81a, 0xf36e6f75]
theorem tab_steps : ∀ q : Fin 16, steps 4 q.val = shiftTab.getD q.val 0 := by decide
theorem nibble (r : Nat) : steps 4 r = r / 16 ^^^ shiftTab.getD (r % 16) 0 := by
 have h : r = 2 ^ 4 * (r / 16) ^^^ r % 16 := by
  have h2 := Nat.two_pow_add_eq_or_of_lt (i := 4) (b := r % 16) (by omega) (r / 16)
  have h3 : 2 ^ 4 * (r / 16) ^^^ r % 16 = 2 ^ 4 * (r / 16) ||| r % 16 := by
   apply Nat.eq_of_testBit_eq
   intro j
   rw [Nat.testBit_xor, Nat.testBit_or, Nat.testBit_two_pow_mul]
   by_cases hj : j < 4
   ·simp [show ¬ 4 ≤ j by omega]
   ·have : (r % 16).testBit j = false := Nat.testBit_lt_two_pow (Nat.lt_of_lt_of_le (Nat.mod_lt _ (by decide)) (Nat.pow_le_pow_right (n := 2) (i := 4) (by decide) (by omega)))
    simp [this]
  rw [h3, ← h2]; omega
 conv => lhs; rw [h]
 rw [steps_xor, steps_shift, tab_steps ⟨r % 16, Nat.mod_lt _ (by decide)⟩]
theorem crcByte_nib (r b : Nat) : crcByte r b = steps 4 (steps 4 (r ^^^ b)) := steps_add 4 4 _
end Wire
namespace Go.Eng
open Go Go.RowKit Go.Proofs Wire
def tabV : List Value := shiftTab.map fun n : Nat => .int .u32 (n : Int)
theorem tabV_get {q : Nat} (h : q < 16) : tabV[q]? = some (.int .u32 ((shiftTab.getD q 0 : Nat) : Int)) := by
 have hl : q < shiftTab.length := h
 simp only [tabV, List.getElem?_map, List.getElem?_eq_getElem hl, Option.map_some, List.getD_eq_getElem?_getD, Option.getD_some]
theorem tab_lt {q : Nat} (h : q < 16) : shiftTab.getD q 0 < 2 ^ 32 := by
 have : ∀ q : _root_.Fin 16, shiftTab.getD q.val 0 < 2 ^ 32 := by decide
 exact this ⟨q, h⟩
theorem inot32 {r : Nat} (h : r < 2 ^ 32) : inot .u32 (r : Int) = ((4294967295 ^^^ r : Nat) : Int) := by
 show ixor .u32 ((4294967295 : Nat) : Int) (r : Int) = _
 rw [ixor32 (by decide) h]
theorem crcFrom_cons (r : Nat) (b : UInt8) (l : List UInt8) : crcFrom r (b :: l) = crcFrom (crcByte r b.toNat) l := rfl
theorem Sum_loop {s : BA} (hs : s.size < 4611686018427387904) {w0 : World} (hw : blkW w0 0 = some tabV) : ∀ (g i r : Nat), g + i = s.size → r < 2 ^ 32 → crcFrom 4294967295 (bts s) = crcFrom r ((bts s).drop i) →
  Sum_c0 s (r : Int) (i : Int) w0 (fun e W' => e = .returned (.int .i64 (crc (bts s) : Int)) ∧ Below w0.heap.size w0 W')
 | 0, i, r, hg, hr, H => by
  apply Sum_c0_vc
  refine ⟨fun h => absurd h (by omega), fun _ => ?_⟩
  rintro t rfl
  refine finPure ?_
  have h0 : (bts s).drop i = [] := List.drop_of_length_le (by rw [bts_len]; omega)
  rw [h0] at H
  have hx : 4294967295 ^^^ r < 2 ^ 32 := Nat.xor_lt_two_pow (by decide) hr
  rw [inot32 hr, wi64 (by omega), crc, H]; rfl
 | g + 1, i, r, hg, hr, H => by
  apply Sum_c0_vc
  have hlt : i < (bts s).length := by rw [bts_len]; omega
  have hd : (bts s).drop i = (bts s)[i] :: (bts s).drop (i + 1) := List.drop_eq_getElem_cons hlt
  rw [hd] at H
  obtain ⟨B, hB⟩ : ∃ B : UInt8, B = (bts s)[i] := ⟨_, rfl⟩
  rw [← hB] at H
  have hBl := B.toNat_lt
  refine ⟨fun _ => ⟨by omega, ?_⟩, fun h => absurd (by omega) h⟩
  rintro r1 hr1
  rw [bat_get hlt, ← hB, wu32 (by omega), ixor32 hr (by omega)] at hr1
  subst hr1
  have hx : r ^^^ B.toNat < 2 ^ 32 := Nat.xor_lt_two_pow hr (by omega)
  obtain ⟨x, hxd⟩ : ∃ x, x = r ^^^ B.toNat := ⟨_, rfl⟩
  rw [← hxd] at hx ⊢
  have half : ∀ x : Nat, x < 2 ^ 32 → ∀ K : Int → Prop, K (steps 4 x : Int) → (0 ≤ ((x : Int).tmod (16 : Int)) ∧ ((x : Int).tmod (16 : Int)) < 16) ∧
    ∃ (cw : List Value) (m1 : Int), blkW w0 0 = some cw ∧ cw[(Int.toNat ((x : Int).tmod (16 : Int)))]? = some (.int .u32 m1) ∧ ∀ r2 : Int, r2 = (ixor .u32 ((x : Int).fdiv (2 ^ 4)) m1) → K r2 := by
   intro x hx K hK
   have hq : x % 16 < 16 := Nat.mod_lt _ (by decide)
   have e1 : (x : Int).tmod 16 = ((x % 16 : Nat) : Int) := tmod_nat x 16
   have e2 : (x : Int).fdiv (2 ^ 4) = ((x / 16 : Nat) : Int) := fdiv_nat x 16
   rw [e1, e2, Int.toNat_natCast]
   refine ⟨by omega, tabV, _, hw, tabV_get hq, ?_⟩
   rintro r2 rfl
   rw [ixor32 (by omega) (tab_lt hq), ← nibble]; exact hK
  refine (half x hx (fun r2 => _) ?_)
  refine (half (steps 4 x) (steps_lt 4 hx) (fun r3 => _) ?_)
  rintro i1 rfl
  have ei : IntKind.i64.wrap ((i : Int) + 1) = ((i + 1 : Nat) : Int) := by rw [wi64 (by omega)]; omega
  rw [ei]
  have hc : steps 4 (steps 4 x) = crcByte r B.toNat := by rw [crcByte_nib, hxd]
  rw [hc]
  exact Sum_loop hs hw g (i + 1) _ (by omega) (crcByte_lt hr (byte_lt B)) (by rw [H, crcFrom_cons])
theorem Sum_c (s : BA) (hs : s.size < 4611686018427387904) : PureG TP 86 ⟨[.string s]⟩ 0 tabV (.int .i64 (crc (bts s) : Int)) :=
 fun W hw => Sum_vc s (Mem.start [] W) (Sum_loop hs hw s.size 0 4294967295 (by omega) (by decide) rfl)
variable {P : Program} {R : Ending → World → Prop} {S : List Nat} {w0 W : World} {lk : Lk} {tp bp ap : OA} {tc bc ac : Nat} {K K' : Value → SHeap → Prop} {args : Array Value} {g : FuncId}
set_option maxRecDepth 100000
theorem framing_vc (s : BA) (e : Int) (hm : Mem [] [] w0 W)
 (H :
 CallH TP 86 ⟨[.string s]⟩ [] [] w0 (fun v L' => ∃ r1, v = IV r1 ∧ L' = [] ∧
 CallH TP 48 ⟨[IV r1]⟩ [] [] w0 (fun v L' => ∃ r21 r31, v = (.tuple #[.string r21, IV r31]) ∧ L' = [] ∧
 ((⟨#[1]⟩ : BA).size + s.size ≤ 9223372036854775807) ∧
 (((⟨#[1]⟩ : BA) ++ s).size + r21.size ≤ 9223372036854775807) ∧
 ∀ t4 : BA, t4 = (((⟨#[1]⟩ : BA) ++ s) ++ r21) →
 Fin R [] [] w0 (.string t4)))) :
 Calls TP 47 ⟨[.string s, IV e]⟩ W R:= by
 refine AtE.cs 17 Tryz.func47 hm (.ru 7 (.cl H ?_))
 rintro _ _ ⟨r1, rfl, rfl, H⟩
 refine .cl H ?_
 rintro _ _ ⟨r21, r31, rfl, rfl, H⟩
 refine .ru 9 (.concat (x := ⟨#[1]⟩) (y := s) (by kernel_rfl) H.1 ?_)
 replace H := H.2
 refine .ru 1 (.concat (x := ((⟨#[1]⟩ : BA) ++ s)) (y := r21) (by kernel_rfl) H.1 ?_)
 replace H := H.2
 refine .ru 1 (.letS 4 (n := (((⟨#[1]⟩ : BA) ++ s) ++ r21)) (by kernel_rfl) (fun t4 ht4 => ?_))
 replace H := H t4 ht4
 refine .ru 1 (.rt Tryz.func47 H)
abbrev recordH0 (B : Nat) (f : Fct) (ftp : OA) (ftc : Nat) (fbp : OA) (fbc : Nat) (fap : OA) (fac : Nat) : SHeap := [(B, .cells ⟨f.cells ftp ftc fbp fbc fap fac⟩ 38)]
abbrev recordA0 (f : Fct) (ftp : OA) (ftc : Nat) (fbp : OA) (fbc : Nat) (fap : OA) (fac : Nat) : Array Value := ⟨f.cells ftp ftc fbp fbc fap fac⟩
theorem record_vc (f : Fct) (ftp : OA) (ftc : Nat) (fbp : OA) (fbc : Nat) (fap : OA) (fac : Nat) (hm : Mem [] [] w0 W)
 (H :
 ∀ B : Nat,
 CallH TP 20 ⟨[.agg (recordA0 f ftp ftc fbp fbc fap fac)]⟩ (recordH0 B f ftp ftc fbp fbc fap fac) [] w0 (fun v L' => ∃ r1 r21, v = (.tuple #[.string r1, IV r21]) ∧ L' = (recordH0 B f ftp ftc fbp fbc fap fac) ∧
 CallH TP 91 ⟨[.string r1]⟩ (recordH0 B f ftp ftc fbp fbc fap fac) [] w0 (fun v L' => ∃ r31 r41, v = (.tuple #[.string r31, IV r41]) ∧ L' = (recordH0 B f ftp ftc fbp fbc fap fac) ∧
 CallH TP 47 ⟨[.string r31, IV r41]⟩ (recordH0 B f ftp ftc fbp fbc fap fac) [] w0 (fun v L' => ∃ r51, v = .string r51 ∧ L' = (recordH0 B f ftp ftc fbp fbc fap fac) ∧
 Fin R (recordH0 B f ftp ftc fbp fbc fap fac) [] w0 (.string r51))))) :
 Calls TP 54 ⟨[.agg (recordA0 f ftp ftc fbp fbc fap fac)]⟩ W R:= by
 refine AtE.cs 15 Tryz.func54 hm (.ru 2 (.nH (.cells (recordA0 f ftp ftc fbp fbc fap fac) 38) H fun B H => (.ru 4 (.ld 0 0 (.cl H ?_)))))
 rintro _ _ ⟨r1, r21, rfl, rfl, H⟩
 refine .ru 9 (.cl H ?_)
 rintro _ _ ⟨r31, r41, rfl, rfl, H⟩
 refine .ru 2 (.cl H ?_)
 rintro _ _ ⟨r51, rfl, rfl, H⟩
 refine .ru 2 (.rt Tryz.func54 H)
theorem zeros_vc (n : Int) (hm : Mem [] [] w0 W)
 (H :
 CallH TP 111 ⟨[.string (⟨#[0]⟩), IV n]⟩ [] [] w0 (fun v L' => ∃ r1, v = .string r1 ∧ L' = [] ∧
 Fin R [] [] w0 (.string r1))) :
 Calls TP 70 ⟨[IV n]⟩ W R:= by
 refine AtE.cs 5 Tryz.func70 hm (.ru 7 (.cl H ?_))
 rintro _ _ ⟨r1, rfl, rfl, H⟩
 refine .ru 2 (.rt Tryz.func70 H)
theorem size24_vc (n : Int) (hm : Mem [] [] w0 W)
 (H :
 CallH TP 17 ⟨[IV n, IV 1500]⟩ [] [] w0 (fun v L' => ∃ r1, v = IV r1 ∧ L' = [] ∧
 ∀ t2 : Int, t2 = (IntKind.i64.wrap ((64 : Int) + r1)) →
 Fin R [] [] w0 (IV t2))) :
 Calls TP 12 ⟨[IV n]⟩ W R:= by
 refine AtE.cs 6 Tryz.func12 hm (.ru 7 (.cl H ?_))
 rintro _ _ ⟨r1, rfl, rfl, H⟩
 refine .ru 2 (.lI 2 H fun t2 H => (.ru 1 (.rt Tryz.func12 H)))
theorem pick24_vc (cv n : Int) (hm : Mem [] [] w0 W)
 (H :
 Br (cv < 0)
 (∀ cv1 : Int, cv1 = (IntKind.i64.wrap (0 - (IntKind.i64.wrap (cv + (1 : Int))))) →
 (n ≠ 0) ∧
 ∀ t4 : Int, t4 = (cv1.tmod n) →
 Fin R [] [] w0 (IV t4))
 ((n ≠ 0) ∧
 ∀ t41 : Int, t41 = (cv.tmod n) →
 Fin R [] [] w0 (IV t41))) :
 Calls TP 17 ⟨[IV cv, IV n]⟩ W R:= by
 refine AtE.cs 13 Tryz.func17 hm (.ru 10 (.sP 6 H (fun H => ?_) fun H => ?_))
 ·refine .ru 6 (.lI 0 H fun cv1 H => (.ru 5 (.rem (kd := .i64) (x := cv1) (y := n) (by kernel_rfl) H.1 ?_)))
  replace H := H.2
  refine .ru 1 (.lI 4 H fun t4 H => (.ru 1 (.rt Tryz.func17 H)))
 ·refine .ru 6 (.rem (kd := .i64) (x := cv) (y := n) (by kernel_rfl) H.1 ?_)
  replace H := H.2
  refine .ru 1 (.lI 4 H fun t41 H => (.ru 1 (.rt Tryz.func17 H)))
theorem P_int (n : Int) : (Wire.enc n).length ≤ 1100 := by have := enc_len n; omega
theorem P_str {s : BA} (h : s.size ≤ 1000) : (encS (bts s)).length ≤ 1100 := by
 have := encS_len (bts s); rw [bts_len] at this; omega
theorem P_top {l : List BA} (h : topicsOk l = true) : (putV .topics l).length ≤ 1100 := by
 obtain ⟨h1, h2⟩ := topicsOk_all h
 have h3 := flat_len (e := fun s : BA => encS (bts s)) (m := 40) l (fun x hx => by
  have := nameOk_sz (h2 x hx); have h2 := encS_len (bts x); rw [bts_len] at h2; omega)
 have h4 := enc_len (l.length : Int)
 show (Wire.enc (l.length : Int) ++ l.flatMap fun s : BA => encS (bts s)).length ≤ _
 have h5 : 40 * l.length ≤ 40 * 4 := Nat.mul_le_mul_left _ h1
 rw [List.length_append]; omega
theorem P_blk {l : List Blk} (h : listOk l = true) : (putV .blocks l).length ≤ 30100 := by
 have h1 := encL_le h
 have h2 := encS_len (encL l)
 show (encS (encL l)).length ≤ _
 omega
theorem P_lab {l : Lab} (h : l.ok = true) : (putV .label l).length ≤ 1100 := by
 obtain ⟨v1, v2, v3, v4, v5⟩ := Lab.ok_vOk h
 have h2 := flat_len (e := Wire.enc) (m := 10) l.after (fun x _ => enc_len x)
 have h3 := enc_len l.unt; have h4 := enc_len (l.after.length : Int); have h5 := enc_len l.appr; have h6 := enc_len l.den
 show (Wire.enc l.unt ++ (Wire.enc (l.after.length : Int) ++ (l.after.flatMap Wire.enc ++ (Wire.enc l.appr ++ Wire.enc l.den)))).length ≤ _
 simp only [List.length_append]; omega
theorem P_name {s : BA} (h : nameOk s = true) : (encS (bts s)).length ≤ 1100 := P_str (by have := nameOk_sz h; omega)
theorem P_fill {s : BA} (h : fillOk s = true) : (encS (bts s)).length ≤ 1100 := P_str (by have := fillOk_sz h; omega)
theorem encF_small {f : Fct} (h : f.ok = true) : (encF f).length ≤ 60000 := by
 have hv : f.vals = true := by rw [Fct.ok] at h; simp only [Bool.and_eq_true] at h; exact h.2.1
 have hk := vals_kind hv
 have q1 := enc_len f.n; have q2 := enc_len f.time; have q3 := enc_len f.kind
 have go : ∀ (l : List Fld), kfields f.kind = l → (l.flatMap f.put).length ≤ 50000 → (encF f).length ≤ 60000 := fun l e hl => by
  rw [encF, Fct.head, e]; simp only [List.length_append]; omega
 have hk : f.kind = 1 ∨ f.kind = 2 ∨ f.kind = 3 ∨ f.kind = 4 ∨ f.kind = 5 ∨ f.kind = 6 ∨ f.kind = 7 ∨ f.kind = 8 ∨ f.kind = 9 ∨ f.kind = 10 := by omega
 unfold Fct.vals at hv
 rcases hk with hk | hk | hk | hk | hk | hk | hk | hk | hk | hk <;> simp only [hk, reduceIte, Int.reduceEq, Fct.stOk, Fct.rvOk, Fct.coOk, Fct.paOk, Bool.and_eq_true, decide_eq_true_eq] at hv
 ·refine go [.story, .lang, .rev, .base, .title, .author, .topics, .blocks, .label] (by rw [hk]; rfl) ?_
  obtain ⟨h1, h2, h3, h4, h5, h6, h7, h8, h9⟩ := hv
  have b1 : (f.put .story).length ≤ 1100 := P_int _; have b2 : (f.put .lang).length ≤ 1100 := P_name h2; have b3 : (f.put .rev).length ≤ 1100 := P_int _; have b4 : (f.put .base).length ≤ 1100 := P_int _
  have b5 : (f.put .title).length ≤ 1100 := P_fill h5; have b6 : (f.put .author).length ≤ 1100 := P_name h6; have b7 : (f.put .topics).length ≤ 1100 := P_top h7; have b8 : (f.put .blocks).length ≤ 30100 := P_blk h8; have b9 : (f.put .label).length ≤ 1100 := P_lab h9
  simp only [List.flatMap_cons, List.flatMap_nil, List.length_append, List.length_nil]; omega
 ·refine go [.story, .editor] (by rw [hk]; rfl) ?_
  have b1 : (f.put .story).length ≤ 1100 := P_int _; have b2 : (f.put .editor).length ≤ 1100 := P_int _
  simp only [List.flatMap_cons, List.flatMap_nil, List.length_append, List.length_nil]; omega
 ·refine go [.story, .label] (by rw [hk]; rfl) ?_
  have b1 : (f.put .story).length ≤ 1100 := P_int _; have b2 : (f.put .label).length ≤ 1100 := P_lab hv.2
  simp only [List.flatMap_cons, List.flatMap_nil, List.length_append, List.length_nil]; omega
 ·refine go [.story, .lang, .block, .sentence, .text] (by rw [hk]; rfl) ?_
  obtain ⟨h1, h2, h3, h4, h5⟩ := hv
  have b1 : (f.put .story).length ≤ 1100 := P_int _; have b2 : (f.put .lang).length ≤ 1100 := P_name h2; have b3 : (f.put .block).length ≤ 1100 := P_int _; have b4 : (f.put .sentence).length ≤ 1100 := P_int _; have b5 : (f.put .text).length ≤ 1100 := P_fill h5
  simp only [List.flatMap_cons, List.flatMap_nil, List.length_append, List.length_nil]; omega
 ·refine go [.story, .text] (by rw [hk]; rfl) ?_
  have b1 : (f.put .story).length ≤ 1100 := P_int _; have b2 : (f.put .text).length ≤ 1100 := P_fill hv.2
  simp only [List.flatMap_cons, List.flatMap_nil, List.length_append, List.length_nil]; omega
 ·refine go [.story] (by rw [hk]; rfl) ?_
  have b1 : (f.put .story).length ≤ 1100 := P_int _
  simp only [List.flatMap_cons, List.flatMap_nil, List.length_append, List.length_nil]; omega
 ·refine go [.name, .text] (by rw [hk]; rfl) ?_
  have b1 : (f.put .name).length ≤ 1100 := P_name hv.1; have b2 : (f.put .text).length ≤ 1100 := P_str (s := f.text) (by have := srcOk_sz hv.2; omega)
  simp only [List.flatMap_cons, List.flatMap_nil, List.length_append, List.length_nil]; omega
 ·refine go [.partner, .cls, .unt] (by rw [hk]; rfl) ?_
  have b1 : (f.put .partner).length ≤ 1100 := P_int _; have b2 : (f.put .cls).length ≤ 1100 := P_int _; have b3 : (f.put .unt).length ≤ 1100 := P_int _
  simp only [List.flatMap_cons, List.flatMap_nil, List.length_append, List.length_nil]; omega
 ·refine go [.partner, .unt] (by rw [hk]; rfl) ?_
  have b1 : (f.put .partner).length ≤ 1100 := P_int _; have b2 : (f.put .unt).length ≤ 1100 := P_int _
  simp only [List.flatMap_cons, List.flatMap_nil, List.length_append, List.length_nil]; omega
 ·refine go [.story] (by rw [hk]; rfl) ?_
  have b1 : (f.put .story).length ≤ 1100 := P_int _
  simp only [List.flatMap_cons, List.flatMap_nil, List.length_append, List.length_nil]; omega
def frm (s : List UInt8) : List UInt8 := 1 :: (s ++ Wire.enc (crc s : Int))
def recL (f : Fct) : List UInt8 := frm (encS (encF f))
def headL (g : Int) : List UInt8 := frm (Wire.enc g)
theorem frm_len (s : List UInt8) : (frm s).length ≤ s.length + 11 := by
 have := enc_len (crc s : Int)
 rw [frm]; simp only [List.length_cons, List.length_append]; omega
theorem framing_c {s : BA} {e : Int} (hs : s.size < 4611686018427387904) : PureG TP 47 ⟨[.string s, .int .i64 e]⟩ 0 tabV (.string (ba (frm (bts s)))) := by
 intro W hg
 refine framing_vc s e (Mem.start [] W) (CallH.pureG (Sum_c s hs) (by simp) hg ⟨_, rfl, rfl, ?_⟩)
 have hc := crc_lt (bts s)
 have h10 := enc_len (crc (bts s) : Int)
 have hz : (encB (crc (bts s) : Int)).size ≤ 10 := by rw [encB_size]; exact h10
 refine CallH.pure (PutInt_c _) ⟨encB (crc (bts s) : Int), 0, if_pos (okI (by omega)), rfl, by show 1 + s.size ≤ _; omega, by rw [ByteArray.size_append]; show 1 + s.size + _ ≤ _; omega, fun t ht => finPure ?_⟩
 rw [ht]
 refine congrArg Value.string ?_
 apply bts_inj
 rw [bts_append, bts_append, encB_bts]
 exact Eq.trans rfl (bts_mk (frm (bts s))).symm
theorem record_c {f : Fct} (hg : blkW W 0 = some tabV) (h : FAt (lkW W) f tp tc bp bc ap ac) (hok : f.ok = true) :
  PW TP 54 ⟨[.agg ⟨f.cells tp tc bp bc ap ac⟩]⟩ W (.string (ba (recL f))) := by
 refine record_vc f tp tc bp bc ap ac (Mem.start [] W) fun B => CallH.pw (fun W' hm' => fEncode_c (h.mono (lkW_kept hm'))) ⟨ba (encF f), 0, enc_ok hok, rfl, ?_⟩
 have hs := encF_small hok
 have hz : (ba (encF f)).size ≤ 65536 := by rw [ba_size]; omega
 refine CallH.pure (PutString_c _) ⟨encSB (ba (encF f)), 0, if_pos hz, rfl, ?_⟩
 have he : (encSB (ba (encF f))).size < 4611686018427387904 := by
  have := encS_len (encF f)
  rw [← bts_len, encSB_bts, bts_mk]; omega
 refine CallH.pureG (framing_c he) (by simp) hg ⟨_, rfl, rfl, finPW ?_⟩
 rw [encSB_bts, bts_mk]; rfl
theorem pick24_c (c : Int) (n : Nat) (hc : i64 c) (hn : n ≠ 0) : PureC TP 17 ⟨[.int .i64 c, .int .i64 n]⟩ (.int .i64 ((pickN c % n : Nat) : Int)) := by
 unfold i64 at hc
 refine fun W => pick24_vc c n (Mem.start [] W) ⟨fun h => ?_, fun h => ⟨by omega, ?_⟩⟩
 ·rintro c1 rfl
  refine ⟨by omega, ?_⟩
  rintro t rfl
  refine finPure ?_
  have e : IntKind.i64.wrap (0 - IntKind.i64.wrap (c + 1)) = ((pickN c : Nat) : Int) := by
   rw [wi64 (x := c + 1) (by omega), wi64 (by omega), pickN, if_pos h]; omega
  rw [e, tmod_nat]
 ·rintro t rfl
  refine finPure ?_
  have e : c = ((pickN c : Nat) : Int) := by rw [pickN, if_neg h]; omega
  rw [e, tmod_nat, ← e]
def sizeN (n : Int) : Nat := 64 + pickN n % 1500
theorem size24_c (n : Int) (hn : i64 n) : PureC TP 12 ⟨[.int .i64 n]⟩ (.int .i64 (sizeN n : Int)) := by
 refine fun W => size24_vc n (Mem.start [] W) (CallH.pure (pick24_c n 1500 hn (by decide)) ⟨_, rfl, rfl, ?_⟩)
 rintro _ rfl
 have := Nat.mod_lt (pickN n) (show 1500 > 0 by decide)
 refine finPure ?_
 rw [wi64 (by omega), sizeN]; congr 1
theorem repeat_zero (n : Nat) : Lib.repeatL [0] n = List.replicate n (0 : UInt8) := by
 induction n with
 | zero => rfl
 | succ n ih => rw [Lib.repeatL, List.replicate_succ, ih]; rfl
theorem zeros_c (n : Nat) (hn : n ≤ 140737488355328) : PureC TP 70 ⟨[.int .i64 (n : Int)]⟩ (.string (ba (List.replicate n 0))) := by
 refine fun W => zeros_vc n (Mem.start [] W) ?_
 have hr : PureC TP 111 ⟨[.string (⟨#[0]⟩), .int .i64 (n : Int)]⟩ (.string ⟨(Lib.repeatL [0] n).toArray⟩) := fun W => (Tryz.strings_Repeat ⟨#[0]⟩ n W (by omega) (by show 1 * n ≤ _; omega)).mono fun e w' hh => hh
 rw [repeat_zero] at hr
 exact CallH.pure hr ⟨_, rfl, rfl, finPure rfl⟩
set_option maxRecDepth 100000
abbrev few24A0 (f : Fct) (ftp : OA) (ftc : Nat) (fbp : OA) (fbc : Nat) (fap : OA) (fac : Nat) : Array Value := #[IV f.n, IV f.time, IV f.kind, IV f.story, .string f.lang, IV f.rev, IV f.base, .string (f.title.extract 0 (Int.toNat (if (60 : Int) < (f.title.size : Int) then (60 : Int) else (f.title.size : Int)))), .string f.author, .slice ftp f.topics.length ftc, .slice fbp (Int.toNat (2 : Int)) fbc, IV f.lab.unt, .slice fap f.lab.after.length fac, IV f.lab.appr, IV f.lab.den, IV f.editor, IV f.block, IV f.sentence, .string (f.text.extract 0 (Int.toNat (if (60 : Int) < (f.text.size : Int) then (60 : Int) else (f.text.size : Int)))), .string f.name, IV f.partner, IV f.cls, IV f.unt]
abbrev few24A1 (f : Fct) (ftp : OA) (ftc : Nat) (fbp : OA) (fbc : Nat) (fap : OA) (fac : Nat) : Array Value := #[IV f.n, IV f.time, IV f.kind, IV f.story, .string f.lang, IV f.rev, IV f.base, .string (f.title.extract 0 (Int.toNat (if (60 : Int) < (f.title.size : Int) then (60 : Int) else (f.title.size : Int)))), .string f.author, .slice ftp f.topics.length ftc, .slice fbp f.blocks.length fbc, IV f.lab.unt, .slice fap f.lab.after.length fac, IV f.lab.appr, IV f.lab.den, IV f.editor, IV f.block, IV f.sentence, .string (f.text.extract 0 (Int.toNat (if (60 : Int) < (f.text.size : Int) then (60 : Int) else (f.text.size : Int)))), .string f.name, IV f.partner, IV f.cls, IV f.unt]
abbrev few24A2 (f : Fct) (ftp : OA) (ftc : Nat) (fbp : OA) (fbc : Nat) (fap : OA) (fac : Nat) : Array Value := ⟨f.cells ftp ftc fbp fbc fap fac⟩
theorem few24_vc (f : Fct) (ftp : OA) (ftc : Nat) (fbp : OA) (fbc : Nat) (fap : OA) (fac : Nat) (hm : Mem [] [] w0 W)
 (H :
 ∀ B B1 : Nat,
 Br ((2 : Int) < (f.blocks.length : Int))
 ((0 ≤ (2 : Int) ∧ (2 : Int) ≤ (fbc : Int)) ∧
 (0 ≤ (0 : Int) ∧ (0 : Int) ≤ (if (60 : Int) < (f.text.size : Int) then (60 : Int) else (f.text.size : Int)) ∧ (if (60 : Int) < (f.text.size : Int) then (60 : Int) else (f.text.size : Int)) ≤ f.text.size) ∧
 (0 ≤ (0 : Int) ∧ (0 : Int) ≤ (if (60 : Int) < (f.title.size : Int) then (60 : Int) else (f.title.size : Int)) ∧ (if (60 : Int) < (f.title.size : Int) then (60 : Int) else (f.title.size : Int)) ≤ f.title.size) ∧
 Fin R [(B, .cells (few24A0 f ftp ftc fbp fbc fap fac) 38), (B1, .cells (few24A0 f ftp ftc fbp fbc fap fac) 38)] [] w0 (.agg (few24A0 f ftp ftc fbp fbc fap fac)))
 ((0 ≤ (0 : Int) ∧ (0 : Int) ≤ (if (60 : Int) < (f.text.size : Int) then (60 : Int) else (f.text.size : Int)) ∧ (if (60 : Int) < (f.text.size : Int) then (60 : Int) else (f.text.size : Int)) ≤ f.text.size) ∧
 (0 ≤ (0 : Int) ∧ (0 : Int) ≤ (if (60 : Int) < (f.title.size : Int) then (60 : Int) else (f.title.size : Int)) ∧ (if (60 : Int) < (f.title.size : Int) then (60 : Int) else (f.title.size : Int)) ≤ f.title.size) ∧
 Fin R [(B, .cells (few24A1 f ftp ftc fbp fbc fap fac) 38), (B1, .cells (few24A1 f ftp ftc fbp fbc fap fac) 38)] [] w0 (.agg (few24A1 f ftp ftc fbp fbc fap fac)))) :
 Calls TP 14 ⟨[.agg (few24A2 f ftp ftc fbp fbc fap fac)]⟩ W R:= by
 refine AtE.cs 28 Tryz.func14 hm (.ru 2 (.nH (.cells (few24A2 f ftp ftc fbp fbc fap fac) 38) H fun B H => (.nH (.cells #[IV 0, IV 0, IV 0, IV 0, .string (⟨#[]⟩), IV 0, IV 0, .string (⟨#[]⟩), .string (⟨#[]⟩), .slice none 0 0, .slice none 0 0, IV 0, .slice none 0 0, IV 0, IV 0, IV 0, IV 0, IV 0, .string (⟨#[]⟩), .string (⟨#[]⟩), IV 0, IV 0, IV 0] 38) H fun B1 H => (.ru 5 (.ld 0 10 (.ru 3 (.sP 6 H (fun H => ?_) fun H => ?_)))))))
 ·refine .ru 3 (.ld 0 10 (.sliceU (E := 149) (p := fbp) (len := f.blocks.length) (cap := fbc) (sz := 9) (lo := none) (hi := some (IV 2)) (y := (2 : Int)) (by kernel_rfl) (.inr rfl) (.inl ⟨.i64, rfl⟩) H.1 ?_))
  replace H := H.2
  refine .ru 1 (.st 0 10 (.ru 4 (.ld 0 18 (.ru 1 (.ld 0 18 (.ru 2 (.sliceS (s := f.text) (lo := none) (hi := some (IV (if (60 : Int) < (f.text.size : Int) then (60 : Int) else (f.text.size : Int)))) (a := (0 : Int)) (b := (if (60 : Int) < (f.text.size : Int) then (60 : Int) else (f.text.size : Int))) (by kernel_rfl) (.inr ⟨rfl, rfl⟩) (.inl ⟨.i64, rfl⟩) H.1 ?_)))))))
  replace H := H.2
  refine .ru 1 (.st 0 18 (.ru 4 (.ld 0 7 (.ru 1 (.ld 0 7 (.ru 2 (.sliceS (s := f.title) (lo := none) (hi := some (IV (if (60 : Int) < (f.title.size : Int) then (60 : Int) else (f.title.size : Int)))) (a := (0 : Int)) (b := (if (60 : Int) < (f.title.size : Int) then (60 : Int) else (f.title.size : Int))) (by kernel_rfl) (.inr ⟨rfl, rfl⟩) (.inl ⟨.i64, rfl⟩) H.1 ?_)))))))
  replace H := H.2
  refine .ru 1 (.st 0 7 (.ru 3 (.ld 0 0 (.st 1 0 (.ru 1 (.retC 1 0 (a := 2) (T := 38) (v := .agg (few24A0 f ftp ftc fbp fbc fap fac)) Tryz.func14 (by kernel_rfl) (by kernel_rfl) H))))))
 ·refine .ru 5 (.ld 0 18 (.ru 1 (.ld 0 18 (.ru 2 (.sliceS (s := f.text) (lo := none) (hi := some (IV (if (60 : Int) < (f.text.size : Int) then (60 : Int) else (f.text.size : Int)))) (a := (0 : Int)) (b := (if (60 : Int) < (f.text.size : Int) then (60 : Int) else (f.text.size : Int))) (by kernel_rfl) (.inr ⟨rfl, rfl⟩) (.inl ⟨.i64, rfl⟩) H.1 ?_)))))
  replace H := H.2
  refine .ru 1 (.st 0 18 (.ru 4 (.ld 0 7 (.ru 1 (.ld 0 7 (.ru 2 (.sliceS (s := f.title) (lo := none) (hi := some (IV (if (60 : Int) < (f.title.size : Int) then (60 : Int) else (f.title.size : Int)))) (a := (0 : Int)) (b := (if (60 : Int) < (f.title.size : Int) then (60 : Int) else (f.title.size : Int))) (by kernel_rfl) (.inr ⟨rfl, rfl⟩) (.inl ⟨.i64, rfl⟩) H.1 ?_)))))))
  replace H := H.2
  refine .ru 1 (.st 0 7 (.ru 3 (.ld 0 0 (.st 1 0 (.ru 1 (.retC 1 0 (a := 2) (T := 38) (v := .agg (few24A1 f ftp ftc fbp fbc fap fac)) Tryz.func14 (by kernel_rfl) (by kernel_rfl) H))))))
theorem framedI_vc (s : BA) (atv : Int) (hm : Mem [] [] w0 W)
 (H :
 (0 ≤ atv ∧ atv < s.size) ∧
 Bn ((bat s atv) = (1 : Int))
 (Fin R [] [] w0 (.tuple #[IV 0, IV 0, .bool false]))
 (CallH TP 83 ⟨[.string s, IV (IntKind.i64.wrap (atv + (1 : Int)))]⟩ [] [] w0 (fun v L' => ∃ r1 r21 r31, v = (.tuple #[IV r1, IV r21, IV r31]) ∧ L' = [] ∧
 Bn (r31 = 0)
 (Fin R [] [] w0 (.tuple #[IV 0, IV 0, .bool false]))
 (CallH TP 83 ⟨[.string s, IV r21]⟩ [] [] w0 (fun v L' => ∃ r41 r51 r61, v = (.tuple #[IV r41, IV r51, IV r61]) ∧ L' = [] ∧
 Bn (r61 = 0)
 (Fin R [] [] w0 (.tuple #[IV 0, IV 0, .bool false]))
 ((0 ≤ (IntKind.i64.wrap (atv + (1 : Int))) ∧ (IntKind.i64.wrap (atv + (1 : Int))) ≤ r21 ∧ r21 ≤ s.size) ∧
 CallH TP 86 ⟨[.string (s.extract (Int.toNat (IntKind.i64.wrap (atv + (1 : Int)))) (Int.toNat r21))]⟩ [] [] w0 (fun v L' => ∃ r71, v = IV r71 ∧ L' = [] ∧
 Bn (r41 = r71)
 (Fin R [] [] w0 (.tuple #[IV 0, IV 0, .bool false]))
 (Fin R [] [] w0 (.tuple #[IV r1, IV r51, .bool true]))))))))) :
 Calls TP 82 ⟨[.string s, IV atv, .func (.func 83) #[] #[]]⟩ W R:= by
 refine AtE.cs 54 Tryz.func82 hm (.ru 15 (.indexS (s := s) (kd := .i64) (i := atv) (by kernel_rfl) H.1 ?_))
 replace H := H.2
 refine .ru 2 (.sN 18 H (fun H => ?_) fun H => ?_)
 ·refine .ru 8 (.rt Tryz.func82 H)
 ·refine .ru 8 (.cl H ?_)
  rintro _ _ ⟨r1, r21, r31, rfl, rfl, H⟩
  refine .ru 14 (.sN 30 H (fun H => ?_) fun H => ?_)
  ·refine .ru 8 (.rt Tryz.func82 H)
  ·refine .ru 6 (.cl H ?_)
   rintro _ _ ⟨r41, r51, r61, rfl, rfl, H⟩
   refine .ru 14 (.sN 41 H (fun H => ?_) fun H => ?_)
   ·refine .ru 18 (.rt Tryz.func82 H)
   ·refine .ru 5 (.sliceS (s := s) (lo := some (IV (IntKind.i64.wrap (atv + (1 : Int))))) (hi := some (IV r21)) (a := (IntKind.i64.wrap (atv + (1 : Int)))) (b := r21) (by kernel_rfl) (.inl ⟨.i64, rfl⟩) (.inl ⟨.i64, rfl⟩) H.1 ?_)
    replace H := H.2
    refine .cl H ?_
    rintro _ _ ⟨r71, rfl, rfl, H⟩
    refine .ru 3 (.sN 50 H (fun H => ?_) fun H => ?_)
    ·refine .ru 8 (.rt Tryz.func82 H)
    ·refine .ru 10 (.rt Tryz.func82 H)
theorem framedS_vc (s : BA) (atv : Int) (hm : Mem [] [] w0 W)
 (H :
 (0 ≤ atv ∧ atv < s.size) ∧
 Bn ((bat s atv) = (1 : Int))
 (Fin R [] [] w0 (.tuple #[.string (⟨#[]⟩), IV 0, .bool false]))
 (CallH TP 122 ⟨[.string s, IV (IntKind.i64.wrap (atv + (1 : Int)))]⟩ [] [] w0 (fun v L' => ∃ r1 r21 r31, v = (.tuple #[.string r1, IV r21, IV r31]) ∧ L' = [] ∧
 Bn (r31 = 0)
 (Fin R [] [] w0 (.tuple #[.string (⟨#[]⟩), IV 0, .bool false]))
 (CallH TP 83 ⟨[.string s, IV r21]⟩ [] [] w0 (fun v L' => ∃ r41 r51 r61, v = (.tuple #[IV r41, IV r51, IV r61]) ∧ L' = [] ∧
 Bn (r61 = 0)
 (Fin R [] [] w0 (.tuple #[.string (⟨#[]⟩), IV 0, .bool false]))
 ((0 ≤ (IntKind.i64.wrap (atv + (1 : Int))) ∧ (IntKind.i64.wrap (atv + (1 : Int))) ≤ r21 ∧ r21 ≤ s.size) ∧
 CallH TP 86 ⟨[.string (s.extract (Int.toNat (IntKind.i64.wrap (atv + (1 : Int)))) (Int.toNat r21))]⟩ [] [] w0 (fun v L' => ∃ r71, v = IV r71 ∧ L' = [] ∧
 Bn (r41 = r71)
 (Fin R [] [] w0 (.tuple #[.string (⟨#[]⟩), IV 0, .bool false]))
 (Fin R [] [] w0 (.tuple #[.string r1, IV r51, .bool true]))))))))) :
 Calls TP 121 ⟨[.string s, IV atv, .func (.func 122) #[] #[]]⟩ W R:= by
 refine AtE.cs 54 Tryz.func121 hm (.ru 15 (.indexS (s := s) (kd := .i64) (i := atv) (by kernel_rfl) H.1 ?_))
 replace H := H.2
 refine .ru 2 (.sN 18 H (fun H => ?_) fun H => ?_)
 ·refine .ru 8 (.rt Tryz.func121 H)
 ·refine .ru 8 (.cl H ?_)
  rintro _ _ ⟨r1, r21, r31, rfl, rfl, H⟩
  refine .ru 14 (.sN 30 H (fun H => ?_) fun H => ?_)
  ·refine .ru 8 (.rt Tryz.func121 H)
  ·refine .ru 6 (.cl H ?_)
   rintro _ _ ⟨r41, r51, r61, rfl, rfl, H⟩
   refine .ru 14 (.sN 41 H (fun H => ?_) fun H => ?_)
   ·refine .ru 18 (.rt Tryz.func121 H)
   ·refine .ru 5 (.sliceS (s := s) (lo := some (IV (IntKind.i64.wrap (atv + (1 : Int))))) (hi := some (IV r21)) (a := (IntKind.i64.wrap (atv + (1 : Int)))) (b := r21) (by kernel_rfl) (.inl ⟨.i64, rfl⟩) (.inl ⟨.i64, rfl⟩) H.1 ?_)
    replace H := H.2
    refine .cl H ?_
    rintro _ _ ⟨r71, rfl, rfl, H⟩
    refine .ru 3 (.sN 50 H (fun H => ?_) fun H => ?_)
    ·refine .ru 8 (.rt Tryz.func121 H)
    ·refine .ru 10 (.rt Tryz.func121 H)
def rdStrB (l : List UInt8) : Option (BA × Nat) := (rdStr l).map fun p => (⟨p.1.toArray⟩, p.2)
def frmR {α : Type} (rd : List UInt8 → Option (α × Nat)) : List UInt8 → Option (α × Nat)
 | [] => none
 | b :: r => if b = 1 then (match rd r with
   | none => none
   | some (v, k) => (match rdInt (r.drop k) with
    | none => none
    | some (c, k2) => if c = (crc (r.take k) : Int) then some (v, 1 + k + k2) else none)) else none
theorem drop_cons {s : List UInt8} {a : Nat} (h : a < s.length) : ∃ b r, s.drop a = b :: r ∧ s.drop (a + 1) = r ∧ s[a] = b := by
 refine ⟨s[a], s.drop (a + 1), List.drop_eq_getElem_cons h, rfl, rfl⟩
theorem bat_one {s : BA} {a : Nat} (h : a < (bts s).length) : bat s (a : Int) = 1 ↔ (bts s)[a] = 1 := by
 rw [bat_get h]
 constructor
 ·intro e
  have : ((bts s)[a]).toNat = 1 := by
   have : (((bts s)[a]).toNat : Int) = 1 := e
   omega
  exact UInt8.toNat_inj.1 this
 ·intro e
  show (((bts s)[a]).toNat : Int) = 1
  rw [e]; rfl
theorem framedI_c {s : BA} {a : Nat} (hs : s.size < 4611686018427387904) (ha : a < s.size) : PureG TP 82 ⟨[.string s, .int .i64 (a : Int), .func (.func 83) #[] #[]]⟩ 0 tabV
  (match frmR rdInt ((bts s).drop a) with | none => .tuple #[.int .i64 0, .int .i64 0, .bool false] | some (v, k) => .tuple #[.int .i64 v, .int .i64 ((a + k : Nat) : Int), .bool true]) := by
 intro W hg
 have hl : a < (bts s).length := ha
 obtain ⟨b, r, e1, e2, e3⟩ := drop_cons hl
 rw [e1]
 refine framedI_vc s a (Mem.start [] W) ⟨by omega, fun h1 => finPure ?_, fun h1 => ?_⟩
 ·rw [bat_one hl, e3] at h1
  rw [frmR, if_neg h1]
 ·rw [bat_one hl, e3] at h1
  rw [frmR, if_pos h1]
  rw [wi64 (by omega), show (a : Int) + 1 = ((a + 1 : Nat) : Int) by omega]
  refine CallH.pure (Int_c s _ hs) ?_
  have ea := int_ans (s := s) (st := (a + 1, 0)) (by omega) rfl
  simp only [e2] at ea
  rw [ea]
  cases hr : rdInt r with
  | none => exact ⟨_, _, _, rfl, rfl, fun _ => finPure rfl, fun h => absurd h (by decide)⟩
  | some p =>
   obtain ⟨v, k⟩ := p
   have hk := (rdInt_inv hr).2.1
   have hrl : r.length = (bts s).length - (a + 1) := by rw [← e2, List.length_drop]
   refine ⟨_, _, _, rfl, rfl, fun h => absurd rfl h, fun _ => ?_⟩
   refine CallH.pure (Int_c s _ hs) ?_
   have e4 : (bts s).drop (a + 1 + k) = r.drop k := by rw [← e2, List.drop_drop]
   have ec := int_ans (s := s) (st := (a + 1 + k, 0)) (by show a + 1 + k ≤ _; omega) rfl
   simp only [e4] at ec
   rw [ec]
   cases hc : rdInt (r.drop k) with
   | none => exact ⟨_, _, _, rfl, rfl, fun _ => finPure (by simp only [hc]), fun h => absurd h (by decide)⟩
   | some q =>
    obtain ⟨c, k2⟩ := q
    refine ⟨_, _, _, rfl, rfl, fun h => absurd rfl h, fun _ => ⟨by rw [bts_len] at hl hrl; omega, ?_⟩⟩
    have e5 : bts (s.extract (Int.toNat ((a + 1 : Nat) : Int)) (Int.toNat ((a + 1 + k : Nat) : Int))) = r.take k := by
     rw [bts_extract, Int.toNat_natCast, Int.toNat_natCast, e2]; congr 1; omega
    refine CallH.pureG (Sum_c _ (by rw [ByteArray.size_extract]; omega)) (by simp) hg ⟨_, rfl, rfl, ?_⟩
    rw [e5]
    refine ⟨fun h => finPure ?_, fun h => finPure ?_⟩
    ·simp only [hc, if_neg h]
    ·simp only [hc, if_pos h, show a + (1 + k + k2) = a + 1 + k + k2 by omega]
theorem framedS_c {s : BA} {a : Nat} (hs : s.size < 4611686018427387904) (ha : a < s.size) : PureG TP 121 ⟨[.string s, .int .i64 (a : Int), .func (.func 122) #[] #[]]⟩ 0 tabV
  (match frmR rdStrB ((bts s).drop a) with | none => .tuple #[.string ⟨#[]⟩, .int .i64 0, .bool false] | some (v, k) => .tuple #[.string v, .int .i64 ((a + k : Nat) : Int), .bool true]) := by
 intro W hg
 have hl : a < (bts s).length := ha
 obtain ⟨b, r, e1, e2, e3⟩ := drop_cons hl
 rw [e1]
 refine framedS_vc s a (Mem.start [] W) ⟨by omega, fun h1 => finPure ?_, fun h1 => ?_⟩
 ·rw [bat_one hl, e3] at h1
  rw [frmR, if_neg h1]
 ·rw [bat_one hl, e3] at h1
  rw [frmR, if_pos h1]
  rw [wi64 (by omega), show (a : Int) + 1 = ((a + 1 : Nat) : Int) by omega]
  refine CallH.pure (String_c s _ hs) ?_
  have ea := str_ans (s := s) (st := (a + 1, 0)) (by omega) rfl
  simp only [e2] at ea
  rw [ea]
  cases hr : rdStr r with
  | none =>
   have hb : rdStrB r = none := by rw [rdStrB, hr]; rfl
   rw [hb]
   exact ⟨_, _, _, rfl, rfl, fun _ => finPure rfl, fun h => absurd h (by decide)⟩
  | some p =>
   obtain ⟨v, k⟩ := p
   have hb : rdStrB r = some (⟨v.toArray⟩, k) := by rw [rdStrB, hr]; rfl
   rw [hb]
   have hk := (rdStr_inv hr).2.1
   have hrl : r.length = (bts s).length - (a + 1) := by rw [← e2, List.length_drop]
   refine ⟨_, _, _, rfl, rfl, fun h => absurd rfl h, fun _ => ?_⟩
   refine CallH.pure (Int_c s _ hs) ?_
   have e4 : (bts s).drop (a + 1 + k) = r.drop k := by rw [← e2, List.drop_drop]
   have ec := int_ans (s := s) (st := (a + 1 + k, 0)) (by show a + 1 + k ≤ _; omega) rfl
   simp only [e4] at ec
   rw [ec]
   cases hc : rdInt (r.drop k) with
   | none => exact ⟨_, _, _, rfl, rfl, fun _ => finPure (by simp only [hc]), fun h => absurd h (by decide)⟩
   | some q =>
    obtain ⟨c, k2⟩ := q
    refine ⟨_, _, _, rfl, rfl, fun h => absurd rfl h, fun _ => ⟨by rw [bts_len] at hl hrl; omega, ?_⟩⟩
    have e5 : bts (s.extract (Int.toNat ((a + 1 : Nat) : Int)) (Int.toNat ((a + 1 + k : Nat) : Int))) = r.take k := by
     rw [bts_extract, Int.toNat_natCast, Int.toNat_natCast, e2]; congr 1; omega
    refine CallH.pureG (Sum_c _ (by rw [ByteArray.size_extract]; omega)) (by simp) hg ⟨_, rfl, rfl, ?_⟩
    rw [e5]
    refine ⟨fun h => finPure ?_, fun h => finPure ?_⟩
    ·simp only [hc, if_neg h]
    ·simp only [hc, if_pos h, show a + (1 + k + k2) = a + 1 + k + k2 by omega]
set_option maxRecDepth 100000
abbrev zJ3aa (x0 : Bool) (x1 x2 x3 x4 : Int) (x5 x6 x7 : Nat) (x8 : OA) : Array Value := #[IV x1, .slice x8 x5 x6, IV x2, PP x7, IV x3, IV x4, .bool x0]
theorem jRoom_vc (JB : Nat) (gen : Int) (fp : OA) (fl fc : Nat) (en : Int) (D : Nat) (sz cu : Int) (br : Bool) (hm : Mem [(JB, .cells (zJ3aa br gen en sz cu fl fc D fp) 86)] S w0 W)
 (H :
 ∀ t2 : Int, t2 = (IntKind.i64.wrap (sz - en)) →
 Fin R [(JB, .cells (zJ3aa br gen en sz cu fl fc D fp) 86)] S w0 (IV t2)) :
 Calls TP 23 ⟨[PP JB]⟩ W R:= by
 refine AtE.cs 15 Tryz.func23 hm (.ru 13 (.nm (KC Tryz.f23 14) [(0, PP JB)] [(JB, .cells (zJ3aa br gen en sz cu fl fc D fp) 86)] (.dr 11 (.pu (.pu (.pu (.ld 0 4 (.pu (.pu (.pu (.pu (.ld 0 2 (.pu (.pu (.letI 2 (kd := .i64) (n := (IntKind.i64.wrap (sz - en))) (by kernel_rfl) (fun t2 ht2 => ?_))))))))))))))))
 replace H := H t2 ht2
 refine .dn (.ru 1 (.rt Tryz.func23 H))
theorem jGen_vc (JB : Nat) (gen : Int) (fp : OA) (fl fc : Nat) (en : Int) (D : Nat) (sz cu : Int) (br : Bool) (hm : Mem [(JB, .cells (zJ3aa br gen en sz cu fl fc D fp) 86)] S w0 W)
 (H :
 Fin R [(JB, .cells (zJ3aa br gen en sz cu fl fc D fp) 86)] S w0 (IV gen)) :
 Calls TP 26 ⟨[PP JB]⟩ W R:= by
 refine AtE.cs 10 Tryz.func26 hm (.ru 18 (.ld 0 0 (.ru 2 (.rt Tryz.func26 H))))
theorem jStart_vc (JB : Nat) (half gen : Int) (fp : OA) (fl fc : Nat) (en : Int) (D : Nat) (sz cu : Int) (br : Bool) (hm : Mem [(JB, .cells (zJ3aa br gen en sz cu fl fc D fp) 86)] S w0 W)
 (H :
 ∀ t4 : Int, t4 = (IntKind.i64.wrap (half * sz)) →
 Fin R [(JB, .cells (zJ3aa br gen en sz cu fl fc D fp) 86)] S w0 (IV t4)) :
 Calls TP 44 ⟨[PP JB, IV half]⟩ W R:= by
 refine AtE.cs 11 Tryz.func44 hm (.ru 10 (.ld 0 4 (.ru 2 (.lI 4 H fun t4 H => (.ru 1 (.rt Tryz.func44 H))))))
theorem jWrite_vc (JB : Nat) (off : Int) (s : BA) (gen : Int) (fp : OA) (fl fc : Nat) (en : Int) (D : Nat) (sz cu : Int) (br : Bool) (hm : Mem [(JB, .cells (zJ3aa br gen en sz cu fl fc D fp) 86)] S w0 W)
 (H :
 ∀ B B1 B2 : Nat,
 Fin R [(JB, .cells (zJ3aa br gen en sz cu fl fc D fp) 86), (B, .cells #[PP JB] 29), (B1, .cells #[IV off] 3), (B2, .cells #[.string s] 9)] S w0 (.func (.func 110) #[] #[PP B, PP B1, PP B2])) :
 Calls TP 69 ⟨[PP JB, IV off, .string s]⟩ W R:= by
 refine AtE.cs 8 Tryz.func69 hm (.ru 2 (.nH (.cells #[PP JB] 29) H fun B H => (.nH (.cells #[IV off] 3) H fun B1 H => (.nH (.cells #[.string s] 9) H fun B2 H => (.ru 7 (.rt Tryz.func69 H))))))
abbrev jWriteCA0 (gen : Int) (fp : OA) (fl fc : Nat) (en : Int) (D : Nat) (sz cu : Int) (br : Bool) : Array Value := (zJ3aa br gen en sz cu fl fc D fp)
theorem jWriteC_vc (kj ko ks JB : Nat) (gen : Int) (fp : OA) (fl fc : Nat) (en : Int) (D : Nat) (sz cu : Int) (br : Bool) (F : SHeap) (hm : Mem ((JB, .cells (jWriteCA0 gen fp fl fc en D sz cu br) 86) :: F) S w0 W)
 (H :
 ∃ (cw : List Value), kj ∉ S ∧ blkW w0 kj = some cw ∧ cw[0]? = some (PP JB) ∧
 ∃ (cw1 : List Value) (m1 : Int), ko ∉ S ∧ blkW w0 ko = some cw1 ∧ cw1[0]? = some (IV m1) ∧
 ∃ (cw2 : List Value) (m21 : BA), ks ∉ S ∧ blkW w0 ks = some cw2 ∧ cw2[0]? = some (.string m21) ∧
 CallH TP 22 ⟨[PP D, IV m1, .string m21]⟩ ((JB, .cells (jWriteCA0 gen fp fl fc en D sz cu br) 86) :: F) S w0 (fun v L' => ∃ r1 F1, v = IV r1 ∧ L' = ((JB, .cells (jWriteCA0 gen fp fl fc en D sz cu br) 86) :: F1) ∧
 Fin R ((JB, .cells (jWriteCA0 gen fp fl fc en D sz cu br) 86) :: F1) S w0 (IV r1))) :
 Calls TP 110 ⟨[PP kj, PP ko, PP ks]⟩ W R:= by
 refine AtE.cs 11 Tryz.func110 hm (.ru 5 (.nm (KC Tryz.f110 6) [(0, PP kj), (1, PP ko), (2, PP ks)] ((JB, .cells (jWriteCA0 gen fp fl fc en D sz cu br) 86) :: F) (.dr 6 ?_)))
 obtain ⟨cw, hs, hw, hx, H⟩ := H
 refine .loadW (b := kj) (off := 0) (T := 29) (v := PP JB) (by kernel_rfl) hs hw (valAt_one hx (by kernel_rfl)) (.pu (.pu (.ld 0 3 ?_)))
 obtain ⟨cw1, m1, hs, hw, hx, H⟩ := H
 refine .loadW (b := ko) (off := 0) (T := 3) (v := IV m1) (by kernel_rfl) hs hw (valAt_one hx (by kernel_rfl)) ?_
 obtain ⟨cw2, m21, hs, hw, hx, H⟩ := H
 refine .loadW (b := ks) (off := 0) (T := 9) (v := .string m21) (by kernel_rfl) hs hw (valAt_one hx (by kernel_rfl)) (.dn (.cl H ?_))
 rintro _ _ ⟨r1, F1, rfl, rfl, H⟩
 refine .ru 2 (.rt Tryz.func110 H)
abbrev jSafelyH0 (JB : Nat) (gen : Int) (fp : OA) (fl fc : Nat) (en : Int) (D : Nat) (sz cu : Int) (br : Bool) (kj ko : Nat) (off : Int) (ks : Nat) (s : BA) (kj1 ko1 ks1 B : Nat) : SHeap := [(JB, .cells (zJ3aa br gen en sz cu fl fc D fp) 86), (kj, .cells #[PP JB] 29), (ko, .cells #[IV (IntKind.i64.wrap (off + (1 : Int)))] 3), (ks, .cells #[.string (s.extract (Int.toNat (1 : Int)) s.size)] 9), (kj1, .cells #[PP JB] 29), (ko1, .cells #[IV off] 3), (ks1, .cells #[.string (s.extract 0 (Int.toNat (1 : Int)))] 9), (B, .cells #[.func (.func 110) #[] #[PP kj, PP ko, PP ks], .func (.func 68) #[PP D] #[], .func (.func 110) #[] #[PP kj1, PP ko1, PP ks1], .func (.func 68) #[PP D] #[]] 53)]
abbrev jSafelyH1 (JB : Nat) (gen : Int) (fp : OA) (fl fc : Nat) (en : Int) (D : Nat) (sz cu : Int) (br : Bool) : SHeap := [(JB, .cells (zJ3aa br gen en sz cu fl fc D fp) 86)]
theorem jSafely_vc (JB : Nat) (off : Int) (s : BA) (gen : Int) (fp : OA) (fl fc : Nat) (en : Int) (D : Nat) (sz cu : Int) (br : Bool) (hm : Mem (jSafelyH1 JB gen fp fl fc en D sz cu br) S w0 W)
 (H :
 (0 ≤ (1 : Int) ∧ (1 : Int) ≤ (s.size : Int) ∧ (s.size : Int) ≤ s.size) ∧
 (0 ≤ (0 : Int) ∧ (0 : Int) ≤ (1 : Int) ∧ (1 : Int) ≤ s.size) ∧
 CallH TP 69 ⟨[PP JB, IV (IntKind.i64.wrap (off + (1 : Int))), .string (s.extract (Int.toNat (1 : Int)) s.size)]⟩ (jSafelyH1 JB gen fp fl fc en D sz cu br) S w0 (fun v L' => ∃ (kj : Nat) (ko : Nat) (ks : Nat), v = (.func (.func 110) #[] #[PP kj, PP ko, PP ks]) ∧ L' = [(JB, .cells (zJ3aa br gen en sz cu fl fc D fp) 86), (kj, .cells #[PP JB] 29), (ko, .cells #[IV (IntKind.i64.wrap (off + (1 : Int)))] 3), (ks, .cells #[.string (s.extract (Int.toNat (1 : Int)) s.size)] 9)] ∧
 CallH TP 69 ⟨[PP JB, IV off, .string (s.extract 0 (Int.toNat (1 : Int)))]⟩ [(JB, .cells (zJ3aa br gen en sz cu fl fc D fp) 86), (kj, .cells #[PP JB] 29), (ko, .cells #[IV (IntKind.i64.wrap (off + (1 : Int)))] 3), (ks, .cells #[.string (s.extract (Int.toNat (1 : Int)) s.size)] 9)] S w0 (fun v L' => ∃ (kj1 : Nat) (ko1 : Nat) (ks1 : Nat), v = (.func (.func 110) #[] #[PP kj1, PP ko1, PP ks1]) ∧ L' = [(JB, .cells (zJ3aa br gen en sz cu fl fc D fp) 86), (kj, .cells #[PP JB] 29), (ko, .cells #[IV (IntKind.i64.wrap (off + (1 : Int)))] 3), (ks, .cells #[.string (s.extract (Int.toNat (1 : Int)) s.size)] 9), (kj1, .cells #[PP JB] 29), (ko1, .cells #[IV off] 3), (ks1, .cells #[.string (s.extract 0 (Int.toNat (1 : Int)))] 9)] ∧
 ∀ B : Nat,
 Fin R (jSafelyH0 JB gen fp fl fc en D sz cu br kj ko off ks s kj1 ko1 ks1 B) S w0 (.slice (SO B) 4 4)))) :
 Calls TP 49 ⟨[PP JB, IV off, .string s]⟩ W R:= by
 refine AtE.cs 27 Tryz.func49 hm (.ru 9 (.ld 0 3 (.ru 4 (.nm (KC Tryz.f49 14) [(0, PP JB), (1, IV off), (2, .string s), (7, .func (.func 68) #[PP D] #[])] (jSafelyH1 JB gen fp fl fc en D sz cu br) (.dD (.ph 14 [0,1,2,3,4,6,7,8,9,10,12] [5,11,13] (jSafelyH1 JB gen fp fl fc en D sz cu br) (.pu (.pu (.pu (.pu (.sliceS (s := s) (lo := some (IV 1)) (hi := none) (a := (1 : Int)) (b := (s.size : Int)) (by kernel_rfl) (.inl ⟨.i64, rfl⟩) (.inr ⟨rfl, rfl⟩) H.1 ?_)))))))))))
 replace H := H.2
 refine .pu (.pu (.pu (.pu (.sliceS (s := s) (lo := none) (hi := some (IV 1)) (a := (0 : Int)) (b := (1 : Int)) (by kernel_rfl) (.inr ⟨rfl, rfl⟩) (.inl ⟨.i64, rfl⟩) H.1 ?_))))
 replace H := H.2
 refine .pu (.dn (.cl H ?_))
 rintro _ _ ⟨kj, ko, ks, rfl, rfl, H⟩
 refine .cl H ?_
 rintro _ _ ⟨kj1, ko1, ks1, rfl, rfl, H⟩
 refine .new _ (fun B => .slice (SO B) 4 4) (.cells #[.func (.func 110) #[] #[PP kj, PP ko, PP ks], .func (.func 68) #[PP D] #[], .func (.func 110) #[] #[PP kj1, PP ko1, PP ks1], .func (.func 68) #[PP D] #[]] 53) rfl (fun W => by kernel_rfl) (by kernel_rfl) (fun B => ?_)
 replace H := H B
 refine .dn (.nm [(26, .slice (SO B) 4 4)] (jSafelyH0 JB gen fp fl fc en D sz cu br kj ko off ks s kj1 ko1 ks1 B) (.tl (.ru 2 (.rt Tryz.func49 H))))
abbrev jRunA0 (m0 : Int) (m1_p : OA) (m1_l m1_c : Nat) (m2 : Int) (m3_b : Nat) (m4 m5 : Int) (m6 : Bool) : Array Value := (zJ3aa m6 m0 m2 m4 m5 m1_l m1_c m3_b m1_p)
def jRun_c0 (B : Nat) (t8_p : OA) (t8_l t8_c : Nat) (t9 t10 m0 : Int) (m1_p : OA) (m1_l m1_c : Nat) (m2 : Int) (m3_b : Nat) (m4 m5 : Int) (m6 : Bool) (F1 : SHeap) (S : List Nat) (w0 : World) (R : Ending → World → Prop) : Prop :=
 AtE TP 50 23 (KC Tryz.f50 52) [(0, PP B), (8, .slice t8_p t8_l t8_c), (9, IV t9), (10, IV t10)] ((B, .cells (jRunA0 m0 m1_p m1_l m1_c m2 m3_b m4 m5 m6) 86) :: F1) S w0 (nrm R)
theorem jRun_c0_vc (B : Nat) (t8_p : OA) (t8_l t8_c : Nat) (t9 t10 m0 : Int) (m1_p : OA) (m1_l m1_c : Nat) (m2 : Int) (m3_b : Nat) (m4 m5 : Int) (m6 : Bool) (F1 : SHeap)
 (H :
 Br (t10 < t9)
 (∃ t8_pb t8_po : Nat, t8_p = some ⟨t8_pb, t8_po, none⟩ ∧
 (0 ≤ t10 ∧ t10 < t8_l) ∧
 ∃ (cw : List Value) (m3 : Value), (∃ t fz, (t8_pb, Obj.cells ⟨cw⟩ t fz) ∈ ((B, .cells (jRunA0 m0 m1_p m1_l m1_c m2 m3_b m4 m5 m6) 86) :: F1)) ∧ cw[(t8_po + (Int.toNat t10))]? = some (m3) ∧
 ∃ (g : Nat) (fst : List Value) (caps : List Value), m3 = .func (.func g) ⟨fst⟩ ⟨caps⟩ ∧ FnReady TP g ∧
 CallP TP g ⟨fst ++ [] ++ caps⟩ ((B, .cells (jRunA0 m0 m1_p m1_l m1_c m2 m3_b m4 m5 m6) 86) :: F1) S w0 (fun v L' => ∃ F2 se, v = IV se ∧ L' = ((B, .cells (jRunA0 m0 m1_p m1_l m1_c m2 m3_b m4 m5 m6) 86) :: F2) ∧
 Bn (se = 0)
 (Fin R ((B, .cells #[IV m0, .slice m1_p m1_l m1_c, IV m2, PP m3_b, IV m4, IV m5, .bool true] 86) :: F2) S w0 (IV se))
 (jRun_c0 B (some ⟨t8_pb, t8_po, none⟩) t8_l t8_c t9 (IntKind.i64.wrap (t10 + (1 : Int))) m0 m1_p m1_l m1_c m2 m3_b m4 m5 m6 F2 S w0 R)) (fun ch L' => FinP R L' S w0 ch))
 (Fin R ((B, .cells (jRunA0 m0 m1_p m1_l m1_c m2 m3_b m4 m5 m6) 86) :: F1) S w0 (IV 0))) :
 jRun_c0 B t8_p t8_l t8_c t9 t10 m0 m1_p m1_l m1_c m2 m3_b m4 m5 m6 F1 S w0 R:= by
 unfold jRun_c0
 refine .ru 5 (.sP 11 H ?_ ?_) <;> clear H <;> intro H
 ·refine .ru 6 ?_
  obtain ⟨t8_pb, t8_po, rfl, H⟩ := H
  refine .indexAddrL (E := 53) (b := t8_pb) (o := t8_po) (len := t8_l) (cap := t8_c) (sz := 1) (o' := (t8_po + (Int.toNat t10))) (kd := .i64) (i := t10) (by kernel_rfl) H.1 (by omega) ?_
  replace H := H.2
  obtain ⟨cw, m3, hw, hx, H⟩ := H
  refine .loadT (b := t8_pb) (off := (t8_po + (Int.toNat t10))) (T := 53) (v := m3) (by kernel_rfl) hw (valAt_one hx (by kernel_rfl)) (.ru 5 ?_)
  obtain ⟨g, fst, caps, rfl, hr, H⟩ := H
  refine .callV g fst caps [] (by kernel_rfl) hr H ?_ (fun ch L' h => RaiseE.nrm Tryz.func50 h)
  clear H
  rintro _ _ ⟨F2, se, rfl, rfl, H⟩
  refine .ru 7 (.sN 17 H ?_ ?_) <;> clear H <;> intro H
  ·refine .ru 6 (.store 0 6 (T := 4) (v := .bool true) (by kernel_rfl) (.ru 6 (.rt Tryz.func50 H)))
  ·refine .ru 8 (.tT [0] 1 H)
 ·refine .ru 6 (.rt Tryz.func50 H)
theorem jRun_vc (JB : Nat) (steps_p : OA) (steps_l steps_c : Nat) (gen : Int) (fp : OA) (fl fc : Nat) (en : Int) (D : Nat) (sz cu : Int) (br : Bool) (F : SHeap) (hm : Mem ((JB, .cells (zJ3aa br gen en sz cu fl fc D fp) 86) :: F) S w0 W)
 (H :
 jRun_c0 JB steps_p steps_l steps_c (steps_l : Int) (0 : Int) gen fp fl fc en D sz cu br F S w0 R) :
 Calls TP 50 ⟨[PP JB, .slice steps_p steps_l steps_c]⟩ W R:= by
 refine AtE.cs 23 Tryz.func50 hm (.ru 13 (.tT [0] 1 H))
inductive DOp where
 | sync : DOp
 | write : Int → BA → DOp
def DOp.run : DOp → DS → Int × DS
 | .sync, d => d.sync
 | .write off s, d => d.write off s
def runOps : List DOp → DS → Int × DS
 | [], d => (0, d)
 | o :: r, d => if (o.run d).1 = 0 then runOps r (o.run d).2 else o.run d
theorem spend_pend (d : DS) : d.spend.pend = d.pend := by
 unfold DS.spend
 split
 ·rfl
 ·split <;> rfl
theorem run_pend (o : DOp) (d : DS) : (o.run d).2.pend.length ≤ d.pend.length + 1 := by
 cases o with
 | sync => show (d.sync).2.pend.length ≤ _; unfold DS.sync; split <;> simp
 | write off s =>
  show (d.write off s).2.pend.length ≤ _
  unfold DS.write
  repeat' split
  ·simp
  ·simp [spend_pend, DS.put]
  ·simp
structure JS where
 gen : Int
 fp : OA
 fl : Nat
 fc : Nat
 en : Int
 sz : Int
 cu : Int
 br : Bool
abbrev jH (JB D : Nat) (j : JS) : Nat × Obj := (JB, .cells #[.int .i64 j.gen, .slice j.fp j.fl j.fc, .int .i64 j.en, .pointer (SO D), .int .i64 j.sz, .int .i64 j.cu, .bool j.br] 86)
def StepAt (X : SHeap) (JB D : Nat) : DOp → Value → Prop
 | .sync, v => v = .func (.func 68) ⟨[pt D 0]⟩ ⟨[]⟩
 | .write off s, v => ∃ kj ko ks, v = .func (.func 110) ⟨[]⟩ ⟨[pt kj 0, pt ko 0, pt ks 0]⟩ ∧ lkF X kj [pt JB 0] ∧ lkF X ko [.int .i64 off] ∧ lkF X ks [.string s]
theorem StepAt.mono {X X' : SHeap} {JB D : Nat} {o : DOp} {v : Value} (h : StepAt X JB D o v) (hx : ∀ x ∈ X, x ∈ X') : StepAt X' JB D o v := by
 cases o with
 | sync => exact h
 | write off s =>
  obtain ⟨kj, ko, ks, h1, h2, h3, h4⟩ := h
  exact ⟨kj, ko, ks, h1, lkF_mono hx _ _ h2, lkF_mono hx _ _ h3, lkF_mono hx _ _ h4⟩
theorem CallH.dT {F : SHeap} {D : Nat} {v : Value} {d : DS} (told : SHeap) (h : EffC P g args F (DRes D v d)) (hK : ∀ F', DRep D d F' → K v (told ++ F')) : CallH P g args (told ++ F) S w0 K :=
 CallH.eff (L1 := told) h List.perm_append_comm fun v' L' hk => ⟨told ++ L', List.perm_append_comm, by obtain ⟨rfl, hr⟩ := hk; exact hK _ hr⟩
def DStepK (JB D : Nat) (j : JS) (r : Int × DS) (v : Value) (L' : SHeap) : Prop := ∃ F', v = .int .i64 r.1 ∧ L' = jH JB D j :: F' ∧ DRep D r.2 F'
theorem step_e {X : SHeap} {JB D : Nat} {o : DOp} {v : Value} (h : StepAt X JB D o v) : ∃ g fst caps, v = .func (.func g) ⟨fst⟩ ⟨caps⟩ ∧ FnReady TP g ∧
  ∀ {j : JS} {d : DS} {F : SHeap}, DRep D d F → d.pend.length < 1000000 → EffP TP g ⟨fst ++ [] ++ caps⟩ (jH JB D j :: F) (fun W => XPre ((jH JB D j :: F).map (·.1)) X W) (DStepK JB D j (o.run d)) (fun _ _ => False) := by
 cases o with
 | sync =>
  refine ⟨_, _, _, h, ⟨_, Tryz.func68, by kernel_rfl, by kernel_rfl⟩, ?_⟩
  intro j d F hd hl W hm hX
  exact (CallH.dT [jH JB D j] (Sync_e hd) (K := DStepK JB D j (DOp.sync.run d)) (fun F' hr => ⟨F', rfl, rfl, hr⟩) W hm).mono fun e W' hh => .inl hh
 | write off s =>
  obtain ⟨kj, ko, ks, h1, ⟨t1, z1, h2⟩, ⟨t2, z2, h3⟩, ⟨t3, z3, h4⟩⟩ := h
  refine ⟨_, _, _, h1, ⟨_, Tryz.func110, by kernel_rfl, by kernel_rfl⟩, ?_⟩
  intro j d F hd hl W hm hX
  obtain ⟨a1, a2⟩ := hX _ _ _ _ h2
  obtain ⟨b1, b2⟩ := hX _ _ _ _ h3
  obtain ⟨c1, c2⟩ := hX _ _ _ _ h4
  refine jWriteC_vc kj ko ks JB j.gen j.fp j.fl j.fc j.en D j.sz j.cu j.br F hm ⟨_, a1, a2, rfl, _, off, b1, b2, rfl, _, s, c1, c2, rfl, ?_⟩
  refine CallH.dT [jH JB D j] (Write_e hd hl) fun F' hr => ⟨_, F', rfl, rfl, fun W' hm' => .inl ⟨_, _, rfl, hm', F', rfl, rfl, hr⟩⟩
def JS.after (j : JS) (e : Int) : JS := if e = 0 then j else { j with br := true }
def RunK (JB D : Nat) (j : JS) (X : SHeap) (r : Int × DS) (v : Value) (L' : SHeap) : Prop := ∃ F', v = .int .i64 r.1 ∧ L' = jH JB D (j.after r.1) :: (F' ++ X) ∧ DRep D r.2 F'
theorem run_loop {X : SHeap} {JB D Bs : Nat} {vs : List Value} {t : TypeId} {fz : Nat × Nat} {ops : List DOp} (hrow : (Bs, Obj.cells ⟨vs⟩ t fz) ∈ X) (hlen : ops.length ≤ vs.length) (hst : ∀ i (h : i < ops.length), StepAt X JB D ops[i] (vs[i]'(by omega))) {j : JS} {sc : Nat} (hno : ops.length ≤ 1000) {w0 : World} {S : List Nat} {r : Int × DS} :
  ∀ (g i : Nat) (d : DS) (F : SHeap), g + i = ops.length → DRep D d F → d.pend.length + g < 1000000 → r = runOps (ops.drop i) d →
   jRun_c0 JB (SO Bs) ops.length sc (ops.length : Int) (i : Int) j.gen j.fp j.fl j.fc j.en D j.sz j.cu j.br (F ++ X) S w0 (fun e W' => ∃ v L', e = .returned v ∧ Mem L' S w0 W' ∧ RunK JB D j X r v L')
 | 0, i, d, F, hg, hd, hp, hr => by
  apply jRun_c0_vc
  rw [List.drop_of_length_le (by omega)] at hr
  subst hr
  exact no (by omega) (dkFin ⟨F, rfl, rfl, hd⟩)
 | g + 1, i, d, F, hg, hd, hp, hr => by
  apply jRun_c0_vc
  have hi : i < ops.length := by omega
  obtain ⟨gf, fst, caps, e1, e2, e3⟩ := step_e (hst i hi)
  rw [List.drop_eq_getElem_cons hi, runOps] at hr
  refine yes (by omega) ⟨Bs, 0, rfl, by omega, vs, vs[i]'(by omega), ⟨t, fz, List.mem_cons_of_mem _ (List.mem_append_right _ hrow)⟩, by simp, gf, fst, caps, e1, e2, ?_⟩
  refine CallP.eff (L0 := jH JB D j :: F) (L1 := X) (e3 hd (by omega)) (fun W' hm' => xpre_of hm') (List.Perm.refl _) ?_ (fun _ _ h => h.elim)
  rintro _ _ ⟨F', rfl, rfl, hd'⟩
  refine ⟨jH JB D j :: (F' ++ X), List.Perm.refl _, F' ++ X, _, rfl, rfl, fun h0 => ?_, fun h0 => ?_⟩
  ·rw [if_neg h0] at hr
   subst hr
   exact dkFin ⟨F', rfl, by rw [JS.after, if_neg h0], hd'⟩
  ·rw [if_pos h0] at hr
   have hq := run_pend ops[i] d
   rw [wi64 (by omega), show (i : Int) + 1 = ((i + 1 : Nat) : Int) by omega]
   exact run_loop hrow hlen hst hno g (i + 1) _ F' (by omega) hd' (by omega) hr
theorem run_e {X : SHeap} {JB D Bs : Nat} {vs : List Value} {t : TypeId} {fz : Nat × Nat} {ops : List DOp} (hrow : (Bs, Obj.cells ⟨vs⟩ t fz) ∈ X) (hlen : ops.length ≤ vs.length) (hst : ∀ i (h : i < ops.length), StepAt X JB D ops[i] (vs[i]'(by omega))) {j : JS} {sc : Nat} (hno : ops.length ≤ 1000) {d : DS} {F : SHeap} (hd : DRep D d F) (hp : d.pend.length < 900000) :
  EffC TP 50 ⟨[pt JB 0, .slice (SO Bs) ops.length sc]⟩ (jH JB D j :: (F ++ X)) (RunK JB D j X (runOps ops d)) := by
 intro W hm
 exact jRun_vc JB (SO Bs) ops.length sc j.gen j.fp j.fl j.fc j.en D j.sz j.cu j.br (F ++ X) hm (run_loop hrow hlen hst hno ops.length 0 d F (by omega) hd (by omega) (by rw [List.drop_zero]))
abbrev jcloV (kj ko ks : Nat) : Value := .func (.func 110) ⟨[]⟩ ⟨[pt kj 0, pt ko 0, pt ks 0]⟩
abbrev jcloX (JB kj ko ks : Nat) (off : Int) (s : BA) : SHeap := [(kj, .cells #[pt JB 0] 29), (ko, .cells #[.int .i64 off] 3), (ks, .cells #[.string s] 9)]
theorem jclo_at {X : SHeap} {JB D kj ko ks : Nat} {off : Int} {s : BA} (h : ∀ x ∈ jcloX JB kj ko ks off s, x ∈ X) : StepAt X JB D (.write off s) (jcloV kj ko ks) :=
 ⟨kj, ko, ks, rfl, ⟨_, _, h _ List.mem_cons_self⟩, ⟨_, _, h _ (List.mem_cons_of_mem _ List.mem_cons_self)⟩, ⟨_, _, h _ (List.mem_cons_of_mem _ (List.mem_cons_of_mem _ List.mem_cons_self))⟩⟩
theorem jwrite_e {JB D : Nat} {j : JS} {off : Int} {s : BA} : EffC TP 69 ⟨[pt JB 0, .int .i64 off, .string s]⟩ [jH JB D j] (fun v L' => ∃ kj ko ks, v = jcloV kj ko ks ∧ L' = jH JB D j :: jcloX JB kj ko ks off s) := by
 intro W hm
 exact jWrite_vc JB off s j.gen j.fp j.fl j.fc j.en D j.sz j.cu j.br hm fun B B1 B2 => dkFin ⟨B, B1, B2, rfl, rfl⟩
def cutHead (s : BA) : BA := s.extract 0 1
def cutTail (s : BA) : BA := s.extract 1 s.size
def safeOps (off : Int) (s : BA) : List DOp := [.write (off + 1) (cutTail s), .sync, .write off (cutHead s), .sync]
def StepsAt (X : SHeap) (JB D : Nat) (ops : List DOp) (Bs : Nat) : Prop := ∃ vs t fz, (Bs, Obj.cells ⟨vs⟩ t fz) ∈ X ∧ ∃ hl : ops.length ≤ vs.length, ∀ i (h : i < ops.length), StepAt X JB D ops[i] (vs[i]'(by omega))
theorem safely_e {JB D : Nat} {j : JS} {off : Int} {s : BA} (hs : 1 ≤ s.size) (ho : 0 ≤ off ∧ off ≤ 4611686018427387904) : EffC TP 49 ⟨[pt JB 0, .int .i64 off, .string s]⟩ [jH JB D j]
  (fun v L' => ∃ Bs X, v = .slice (SO Bs) 4 4 ∧ L' = jH JB D j :: X ∧ StepsAt X JB D (safeOps off s) Bs) := by
 intro W hm
 refine jSafely_vc JB off s j.gen j.fp j.fl j.fc j.en D j.sz j.cu j.br hm ⟨by omega, by omega, ?_⟩
 have e1 : IntKind.i64.wrap (off + 1) = off + 1 := wi64 (by omega)
 refine CallH.eff (L1 := []) (jwrite_e (j := j) (D := D)) (List.Perm.refl _) ?_
 rintro _ _ ⟨kj, ko, ks, rfl, rfl⟩
 refine ⟨_, List.Perm.refl _, kj, ko, ks, rfl, rfl, ?_⟩
 refine CallH.eff (L0 := [jH JB D j]) (L1 := jcloX JB kj ko ks _ _) (jwrite_e (j := j) (D := D)) (List.Perm.refl _) ?_
 rintro _ _ ⟨kj1, ko1, ks1, rfl, rfl⟩
 refine ⟨jH JB D j :: (jcloX JB kj ko ks _ _ ++ jcloX JB kj1 ko1 ks1 _ _), List.Perm.cons _ List.perm_append_comm, kj1, ko1, ks1, rfl, rfl, fun B => ?_⟩
 refine dkFin ⟨B, jcloX JB kj ko ks (off + 1) (cutTail s) ++ jcloX JB kj1 ko1 ks1 off (cutHead s) ++ [(B, .cells #[jcloV kj ko ks, .func (.func 68) ⟨[pt D 0]⟩ ⟨[]⟩, jcloV kj1 ko1 ks1, .func (.func 68) ⟨[pt D 0]⟩ ⟨[]⟩] 53)], rfl, ?_, [jcloV kj ko ks, .func (.func 68) ⟨[pt D 0]⟩ ⟨[]⟩, jcloV kj1 ko1 ks1, .func (.func 68) ⟨[pt D 0]⟩ ⟨[]⟩], _, _, List.mem_append_right _ List.mem_cons_self, Nat.le_refl 4, ?_⟩
 ·delta jSafelyH0
  rw [e1]; rfl
 ·intro i hi
  match i, hi with
  | 0, _ => exact jclo_at fun x hx => List.mem_append_left _ (List.mem_append_left _ hx)
  | 1, _ => exact rfl
  | 2, _ => exact jclo_at fun x hx => List.mem_append_left _ (List.mem_append_right _ hx)
  | 3, _ => exact rfl
def cutF (f : Fct) : Fct := { f with blocks := f.blocks.take 2, text := cutT f.text 60, title := cutT f.title 60 }
theorem SlAt.cutBlks {p : OA} {l : List Blk} (h : BlksL lk p l) (n : Nat) : BlksL lk p (l.take n) := by
 intro hp
 rw [List.length_take] at hp
 obtain ⟨b, o, c, h1, h2, h3⟩ := h (by omega)
 refine ⟨b, o, c, h1, h2, fun i hi => ?_⟩
 rw [List.length_take] at hi
 rw [List.getElem_take]
 exact h3 i (by omega)
theorem FArg.at {f : Fct} (h : FArg lk f tp tc bp bc ap ac) : FAt lk f tp tc bp bc ap ac := by
 refine ⟨h.tops, fun hp => ?_, h.ints, h.ct, h.cb, h.ca, h.fits⟩
 obtain ⟨b, o, c, h1, h2, h3⟩ := h.blks hp
 refine ⟨b, o, c, h1, h2, fun i hi => ⟨(h3 i hi).1, ?_⟩⟩
 obtain ⟨p, q, e, k1, k2, k3⟩ := (h3 i hi).2
 exact ⟨p, q, e, k1, k2⟩
theorem cutF_fits {f : Fct} (h : f.Fits) : (cutF f).Fits :=
 ⟨⟨h.1.1, by show (cutT f.title 60).size ≤ _; rw [cutT_size]; omega, h.1.2.2.1, by show (cutT f.text 60).size ≤ _; rw [cutT_size]; omega, h.1.2.2.2.2⟩, h.2.1, by show (f.blocks.take 2).length ≤ _; rw [List.length_take]; omega, h.2.2.2⟩
theorem cutF_at {f : Fct} (h : FAt lk f tp tc bp bc ap ac) : FAt lk (cutF f) tp tc bp bc ap ac :=
 ⟨h.tops, SlAt.cutBlks h.blks 2, h.ints, h.ct, Nat.le_trans (by show (f.blocks.take 2).length ≤ f.blocks.length; rw [List.length_take]; omega) h.cb, h.ca, cutF_fits h.fits⟩
theorem few24_c {f : Fct} (hb : f.blocks.length ≤ bc) : PureC TP 14 ⟨[.agg ⟨f.cells tp tc bp bc ap ac⟩]⟩ (.agg ⟨(cutF f).cells tp tc bp bc ap ac⟩) := by
 intro W
 have e1 := cut_if (s := f.text) (n := 60) (i := 60) rfl
 have e2 := cut_if (s := f.title) (n := 60) (i := 60) rfl
 refine few24_vc f tp tc bp bc ap ac (Mem.start [] W) fun B B1 => ⟨fun h => ⟨by omega, by split <;> omega, by split <;> omega, finPure ?_⟩, fun h => ⟨by split <;> omega, by split <;> omega, finPure ?_⟩⟩
 ·have hl : (cutF f).blocks.length = 2 := by show (f.blocks.take 2).length = 2; rw [List.length_take]; omega
  delta few24A0 Fct.cells
  rw [e1, e2, hl]; rfl
 ·have hl : (cutF f).blocks.length = f.blocks.length := by show (f.blocks.take 2).length = _; rw [List.length_take]; omega
  delta few24A1 Fct.cells
  rw [e1, e2, hl]; rfl
set_option maxRecDepth 100000
theorem records_vc (s : BA) (fromv : Int) (hm : Mem [] [] w0 W)
 (H :
 ∀ B B1 : Nat,
 Fin R [(B, .cells #[.string s] 9), (B1, .cells #[IV fromv] 3)] [] w0 (.func (.func 120) #[] #[PP B1, PP B])) :
 Calls TP 84 ⟨[.string s, IV fromv]⟩ W R:= by
 refine AtE.cs 6 Tryz.func84 hm (.ru 2 (.nH (.cells #[.string s] 9) H fun B H => (.nH (.cells #[IV fromv] 3) H fun B1 H => (.ru 7 (.rt Tryz.func84 H)))))
def recIter_c0 (B yl1 : Nat) (atv : Int) (m0 : BA) (F1 : SHeap) (S : List Nat) (w0 : World) (R : Ending → World → Prop) : Prop :=
 AtE TP 120 36 (KC Tryz.f120 12) [(0, .func (.yield yl1) #[] #[]), (2, PP B), (4, IV atv)] ((B, .cells #[.string m0] 9) :: F1) S w0 (nrm R)
theorem recIter_c0_vc (B yl1 : Nat) (atv : Int) (m0 : BA) (F1 : SHeap)
 (H :
 Br (atv < (m0.size : Int))
 ((0 ≤ atv ∧ atv < m0.size) ∧
 Bn ((bat m0 atv) = (0 : Int))
 (CallH TP 121 ⟨[.string m0, IV atv, .func (.func 122) #[] #[]]⟩ ((B, .cells #[.string m0] 9) :: F1) S w0 (fun v L' => ∃ r1 r21 r31, v = (.tuple #[.string r1, IV r21, .bool r31]) ∧ L' = ((B, .cells #[.string m0] 9) :: F1) ∧
 Bb (r31)
 (YieldH TP yl1 ⟨[.string r1, IV r21]⟩ ((B, .cells #[.string m0] 9) :: F1) S w0 (fun v L' => ∃ go F2, v = .bool go ∧ L' = ((B, .cells #[.string m0] 9) :: F2) ∧
 Bb (go)
 (recIter_c0 B yl1 r21 m0 F2 S w0 R)
 (Fin R ((B, .cells #[.string m0] 9) :: F2) S w0 (.tuple #[]))))
 (Fin R ((B, .cells #[.string m0] 9) :: F1) S w0 (.tuple #[]))))
 (Fin R ((B, .cells #[.string m0] 9) :: F1) S w0 (.tuple #[])))
 (Fin R ((B, .cells #[.string m0] 9) :: F1) S w0 (.tuple #[]))) :
 recIter_c0 B yl1 atv m0 F1 S w0 R:= by
 unfold recIter_c0
 refine .ru 4 (.ld 0 0 (.ru 3 (.sP 13 H (fun H => ?_) fun H => ?_)))
 ·refine .ld 0 0 (.ru 1 (.indexS (s := m0) (kd := .i64) (i := atv) (by kernel_rfl) H.1 ?_))
  replace H := H.2
  refine .ru 3 (.sN 18 H (fun H => ?_) fun H => ?_)
  ·refine .ru 5 (.ld 0 0 (.ru 1 (.cl H ?_)))
   rintro _ _ ⟨r1, r21, r31, rfl, rfl, H⟩
   refine .ru 12 (.sB 26 H (fun H => ?_) fun H => ?_)
   ·refine .ru 5 (.yield yl1 ⟨[.string r1, IV r21]⟩ (fun W => by kernel_rfl) (by kernel_rfl) H ?_)
    rintro _ _ ⟨go, F2, rfl, rfl, H⟩
    refine .sB 32 H (fun H => ?_) fun H => ?_
    ·refine .ru 11 (.tT [0] 1 H)
    ·refine .ru 4 (.rt Tryz.func120 H)
   ·refine .ru 10 (.rt Tryz.func120 H)
  ·refine .ru 2 (.rt Tryz.func120 H)
 ·refine .ru 8 (.rt Tryz.func120 H)
theorem recIter_vc (yl Ka Ki : Nat) (from_ : Int) (text : BA) (F : SHeap) (hm : Mem ((Ka, .cells #[IV from_] 3) :: (Ki, .cells #[.string text] 9) :: F) S w0 W)
 (H :
 recIter_c0 Ki yl from_ text F S w0 R) :
 Calls TP 120 ⟨[.func (.yield yl) #[] #[], PP Ka, PP Ki]⟩ W R:= by
 refine AtE.cs 36 Tryz.func120 hm (.ru 2 (.ld 0 0 (.ru 4 (.tT [1] 2 H))))
def parseR : Nat → List UInt8 → Nat → Option (List Fct × Nat)
 | 0, l, n => if l = [] then some ([], 0) else none
 | f + 1, l, n => match l with
  | [] => some ([], 0)
  | b :: r => if b = 0 then some ([], 0) else (match frmR rdStrB (b :: r) with
   | none => none
   | some (t, k) => if (decF (bts t)).2 = 0 ∧ (decF (bts t)).1.n = (n : Int) then (parseR f ((b :: r).drop k) (n + 1)).map (fun q => ((decF (bts t)).1 :: q.1, k + q.2)) else none)
theorem frmR_pos {α : Type} {rd : List UInt8 → Option (α × Nat)} {l : List UInt8} {v : α} {k : Nat} (h : frmR rd l = some (v, k)) : 0 < k := by
 cases l with
 | nil => cases h
 | cons b r =>
  rw [frmR] at h
  repeat' split at h
  all_goals first | cases h; done | skip
  all_goals (simp only [Option.some.injEq, Prod.mk.injEq] at h; omega)
theorem frmR_len {α : Type} {rd : List UInt8 → Option (α × Nat)} (hrd : ∀ l v k, rd l = some (v, k) → k ≤ l.length) {l : List UInt8} {v : α} {k : Nat} (h : frmR rd l = some (v, k)) : k ≤ l.length := by
 cases l with
 | nil => cases h
 | cons b r =>
  rw [frmR] at h
  split at h
  ·split at h
   ·cases h
   ·next v' k' hv =>
    have h1 := hrd _ _ _ hv
    split at h
    ·cases h
    ·next c k2 hc =>
     have h2 := (rdInt_inv hc).2.1
     split at h
     ·simp only [Option.some.injEq, Prod.mk.injEq] at h
      rw [List.length_drop] at h2
      simp only [List.length_cons]; omega
     ·cases h
  ·cases h
theorem rdStrB_len (l : List UInt8) (v : BA) (k : Nat) (h : rdStrB l = some (v, k)) : k ≤ l.length := by
 rw [rdStrB, Option.map_eq_some_iff] at h
 obtain ⟨⟨t, k'⟩, h1, h2⟩ := h
 simp only [Prod.mk.injEq] at h2
 have := (rdStr_inv h1).2.1
 omega
theorem parseR_fuel : ∀ (f : Nat) (l : List UInt8) (n : Nat), l.length ≤ f → parseR f l n = parseR l.length l n := by
 intro f
 induction f using Nat.strongRecOn with
 | _ f ih =>
  intro l n h
  cases l with
  | nil => cases f <;> rfl
  | cons b r =>
   cases f with
   | zero => simp at h
   | succ f =>
    rw [List.length_cons]
    rw [parseR, parseR]
    split
    ·rfl
    ·cases hf : frmR rdStrB (b :: r) with
     | none => rfl
     | some p =>
      obtain ⟨t, k⟩ := p
      simp only
      split
      ·have hk := frmR_pos hf
       have hd : ((b :: r).drop k).length ≤ r.length := by rw [List.length_drop, List.length_cons]; omega
       simp only [List.length_cons] at h
       rw [ih f (by omega) _ _ (by omega)]
       rcases Nat.lt_or_ge r.length (f + 1) with hlt | hge
       ·rw [ih r.length (by omega) _ _ hd]
       ·omega
      ·rfl
abbrev tStr (B : Nat) (s : BA) : Nat × Obj := (B, .cells #[.string s] 9)
theorem bat_zero {s : BA} {a : Nat} (h : a < (bts s).length) : bat s (a : Int) = 0 ↔ (bts s)[a] = 0 := by
 rw [bat_get h]
 constructor
 ·intro e
  have : ((bts s)[a]).toNat = 0 := by
   have : (((bts s)[a]).toNat : Int) = 0 := e
   omega
  exact UInt8.toNat_inj.1 this
 ·intro e
  show (((bts s)[a]).toNat : Int) = 0
  rw [e]; rfl
def Stop (s : List UInt8) (a : Nat) : Prop := s.length ≤ a ∨ ∃ h : a < s.length, s[a] = 0 ∨ (s[a] ≠ 0 ∧ frmR rdStrB (s.drop a) = none)
abbrev Takes (t : BA) (n : Nat) : Prop := (decF (bts t)).2 = 0 ∧ (decF (bts t)).1.n = (n : Int)
theorem rec_loop {Ki yl : Nat} {s : BA} (hs : s.size < 4611686018427387904) (h0 : 0 ∉ S) (hg : blkW w0 0 = some tabV) {I : List Fct → Nat → SHeap → Prop} {J : SHeap → Prop}
  (hy : ∀ l a F t k, a < (bts s).length → I l a F → frmR rdStrB ((bts s).drop a) = some (t, k) → YieldH TP yl ⟨[.string t, .int .i64 ((a + k : Nat) : Int)]⟩ (tStr Ki s :: F) S w0
   (fun v L' => ∃ F', L' = tStr Ki s :: F' ∧ ((v = .bool true ∧ Takes t (l.length + 1) ∧ I (l ++ [(decF (bts t)).1]) (a + k) F') ∨ (v = .bool false ∧ ¬ Takes t (l.length + 1) ∧ J F'))))
  (hR : ∀ l a F, I l a F → Stop (bts s) a → Fin R (tStr Ki s :: F) S w0 (.tuple #[])) (hJ : ∀ F, J F → Fin R (tStr Ki s :: F) S w0 (.tuple #[])) :
  ∀ (g a : Nat) (l : List Fct) (F : SHeap), s.size ≤ g + a → I l a F → recIter_c0 Ki yl (a : Int) s F S w0 R
 | 0, a, l, F, hga, hI => by
  apply recIter_c0_vc
  exact no (by omega) (hR l a F hI (.inl (by rw [bts_len]; omega)))
 | g + 1, a, l, F, hga, hI => by
  apply recIter_c0_vc
  rcases Nat.lt_or_ge a s.size with ha | ha
  ·have hl : a < (bts s).length := ha
   refine yes (by omega) ⟨by omega, ⟨fun hne => ?_, fun he => hR l a F hI (.inr ⟨hl, .inl ((bat_zero hl).1 he)⟩)⟩⟩
   refine CallH.pureG (framedS_c hs ha) h0 hg ?_
   cases hf : frmR rdStrB ((bts s).drop a) with
   | none => exact ⟨_, _, _, rfl, rfl, fun h => Bool.noConfusion h, fun _ => hR l a F hI (.inr ⟨hl, .inr ⟨fun h => hne ((bat_zero hl).2 h), hf⟩⟩)⟩
   | some p =>
    obtain ⟨t, k⟩ := p
    have hk := frmR_pos hf
    refine ⟨_, _, _, rfl, rfl, fun _ => (hy l a F t k hl hI hf).mono ?_, fun h => Bool.noConfusion h⟩
    rintro v L' ⟨F', rfl, ⟨rfl, h1, h2⟩ | ⟨rfl, h1, h2⟩⟩
    ·exact ⟨true, F', rfl, rfl, fun _ => rec_loop hs h0 hg hy hR hJ g (a + k) _ F' (by omega) h2, fun h => Bool.noConfusion h⟩
    ·exact ⟨false, F', rfl, rfl, fun h => Bool.noConfusion h, fun _ => hJ F' h2⟩
  ·exact no (by omega) (hR l a F hI (.inl (by rw [bts_len]; omega)))
set_option maxRecDepth 100000
theorem jNext_vc (HB : Nat) (gen : Int) (fp : OA) (fl fc : Nat) (en : Int) (F : SHeap) (hm : Mem ((HB, .cells #[IV gen, .slice fp fl fc, IV en] 84) :: F) S w0 W)
 (H :
 ∀ t2 : Int, t2 = (IntKind.i64.wrap ((fl : Int) + (1 : Int))) →
 Fin R ((HB, .cells #[IV gen, .slice fp fl fc, IV en] 84) :: F) S w0 (IV t2)) :
 Calls TP 53 ⟨[PP HB]⟩ W R:= by
 refine AtE.cs 9 Tryz.func53 hm (.ru 9 (.ld 0 1 (.ru 3 (.lI 2 H fun t2 H => (.ru 1 (.rt Tryz.func53 H))))))
abbrev hH (HB : Nat) (gen : Int) (p : OA) (n c : Nat) (en : Int) : Nat × Obj := (HB, .cells #[.int .i64 gen, .slice p n c, .int .i64 en] 84)
theorem YieldH.perm {l : Nat} {L L' : SHeap} (hp : L'.Perm L) (h : YieldH P l args L' S w0 K) : YieldH P l args L S w0 K :=
 fun W hm => h W (hm.perm hp)
theorem YieldH.monoP {l : Nat} {L : SHeap} (h : YieldH P l args L S w0 K) (hk : ∀ v L', K v L' → ∃ L2, L2.Perm L' ∧ K' v L2) : YieldH P l args L S w0 K' := by
 intro W hm
 obtain ⟨fn, tmps, assign, body, h1, h2⟩ := h W hm
 refine ⟨fn, tmps, assign, body, h1, fun c cs => ?_⟩
 obtain ⟨v, w', ⟨L', h3, h4⟩, h5⟩ := h2 c cs
 obtain ⟨L2, hp, hk2⟩ := hk v L' h4
 exact ⟨v, w', ⟨L2, h3.perm hp, hk2⟩, h5⟩
set_option maxRecDepth 100000
theorem cloneI_vc (s_p : OA) (s_l s_c : Nat) (hm : Mem [] [] w0 W)
 (H :
 ((s_p = none) →
 Fin R [] [] w0 (.slice none 0 0)) ∧
 (∀ a : Addr, s_p = some a →
 ∀ B : Nat,
 ∃ news : List Value, (∀ W, Mem [(B, .cells #[] 3)] [] w0 W → Go.Src TP 1 34 (.slice (some a) s_l s_c) s_l news W) ∧
 (0 ≤ 0 ∧ (([] : List Value)).length = 0 * 1) ∧ ((0 + s_l) ≤ 9223372036854775807 ∧ (0 + s_l) * 8 ≤ 140737488355328) ∧
 ∀ (B1 cap : Nat) (r : List Value), (0 + s_l) ≤ cap → ((([] : List Value)).take (0 * 1) ++ news ++ r).length = cap * 1 →
 Fin R [(B1, .cells ⟨((([] : List Value)).take (0 * 1) ++ news ++ r)⟩ 3)] [] w0 (.slice (SO B1) (0 + s_l) cap))) :
 Calls TP 90 ⟨[.slice s_p s_l s_c]⟩ W R:= by
 refine AtE.cs 8 Tryz.func90 hm (.ru 8 ?_)
 rcases s_p with _ | a
 ·replace H := H.1 rfl
  refine .ru 7 (.rt Tryz.func90 H)
 ·replace H := H.2 a rfl
  refine .ru 6 (.nw (fun B => .slice (SO B) 0 0) (.cells #[] 3) fun B => ?_)
  replace H := H B
  refine .ru 1 ?_
  obtain ⟨news, hsrc, H⟩ := H
  refine .appendOS 0 (T := 34) (U := 34) (E := 3) (z := IV 0) (sz := 1) (bytes := 8) (len := 0) (cap := 0) (x := .slice (some a) s_l s_c) (cs := ([] : List Value)) s_l news (by kernel_rfl) hsrc H.1 H.2.1 (fun B1 cap r h1 h2 => ?_)
  replace H := H.2.2 B1 cap r h1 h2
  refine .ru 2 (.rt Tryz.func90 H)
theorem cloneS_vc (s_p : OA) (s_l s_c : Nat) (hm : Mem [] [] w0 W)
 (H :
 ((s_p = none) →
 Fin R [] [] w0 (.slice none 0 0)) ∧
 (∀ a : Addr, s_p = some a →
 ∀ B : Nat,
 ∃ news : List Value, (∀ W, Mem [(B, .cells #[] 9)] [] w0 W → Go.Src TP 1 32 (.slice (some a) s_l s_c) s_l news W) ∧
 (0 ≤ 0 ∧ (([] : List Value)).length = 0 * 1) ∧ ((0 + s_l) ≤ 9223372036854775807 ∧ (0 + s_l) * 16 ≤ 140737488355328) ∧
 ∀ (B1 cap : Nat) (r : List Value), (0 + s_l) ≤ cap → ((([] : List Value)).take (0 * 1) ++ news ++ r).length = cap * 1 →
 Fin R [(B1, .cells ⟨((([] : List Value)).take (0 * 1) ++ news ++ r)⟩ 9)] [] w0 (.slice (SO B1) (0 + s_l) cap))) :
 Calls TP 88 ⟨[.slice s_p s_l s_c]⟩ W R:= by
 refine AtE.cs 8 Tryz.func88 hm (.ru 8 ?_)
 rcases s_p with _ | a
 ·replace H := H.1 rfl
  refine .ru 7 (.rt Tryz.func88 H)
 ·replace H := H.2 a rfl
  refine .ru 6 (.nw (fun B => .slice (SO B) 0 0) (.cells #[] 9) fun B => ?_)
  replace H := H B
  refine .ru 1 ?_
  obtain ⟨news, hsrc, H⟩ := H
  refine .appendOS 0 (T := 32) (U := 32) (E := 9) (z := .string (⟨#[]⟩)) (sz := 1) (bytes := 16) (len := 0) (cap := 0) (x := .slice (some a) s_l s_c) (cs := ([] : List Value)) s_l news (by kernel_rfl) hsrc H.1 H.2.1 (fun B1 cap r h1 h2 => ?_)
  replace H := H.2.2 B1 cap r h1 h2
  refine .ru 2 (.rt Tryz.func88 H)
theorem cloneB_vc (s_p : OA) (s_l s_c : Nat) (hm : Mem [] [] w0 W)
 (H :
 ((s_p = none) →
 Fin R [] [] w0 (.slice none 0 0)) ∧
 (∀ a : Addr, s_p = some a →
 ∀ B : Nat,
 ∃ news : List Value, (∀ W, Mem [(B, .cells #[] 149)] [] w0 W → Go.Src TP 9 33 (.slice (some a) s_l s_c) s_l news W) ∧
 (0 ≤ 0 ∧ (([] : List Value)).length = 0 * 9) ∧ ((0 + s_l) ≤ 9223372036854775807 ∧ (0 + s_l) * 96 ≤ 140737488355328) ∧
 ∀ (B1 cap : Nat) (r : List Value), (0 + s_l) ≤ cap → ((([] : List Value)).take (0 * 9) ++ news ++ r).length = cap * 9 →
 Fin R [(B1, .cells ⟨((([] : List Value)).take (0 * 9) ++ news ++ r)⟩ 149)] [] w0 (.slice (SO B1) (0 + s_l) cap))) :
 Calls TP 89 ⟨[.slice s_p s_l s_c]⟩ W R:= by
 refine AtE.cs 8 Tryz.func89 hm (.ru 8 ?_)
 rcases s_p with _ | a
 ·replace H := H.1 rfl
  refine .ru 7 (.rt Tryz.func89 H)
 ·replace H := H.2 a rfl
  refine .ru 6 (.nw (fun B => .slice (SO B) 0 0) (.cells #[] 149) fun B => ?_)
  replace H := H B
  refine .ru 1 ?_
  obtain ⟨news, hsrc, H⟩ := H
  refine .appendOS 0 (T := 33) (U := 33) (E := 149) (z := .agg #[IV 0, IV 0, .string (⟨#[]⟩), IV 0, IV 0, IV 0, .slice none 0 0, IV 0, IV 0]) (sz := 9) (bytes := 96) (len := 0) (cap := 0) (x := .slice (some a) s_l s_c) (cs := ([] : List Value)) s_l news (by kernel_rfl) hsrc H.1 H.2.1 (fun B1 cap r h1 h2 => ?_)
  replace H := H.2.2 B1 cap r h1 h2
  refine .ru 2 (.rt Tryz.func89 H)
theorem cloneF_vc (s_p : OA) (s_l s_c : Nat) (hm : Mem [] [] w0 W)
 (H :
 ((s_p = none) →
 Fin R [] [] w0 (.slice none 0 0)) ∧
 (∀ a : Addr, s_p = some a →
 ∀ B : Nat,
 ∃ news : List Value, (∀ W, Mem [(B, .cells #[] 38)] [] w0 W → Go.Src TP 23 22 (.slice (some a) s_l s_c) s_l news W) ∧
 (0 ≤ 0 ∧ (([] : List Value)).length = 0 * 23) ∧ ((0 + s_l) ≤ 9223372036854775807 ∧ (0 + s_l) * 272 ≤ 140737488355328) ∧
 ∀ (B1 cap : Nat) (r : List Value), (0 + s_l) ≤ cap → ((([] : List Value)).take (0 * 23) ++ news ++ r).length = cap * 23 →
 Fin R [(B1, .cells ⟨((([] : List Value)).take (0 * 23) ++ news ++ r)⟩ 38)] [] w0 (.slice (SO B1) (0 + s_l) cap))) :
 Calls TP 51 ⟨[.slice s_p s_l s_c]⟩ W R:= by
 refine AtE.cs 8 Tryz.func51 hm (.ru 8 ?_)
 rcases s_p with _ | a
 ·replace H := H.1 rfl
  refine .ru 7 (.rt Tryz.func51 H)
 ·replace H := H.2 a rfl
  refine .ru 6 (.nw (fun B => .slice (SO B) 0 0) (.cells #[] 38) fun B => ?_)
  replace H := H B
  refine .ru 1 ?_
  obtain ⟨news, hsrc, H⟩ := H
  refine .appendOS 0 (T := 22) (U := 22) (E := 38) (z := .agg #[IV 0, IV 0, IV 0, IV 0, .string (⟨#[]⟩), IV 0, IV 0, .string (⟨#[]⟩), .string (⟨#[]⟩), .slice none 0 0, .slice none 0 0, IV 0, .slice none 0 0, IV 0, IV 0, IV 0, IV 0, IV 0, .string (⟨#[]⟩), .string (⟨#[]⟩), IV 0, IV 0, IV 0]) (sz := 23) (bytes := 272) (len := 0) (cap := 0) (x := .slice (some a) s_l s_c) (cs := ([] : List Value)) s_l news (by kernel_rfl) hsrc H.1 H.2.1 (fun B1 cap r h1 h2 => ?_)
  replace H := H.2.2 B1 cap r h1 h2
  refine .ru 2 (.rt Tryz.func51 H)
abbrev noLk : Lk := fun _ _ => False
theorem lkU_no {F : SHeap} : ∀ b c, lkU F noLk b c → lkF F b c := by
 rintro b c (h | h)
 ·exact h
 ·exact h.elim
theorem cloneI_e {p : OA} {c : Nat} {l : List Int} (h : IntsL lk p l) (hs : l.length ≤ 1000000) : EffW TP 90 ⟨[.slice p l.length c]⟩ [] (fun W => ∀ b c, lk b c → lkW W b c)
  (fun v F => ∃ p' c', v = .slice p' l.length c' ∧ l.length ≤ c' ∧ IntsL (lkF F) p' l) := by
 intro W hm hlk
 refine cloneI_vc p l.length c hm ⟨fun hp => ?_, fun a ha B => ?_⟩
 ·have h0 : l.length = 0 := by
   rcases Nat.eq_zero_or_pos l.length with h0 | h0
   ·exact h0
   ·obtain ⟨b, o, cs, e, _⟩ := h h0
    rw [hp] at e; cases e
  exact dkFin ⟨none, 0, by rw [h0], by omega, ints_zero h0⟩
 ·subst ha
  refine ⟨_, src_ints h fun W hm => fun b c hb => lkW_kept hm b c (hlk b c hb), ⟨Nat.le_refl _, rfl⟩, by omega, fun B1 cap r q1 q2 => dkFin ⟨some ⟨B1, 0, none⟩, cap, by rw [Nat.zero_add], by omega, ?_⟩⟩
  exact (ints_new (lk := noLk) (r := r) List.mem_cons_self).mono lkU_no
theorem cloneS_e {p : OA} {c : Nat} {l : List BA} (h : StrsL lk p l) (hs : l.length ≤ 1000000) : EffW TP 88 ⟨[.slice p l.length c]⟩ [] (fun W => ∀ b c, lk b c → lkW W b c)
  (fun v F => ∃ p' c', v = .slice p' l.length c' ∧ l.length ≤ c' ∧ StrsL (lkF F) p' l) := by
 intro W hm hlk
 refine cloneS_vc p l.length c hm ⟨fun hp => ?_, fun a ha B => ?_⟩
 ·have h0 : l.length = 0 := by
   rcases Nat.eq_zero_or_pos l.length with h0 | h0
   ·exact h0
   ·obtain ⟨b, o, cs, e, _⟩ := h h0
    rw [hp] at e; cases e
  exact dkFin ⟨none, 0, by rw [h0], by omega, strs_zero h0⟩
 ·subst ha
  refine ⟨_, src_strs h fun W hm => fun b c hb => lkW_kept hm b c (hlk b c hb), ⟨Nat.le_refl _, rfl⟩, by omega, fun B1 cap r q1 q2 => dkFin ⟨some ⟨B1, 0, none⟩, cap, by rw [Nat.zero_add], by omega, ?_⟩⟩
  exact (strs_new (lk := noLk) (r := r) List.mem_cons_self).mono lkU_no
theorem gone_ok {f : Fct} (h : f.ok = true) (hk : aboutB f.kind = true) : (goneF f).ok = true := by
 have hk := of_decide_eq_true hk
 rw [Fct.ok] at h ⊢
 simp only [Bool.and_eq_true, decide_eq_true_eq] at h ⊢
 refine ⟨h.1, ?_, rfl⟩
 have hv := h.2.1
 have hs : f.stOk = true := by
  unfold Fct.vals at hv
  rcases hk with e | e | e <;> · rw [e] at hv; simp at hv; simp [hv]
 unfold Fct.vals
 have e10 : (goneF f).kind = 10 := rfl
 rw [e10]
 simp
 exact hs
theorem red_ok {f : Fct} (h : f.ok = true) : (redF f).ok = true := by
 cases hk : aboutB f.kind with
 | true => rw [redF, if_pos hk]; exact gone_ok h hk
 | false => rw [redF, if_neg (by rw [hk]; decide)]; exact h
theorem red_n (f : Fct) : (redF f).n = f.n := by
 unfold redF; split <;> rfl
def FRowL (lk : Lk) (cs : List Value) (l : List Fct) : Prop := ∀ i (h : i < l.length), i * 23 + 23 ≤ cs.length ∧ FctL lk ((cs.drop (i * 23)).take 23) l[i]
theorem FRowL.mono {lk lk' : Lk} {cs : List Value} {l : List Fct} (h : FRowL lk cs l) (hl : ∀ b c, lk b c → lk' b c) : FRowL lk' cs l := fun i hi => ⟨(h i hi).1, (h i hi).2.mono hl⟩
theorem FRowL.app {cs r : List Value} {l : List Fct} {f : Fct} {tc bc ac cap cap1 : Nat} (h : FRowL lk cs l) (h1 : l.length ≤ cap) (h2 : cs.length = cap * 23) (hf : FAt lk f tp tc bp bc ap ac)
  (q1 : l.length + 1 ≤ cap1) (q2 : (cs.take (l.length * 23) ++ f.cells tp tc bp bc ap ac ++ r).length = cap1 * 23) : FRowL lk (cs.take (l.length * 23) ++ f.cells tp tc bp bc ap ac ++ r) (l ++ [f]) := by
 have hn : l.length * 23 ≤ cs.length := by rw [h2]; exact Nat.mul_le_mul_right _ h1
 intro i hi
 have hi' : i < l.length + 1 := by simpa using hi
 refine ⟨by rw [q2]; omega, ?_⟩
 rcases Nat.lt_or_ge i l.length with hlt | hge
 ·rw [row_old hlt hn, List.getElem_append_left hlt]
  exact (h i hlt).2
 ·have : i = l.length := by omega
  subst this
  rw [row_new hn rfl]
  simp only [List.getElem_append_right (Nat.le_refl _), Nat.sub_self, List.getElem_cons_zero]
  exact ⟨tp, tc, bp, bc, ap, ac, rfl, hf⟩
theorem FRowL.one {r : List Value} {f : Fct} {tc bc ac cap : Nat} (hf : FAt lk f tp tc bp bc ap ac) (q1 : 1 ≤ cap) (q2 : (f.cells tp tc bp bc ap ac ++ r).length = cap * 23) : FRowL lk (f.cells tp tc bp bc ap ac ++ r) [f] := by
 intro i hi
 have : i = 0 := by simp at hi; omega
 subst this
 refine ⟨by rw [q2]; omega, tp, tc, bp, bc, ap, ac, ?_, hf⟩
 simp
theorem FRowL.app0 {cs r : List Value} {l : List Fct} (h : FRowL lk cs l) : FRowL lk (cs ++ r) l := by
 intro i hi
 have := (h i hi).1
 refine ⟨by rw [List.length_append]; omega, ?_⟩
 rw [List.drop_append_of_le_length (by omega), List.take_append_of_le_length (by rw [List.length_drop]; omega)]
 exact (h i hi).2
theorem FRowL.take {cs : List Value} {l : List Fct} (h : FRowL lk cs l) (n : Nat) : FRowL lk cs (l.take n) := by
 intro i hi
 rw [List.length_take] at hi
 rw [List.getElem_take]
 exact h i (by omega)
theorem fcts_nil {p : OA} : FctsL lk p [] := fun h => absurd h (by simp)
theorem FRowL.at {cs : List Value} {l : List Fct} {B : Nat} (h : FRowL lk cs l) (hb : lk B cs) : FctsL lk (SO B) l :=
 fun _ => ⟨B, 0, cs, rfl, hb, fun i hi => ⟨by rw [Nat.zero_add]; exact (h i hi).1, by rw [Nat.zero_add]; exact (h i hi).2⟩⟩
theorem row23_set_ne {cs vs : List Value} {i j : Nat} (hv : vs.length = 23) (hl : i * 23 + 23 ≤ cs.length) (h : j ≠ i) : ((over cs (i * 23) vs).drop (j * 23)).take 23 = (cs.drop (j * 23)).take 23 := by
 apply List.ext_getElem?
 intro q
 by_cases hq : q < 23
 ·rw [List.getElem?_take_of_lt hq, List.getElem?_take_of_lt hq, List.getElem?_drop, List.getElem?_drop]
  unfold over
  rcases Nat.lt_or_ge j i with hji | hji
  ·rw [List.append_assoc, List.getElem?_append_left (by rw [List.length_take]; omega), List.getElem?_take_of_lt (by omega)]
  ·rw [List.getElem?_append_right (by rw [List.length_append, List.length_take]; omega), List.getElem?_drop, List.length_append, List.length_take, hv]
   congr 1; omega
 ·rw [List.getElem?_eq_none (by rw [List.length_take]; omega), List.getElem?_eq_none (by rw [List.length_take]; omega)]
theorem row23_set_eq {cs vs : List Value} {i : Nat} (hv : vs.length = 23) (hl : i * 23 + 23 ≤ cs.length) : ((over cs (i * 23) vs).drop (i * 23)).take 23 = vs := by
 unfold over
 have h1 : (cs.take (i * 23)).length = i * 23 := by rw [List.length_take]; omega
 rw [List.append_assoc, List.drop_left' h1, List.take_left' hv]
theorem cells23_one (f : Fct) (tp : OA) (tc : Nat) (bp : OA) (bc : Nat) (ap : OA) (ac : Nat) : ∀ u ∈ f.cells tp tc bp bc ap ac, u.oneCell' = true := by
 intro u hu
 simp only [Fct.cells, List.mem_cons, List.not_mem_nil, or_false] at hu
 rcases hu with rfl | rfl | rfl | rfl | rfl | rfl | rfl | rfl | rfl | rfl | rfl | rfl | rfl | rfl | rfl | rfl | rfl | rfl | rfl | rfl | rfl | rfl | rfl <;> rfl
theorem take_rows23 {c : List Value} {o n : Nat} : (c.drop o).take ((n + 1) * 23) = (c.drop o).take (n * 23) ++ (c.drop (o + n * 23)).take 23 := by
 rw [show (n + 1) * 23 = n * 23 + 23 by omega, List.take_add, List.drop_drop]
theorem rows23_one {c : List Value} {o : Nat} {l : List Fct} (h : ∀ i (h : i < l.length), o + i * 23 + 23 ≤ c.length ∧ FctL lk ((c.drop (o + i * 23)).take 23) l[i]) : ∀ n, n ≤ l.length → ∀ u ∈ (c.drop o).take (n * 23), u.oneCell' = true
 | 0, _, u, hu => by simp at hu
 | n + 1, hn, u, hu => by
  rw [take_rows23] at hu
  rcases List.mem_append.1 hu with h1 | h1
  ·exact rows23_one h n (by omega) u h1
  ·obtain ⟨tp, tc, bp, bc, ap, ac, e, _⟩ := (h n (by omega)).2
   rw [e] at h1
   exact cells23_one _ _ _ _ _ _ _ u h1
theorem src_fcts {L : SHeap} {w0 : World} {lk : Lk} {p : OA} {c : Nat} {l : List Fct} (h : FctsL lk p l) (hlk : ∀ W, Mem L [] w0 W → ∀ b c, lk b c → lkW W b c) :
  ∃ news, (∀ W, Mem L [] w0 W → Go.Src TP 23 22 (.slice p l.length c) l.length news W) ∧ news.length = l.length * 23 ∧ FRowL lk news l := by
 rcases Nat.eq_zero_or_pos l.length with h0 | hpos
 ·have : l = [] := List.length_eq_zero_iff.1 h0
  subst this
  refine ⟨[], ?_, rfl, fun i hi => absurd hi (by simp)⟩
  cases p with
  | none => exact srcNil (E' := 38) (by kernel_rfl)
  | some a => exact srcSl (E' := 38) (by kernel_rfl) (Src.nil a) rfl (fun u hu => absurd hu (by simp))
 ·obtain ⟨b, o, cs, rfl, h2, h3⟩ := h hpos
  have hend := (h3 (l.length - 1) (by omega)).1
  have hlen : ((cs.drop o).take (l.length * 23)).length = l.length * 23 := by rw [List.length_take, List.length_drop]; omega
  refine ⟨(cs.drop o).take (l.length * 23), srcSl (E' := 38) (by kernel_rfl) (src_lk (fun W hm => hlk W hm _ _ h2) fun i hi => ?_) hlen (rows23_one h3 l.length (Nat.le_refl _)), hlen, fun i hi => ⟨by rw [hlen]; omega, ?_⟩⟩
  ·rw [hlen] at hi
   rw [List.getElem?_take_of_lt hi, List.getElem?_drop]
  ·have : (((cs.drop o).take (l.length * 23)).drop (i * 23)).take 23 = (cs.drop (o + i * 23)).take 23 := by
    rw [List.drop_take, List.drop_drop, List.take_take, Nat.min_eq_left (by omega)]
   rw [this]
   exact (h3 i hi).2
theorem foldset_keep' {f : Fct} {y : Fld} : ∀ (l : List Fld) (g : Fct), y ∉ l → (l.foldl (fun g x => g.set x (f.get x)) g).get y = g.get y
 | [], _, _ => rfl
 | x :: l, g, h => by
  rw [List.foldl_cons, foldset_keep' l _ (fun hm => h (List.mem_cons_of_mem _ hm)), Fct.get_set_ne _ (fun e => h (by rw [e]; exact List.mem_cons_self))]
theorem listGo_each : ∀ (l seen : List Blk), listGo seen l = true → ∀ b ∈ l, b.ok = true
 | [], _, _, b, hb => by cases hb
 | a :: l, seen, h, b, hb => by
  rw [listGo] at h
  simp only [Bool.and_eq_true] at h
  rcases List.mem_cons.1 hb with rfl | hb
  ·exact h.1
  ·exact listGo_each l _ h.2.2 b hb
theorem lab_after {l : Lab} (h : l.ok = true) : l.after.length ≤ 64 := (Lab.ok_vOk h).2.1
theorem ok_small {f : Fct} (h : f.ok = true) : f.Small := by
 have hg := Fct.good h
 have keep : ∀ x, x ∉ kfields f.kind → f.get x = (Fct.bare f.n f.time f.kind).get x := fun x hx => by
  conv => lhs; rw [hg.used]
  exact foldset_keep' _ _ hx
 refine ⟨?_, ?_, ?_, ?_⟩
 ·by_cases hm : Fld.topics ∈ kfields f.kind
  ·have : f.topics.length ≤ 4 := (hg.fields _ hm).1
   omega
  ·have : f.topics = [] := keep .topics hm
   rw [this]; exact Nat.zero_le _
 ·by_cases hm : Fld.blocks ∈ kfields f.kind
  ·have : listOk f.blocks = true := hg.fields _ hm
   simp only [listOk, Bool.and_eq_true, decide_eq_true_eq] at this
   omega
  ·have : f.blocks = [] := keep .blocks hm
   rw [this]; exact Nat.zero_le _
 ·by_cases hm : Fld.label ∈ kfields f.kind
  ·have : f.lab.after.length ≤ 64 := (hg.fields _ hm).2.1
   omega
  ·have : f.lab = Lab.zero := keep .label hm
   rw [this]; exact Nat.zero_le _
 ·by_cases hm : Fld.blocks ∈ kfields f.kind
  ·have : listOk f.blocks = true := hg.fields _ hm
   simp only [listOk, Bool.and_eq_true, decide_eq_true_eq] at this
   intro b hb
   have hb := listGo_each _ _ this.2 b hb
   simp only [Blk.ok, Bool.and_eq_true] at hb
   have := lab_after hb.2.1
   omega
  ·have : f.blocks = [] := keep .blocks hm
   intro b hb; rw [this] at hb; cases hb
set_option maxRecDepth 100000
abbrev zK1aa (x0 x1 : Nat) (x2 : OA) : Array Value := #[IV 0, IV 0, IV 0, IV 0, .string (⟨#[]⟩), IV 0, IV 0, .string (⟨#[]⟩), .string (⟨#[]⟩), .slice none 0 0, .slice x2 x0 x1, IV 0, .slice none 0 0, IV 0, IV 0, IV 0, IV 0, IV 0, .string (⟨#[]⟩), .string (⟨#[]⟩), IV 0, IV 0, IV 0]
abbrev zK1ab (x0 : Fct) (x1 x2 x3 x4 x5 x6 : Nat) (x7 x8 : OA) : Array Value := #[IV x0.n, IV x0.time, IV x0.kind, IV x0.story, .string x0.lang, IV x0.rev, IV x0.base, .string x0.title, .string x0.author, .slice x7 x1 x2, .slice (SO x3) x4 x5, IV x0.lab.unt, .slice x8 x0.lab.after.length x6, IV x0.lab.appr, IV x0.lab.den, IV x0.editor, IV x0.block, IV x0.sentence, .string x0.text, .string x0.name, IV x0.partner, IV x0.cls, IV x0.unt]
abbrev zK1ac (x0 : Fct) (x1 x2 x3 x4 x5 : Nat) (x6 x7 x8 : OA) : Array Value := #[IV x0.n, IV x0.time, IV x0.kind, IV x0.story, .string x0.lang, IV x0.rev, IV x0.base, .string x0.title, .string x0.author, .slice x6 x1 x2, .slice x7 x3 x4, IV x0.lab.unt, .slice x8 x0.lab.after.length x5, IV x0.lab.appr, IV x0.lab.den, IV x0.editor, IV x0.block, IV x0.sentence, .string x0.text, .string x0.name, IV x0.partner, IV x0.cls, IV x0.unt]
abbrev copiedH0 (Q : Nat) (cs : List Value) (B2 : Nat) (f : Fct) (m9_p : OA) (m9_l m9_c m10_l m10_c : Nat) (fap : OA) (fac B3 : Nat) (m101_p : OA) (m101_l m101_c : Nat) (F4 : SHeap) : SHeap := ((Q, .cells ⟨cs⟩ 149) :: (B2, .cells (zK1ab f m9_l m9_c Q m10_l m10_c fac m9_p fap) 38) :: (B3, .cells (zK1aa m101_l m101_c m101_p) 38) :: F4)
abbrev copiedH1 (Q : Nat) (cs : List Value) (B2 : Nat) (f : Fct) (m9_p : OA) (m9_l m9_c m10_l m10_c : Nat) (fap : OA) (fac B3 : Nat) (m101_p : OA) (m101_l m101_c : Nat) (F5 : SHeap) : SHeap := ((Q, .cells ⟨cs⟩ 149) :: (B2, .cells (zK1ab f m9_l m9_c Q m10_l m10_c fac m9_p fap) 38) :: (B3, .cells (zK1aa m101_l m101_c m101_p) 38) :: F5)
abbrev copiedH2 (B2 : Nat) (f : Fct) (m9_p : OA) (m9_l m9_c Q m10_l m10_c : Nat) (fap : OA) (fac B3 : Nat) (m101_p : OA) (m101_l m101_c : Nat) : SHeap := [(B2, .cells (zK1ab f m9_l m9_c Q m10_l m10_c fac m9_p fap) 38), (B3, .cells (zK1aa m101_l m101_c m101_p) 38)]
abbrev copiedH3 (B2 : Nat) (f : Fct) (m9_p : OA) (m9_l m9_c : Nat) (m10_p : OA) (m10_l m10_c : Nat) (fap : OA) (fac B3 : Nat) (m101_p : OA) (m101_l m101_c : Nat) (F3 : SHeap) : SHeap := ((B2, .cells (zK1ac f m9_l m9_c m10_l m10_c fac m9_p m10_p fap) 38) :: (B3, .cells (zK1aa m101_l m101_c m101_p) 38) :: F3)
abbrev copiedA0 (f : Fct) (m9_p : OA) (m9_l m9_c : Nat) (m10_p : OA) (m10_l m10_c : Nat) (sp3 : OA) (sc3 : Nat) : Array Value := (zK1ac f m9_l m9_c m10_l m10_c sc3 m9_p m10_p sp3)
abbrev copiedA1 : Array Value := #[IV 0, IV 0, IV 0, IV 0, .string (⟨#[]⟩), IV 0, IV 0, .string (⟨#[]⟩), .string (⟨#[]⟩), .slice none 0 0, .slice none 0 0, IV 0, .slice none 0 0, IV 0, IV 0, IV 0, IV 0, IV 0, .string (⟨#[]⟩), .string (⟨#[]⟩), IV 0, IV 0, IV 0]
abbrev copiedA2 (f : Fct) (ftp : OA) (ftc : Nat) (fbp : OA) (fbc : Nat) (fap : OA) (fac : Nat) : Array Value := ⟨f.cells ftp ftc fbp fbc fap fac⟩
abbrev copiedA3 (m101_p : OA) (m101_l m101_c : Nat) : Array Value := (zK1aa m101_l m101_c m101_p)
abbrev copiedA4 (f : Fct) (sp : OA) (sc : Nat) (fbp : OA) (fbc : Nat) (fap : OA) (fac : Nat) : Array Value := ⟨f.cells sp sc fbp fbc fap fac⟩
def copied_c0 (f : Fct) (ftp : OA) (ftc : Nat) (fbp : OA) (fbc : Nat) (fap : OA) (fac B2 B3 : Nat) (t15 : Int) (m9_p : OA) (m9_l m9_c : Nat) (m10_p : OA) (m10_l m10_c : Nat) (m101_p : OA) (m101_l m101_c : Nat) (F3 : SHeap) (w0 : World) (R : Ending → World → Prop) : Prop :=
 AtE TP 52 40 (KC Tryz.f52 244) [(1, PP B2), (2, PP B3), (14, IV (f.blocks.length : Int)), (15, IV t15)] (copiedH3 B2 f m9_p m9_l m9_c m10_p m10_l m10_c fap fac B3 m101_p m101_l m101_c F3) [] w0 (nrm R)
theorem copied_c0_vc (f : Fct) (ftp : OA) (ftc : Nat) (fbp : OA) (fbc : Nat) (fap : OA) (fac B2 B3 : Nat) (t15 : Int) (m9_p : OA) (m9_l m9_c : Nat) (m10_p : OA) (m10_l m10_c : Nat) (m101_p : OA) (m101_l m101_c : Nat) (F3 : SHeap)
 (H :
 Br (t15 < (f.blocks.length : Int))
 (∃ (Q : Nat) (cs : List Value) (F4 : SHeap), m10_p = some ⟨Q, 0, none⟩ ∧ F3.Perm ((Q, .cells ⟨cs⟩ 149) :: F4) ∧
 (0 ≤ t15 ∧ t15 < m10_l) ∧
 ∃ (m1_p : OA) (m1_l : Nat) (m1_c : Nat), (cs)[((((Int.toNat t15) * 9) + 5) + 1)]? = some (.slice m1_p m1_l m1_c) ∧
 CallH TP 90 ⟨[.slice m1_p m1_l m1_c]⟩ (copiedH0 Q cs B2 f m9_p m9_l m9_c m10_l m10_c fap fac B3 m101_p m101_l m101_c F4) [] w0 (fun v L' => ∃ (sp2 : OA) (sc2 : Nat), ∃ F5, v = (.slice sp2 m1_l sc2) ∧ L' = (copiedH1 Q cs B2 f m9_p m9_l m9_c m10_l m10_c fap fac B3 m101_p m101_l m101_c F5) ∧
 (0 ≤ t15 ∧ t15 < m10_l) ∧
 (((((Int.toNat t15) * 9) + 5) + 1) < (cs).length) ∧
 copied_c0 f ftp ftc fbp fbc fap fac B2 B3 (IntKind.i64.wrap (t15 + (1 : Int))) m9_p m9_l m9_c (SO Q) m10_l m10_c m101_p m101_l m101_c ((Q, .cells ⟨((cs).set ((((Int.toNat t15) * 9) + 5) + 1) (.slice sp2 m1_l sc2))⟩ 149) :: F5) w0 R))
 (CallH TP 90 ⟨[.slice fap f.lab.after.length fac]⟩ (copiedH3 B2 f m9_p m9_l m9_c m10_p m10_l m10_c fap fac B3 m101_p m101_l m101_c F3) [] w0 (fun v L' => ∃ (sp3 : OA) (sc3 : Nat), ∃ F6, v = (.slice sp3 f.lab.after.length sc3) ∧ L' = ((B2, .cells (zK1ac f m9_l m9_c m10_l m10_c fac m9_p m10_p fap) 38) :: (B3, .cells (copiedA3 m101_p m101_l m101_c) 38) :: F6) ∧
 Fin R ((B2, .cells (copiedA0 f m9_p m9_l m9_c m10_p m10_l m10_c sp3 sc3) 38) :: (B3, .cells (copiedA0 f m9_p m9_l m9_c m10_p m10_l m10_c sp3 sc3) 38) :: F6) [] w0 (.agg (copiedA0 f m9_p m9_l m9_c m10_p m10_l m10_c sp3 sc3))))) :
 copied_c0 f ftp ftc fbp fbc fap fac B2 B3 t15 m9_p m9_l m9_c m10_p m10_l m10_c m101_p m101_l m101_c F3 w0 R:= by
 unfold copied_c0
 refine .ru 5 (.sP 16 H ?_ ?_) <;> clear H <;> intro H
 ·refine .ru 9 ?_
  obtain ⟨Q, cs, F4, rfl, hperm, H⟩ := H
  refine .permL (L' := (Q, .cells ⟨cs⟩ 149) :: ((copiedH2 B2 f m9_p m9_l m9_c Q m10_l m10_c fap fac B3 m101_p m101_l m101_c) ++ F4)) (perm_tail (A := (copiedH2 B2 f m9_p m9_l m9_c Q m10_l m10_c fap fac B3 m101_p m101_l m101_c)) hperm) (.nm (KC Tryz.f52 7833) [(1, PP B2), (2, PP B3), (3, IV t15), (14, IV (f.blocks.length : Int)), (15, IV t15)] (copiedH0 Q cs B2 f m9_p m9_l m9_c m10_l m10_c fap fac B3 m101_p m101_l m101_c F4) (.nm (KC Tryz.f52 7833) [(1, PP B2), (2, PP B3), (3, IV t15), (14, IV (f.blocks.length : Int)), (15, IV t15)] (copiedH0 Q cs B2 f m9_p m9_l m9_c m10_l m10_c fap fac B3 m101_p m101_l m101_c F4) (.dD (.ph 11 [0,1,2,3,4,5,6,7,8,9] [10] [(Q, .cells ⟨cs⟩ 149), (B2, .cells (zK1ab f m9_l m9_c Q m10_l m10_c fac m9_p fap) 38), (B3, .cells (copiedA3 m101_p m101_l m101_c) 38)] (.pu (.ld 1 10 (.pu (.pu (.ld 1 10 (.pu (.indexAddrL (E := 149) (b := Q) (o := 0) (len := m10_l) (cap := m10_c) (sz := 9) (o' := ((Int.toNat t15) * 9)) (kd := .i64) (i := t15) (by kernel_rfl) H.1 (by omega) ?_)))))))))))
  replace H := H.2
  refine .pu (.pu ?_)
  obtain ⟨m1_p, m1_l, m1_c, hx, H⟩ := H
  refine .loadS 0 (off := ((((Int.toNat t15) * 9) + 5) + 1)) (T := 34) (v := .slice m1_p m1_l m1_c) (by kernel_rfl) (valAt_one hx (by kernel_rfl)) (.dn (.cl H ?_))
  clear H
  rintro _ _ ⟨sp2, sc2, F5, rfl, rfl, H⟩
  refine .dn (.nm [(1, PP B2), (2, PP B3), (14, IV (f.blocks.length : Int)), (15, IV t15), (19, .slice (SO Q) m10_l m10_c), (20, IV t15), (28, .slice sp2 m1_l sc2)] (copiedH1 Q cs B2 f m9_p m9_l m9_c m10_l m10_c fap fac B3 m101_p m101_l m101_c F5) (.tl (.indexAddrL (E := 149) (b := Q) (o := 0) (len := m10_l) (cap := m10_c) (sz := 9) (o' := ((Int.toNat t15) * 9)) (kd := .i64) (i := t15) (by kernel_rfl) H.1 (by omega) ?_)))
  replace H := H.2
  refine .ru 2 (.storeS 0 (off := ((((Int.toNat t15) * 9) + 5) + 1)) (lo := 0) (hi := 0) (T := 34) (v := .slice sp2 m1_l sc2) (c := cs) (by kernel_rfl) H.1 (.inr (Nat.zero_le _)) ?_)
  replace H := H.2
  refine .ru 7 (.tT [1,2,0] 3 H)
 ·refine .ru 6 (.ld 0 12 (.cl H ?_))
  clear H
  rintro _ _ ⟨sp3, sc3, F6, rfl, rfl, H⟩
  refine .ru 2 (.store 0 12 (T := 34) (v := .slice sp3 f.lab.after.length sc3) (by kernel_rfl) (.ru 3 (.ld 0 0 (.store 1 0 (T := 38) (v := .agg (copiedA0 f m9_p m9_l m9_c m10_p m10_l m10_c sp3 sc3)) (by kernel_rfl) (.ru 1 (.retC 1 0 (a := 2) (T := 38) (v := .agg (copiedA0 f m9_p m9_l m9_c m10_p m10_l m10_c sp3 sc3)) Tryz.func52 (by kernel_rfl) (by kernel_rfl) H))))))
theorem copied_vc (f : Fct) (ftp : OA) (ftc : Nat) (fbp : OA) (fbc : Nat) (fap : OA) (fac : Nat) (F : SHeap) (hm : Mem (F) [] w0 W)
 (H :
 ∀ B B1 : Nat,
 CallH TP 88 ⟨[.slice ftp f.topics.length ftc]⟩ ((B1, .cells copiedA1 38) :: (B, .cells (copiedA2 f ftp ftc fbp fbc fap fac) 38) :: F) [] w0 (fun v L' => ∃ (sp : OA) (sc : Nat), ∃ F1, v = (.slice sp f.topics.length sc) ∧ L' = ((B1, .cells copiedA1 38) :: (B, .cells (copiedA2 f ftp ftc fbp fbc fap fac) 38) :: F1) ∧
 CallH TP 89 ⟨[.slice fbp f.blocks.length fbc]⟩ ((B1, .cells copiedA1 38) :: (B, .cells (copiedA4 f sp sc fbp fbc fap fac) 38) :: F1) [] w0 (fun v L' => ∃ (sp1 : OA) (sc1 : Nat), ∃ F2, v = (.slice sp1 f.blocks.length sc1) ∧ L' = ((B1, .cells copiedA1 38) :: (B, .cells (copiedA4 f sp sc fbp fbc fap fac) 38) :: F2) ∧
 copied_c0 f ftp ftc fbp fbc fap fac B B1 (0 : Int) sp f.topics.length sc sp1 f.blocks.length sc1 none 0 0 F2 w0 R))) :
 Calls TP 52 ⟨[.agg (copiedA2 f ftp ftc fbp fbc fap fac)]⟩ W R:= by
 refine AtE.cs 40 Tryz.func52 hm (.ru 2 (.nH (.cells (copiedA2 f ftp ftc fbp fbc fap fac) 38) H fun B H => (.front (.nH (.cells copiedA1 38) H fun B1 H => (.front (.ru 4 (.ld 1 9 (.cl H ?_))))))))
 rintro _ _ ⟨sp, sc, F1, rfl, rfl, H⟩
 refine .ru 1 (.st 1 9 (.ru 4 (.ld 1 10 (.cl H ?_))))
 rintro _ _ ⟨sp1, sc1, F2, rfl, rfl, H⟩
 refine .ru 1 (.st 1 10 (.ru 5 (.ld 1 10 (.ru 5 (.tT [1,0] 2 H)))))
theorem slice_nil {p : OA} (hp : p = none) {n : Nat} {Q : Nat → Nat → List Value → Prop} (h : 0 < n → ∃ (b o : Nat) (c : List Value), p = some ⟨b, o, none⟩ ∧ Q b o c) : n = 0 := by
 rcases Nat.eq_zero_or_pos n with h0 | h0
 ·exact h0
 ·obtain ⟨b, o, cs, e, _⟩ := h h0
  rw [hp] at e; cases e
def BlkOutL (lk : Lk) (l : List Blk) (v : Value) (F : SHeap) : Prop :=
 ∃ p' c', v = .slice p' l.length c' ∧ l.length ≤ c' ∧ (0 < l.length → ∃ Q cs, p' = some ⟨Q, 0, none⟩ ∧ F = [(Q, .cells ⟨cs⟩ 149)] ∧ BRowL lk cs l)
theorem cloneB_e {p : OA} {c : Nat} {l : List Blk} (h : BlksL lk p l) (hs : l.length ≤ 1000000) : EffW TP 89 ⟨[.slice p l.length c]⟩ [] (fun W => ∀ b c, lk b c → lkW W b c) (BlkOutL lk l) := by
 intro W hm hlk
 refine cloneB_vc p l.length c hm ⟨fun hp => ?_, fun a ha B => ?_⟩
 ·have h0 : l.length = 0 := slice_nil hp h
  exact dkFin ⟨none, 0, by rw [h0], by omega, fun hpos => absurd hpos (by omega)⟩
 ·subst ha
  obtain ⟨news, n1, n2, n3⟩ := src_blks (c := c) (L := [(B, .cells #[] 149)]) (w0 := W) h fun W' hm' => fun b c hb => lkW_kept hm' b c (hlk b c hb)
  refine ⟨news, n1, ⟨Nat.le_refl _, rfl⟩, by omega, fun B1 cap r q1 q2 => dkFin ⟨some ⟨B1, 0, none⟩, cap, by rw [Nat.zero_add], by omega, fun _ => ⟨B1, _, rfl, rfl, n3.app0⟩⟩⟩
def FctOutL (lk : Lk) (l : List Fct) (v : Value) (F : SHeap) : Prop :=
 ∃ p' c', v = .slice p' l.length c' ∧ l.length ≤ c' ∧ (0 < l.length → ∃ Q cs, p' = some ⟨Q, 0, none⟩ ∧ F = [(Q, .cells ⟨cs⟩ 38)] ∧ cs.length = c' * 23 ∧ FRowL lk cs l) ∧ (l.length = 0 → (p' = none ∧ c' = 0 ∧ F = []) ∨ ∃ Q cs, p' = some ⟨Q, 0, none⟩ ∧ F = [(Q, .cells ⟨cs⟩ 38)] ∧ cs.length = c' * 23)
theorem cloneF_e {p : OA} {c : Nat} {l : List Fct} (h : FctsL lk p l) (hs : l.length ≤ 1000000) : EffW TP 51 ⟨[.slice p l.length c]⟩ [] (fun W => ∀ b c, lk b c → lkW W b c) (FctOutL lk l) := by
 intro W hm hlk
 refine cloneF_vc p l.length c hm ⟨fun hp => ?_, fun a ha B => ?_⟩
 ·have h0 : l.length = 0 := slice_nil hp h
  exact dkFin ⟨none, 0, by rw [h0], by omega, fun hpos => absurd hpos (by omega), fun _ => .inl ⟨rfl, rfl, rfl⟩⟩
 ·subst ha
  obtain ⟨news, n1, n2, n3⟩ := src_fcts (c := c) (L := [(B, .cells #[] 38)]) (w0 := W) h fun W' hm' => fun b c hb => lkW_kept hm' b c (hlk b c hb)
  refine ⟨news, n1, ⟨Nat.le_refl _, rfl⟩, by omega, fun B1 cap r q1 q2 => dkFin ⟨some ⟨B1, 0, none⟩, cap, by rw [Nat.zero_add], by omega, fun _ => ⟨B1, _, rfl, rfl, q2, n3.app0⟩, fun _ => .inr ⟨B1, _, rfl, rfl, q2⟩⟩⟩
theorem CallH.new (told : SHeap) {T : SHeap} (h : EffW P g args [] (fun W => ∀ b c, lk b c → lkW W b c) K) (hlk : ∀ W, Mem (told ++ T) S w0 W → ∀ b c, lk b c → lkW W b c)
  (hK : ∀ v F', K v F' → K' v (told ++ (F' ++ T))) : CallH P g args (told ++ T) S w0 K' :=
 CallH.effW (L0 := []) (L1 := told ++ T) h hlk (List.Perm.refl _) fun v F' hk => ⟨told ++ (F' ++ T), List.perm_append_comm_assoc _ _ _, hK v F' hk⟩
def BRow2 (lk lk' : Lk) (cs : List Value) (l : List Blk) (i : Nat) : Prop := ∀ j (h : j < l.length), j * 9 + 9 ≤ cs.length ∧ ((j < i → BlkL lk' ((cs.drop (j * 9)).take 9) l[j]) ∧ (i ≤ j → BlkL lk ((cs.drop (j * 9)).take 9) l[j]))
theorem BRow2.put {lk lk2 lk' lk2' : Lk} {cs : List Value} {l : List Blk} {i : Nat} {p' : OA} {c' : Nat} (h : BRow2 lk lk' cs l i) (hi : i < l.length) (hl : ∀ b c, lk b c → lk2 b c) (hl' : ∀ b c, lk' b c → lk2' b c) (hp : IntsL lk2' p' l[i].lab.after) :
  BRow2 lk2 lk2' (cs.set (i * 9 + 5 + 1) (.slice p' l[i].lab.after.length c')) l (i + 1) := by
 intro j hj
 obtain ⟨h1, h2, h3⟩ := h j hj
 refine ⟨by rw [List.length_set]; exact h1, fun hji => ?_, fun hji => ?_⟩
 ·by_cases e : j = i
  ·subst e
   obtain ⟨p, c, e, _, k3⟩ := h3 (Nat.le_refl _)
   exact ⟨p', c', row_set_eq h1 e, hp, k3⟩
  ·rw [row_set_ne (by omega)]
   exact (h2 (by omega)).mono hl'
 ·rw [row_set_ne (by omega)]
  exact (h3 (by omega)).mono hl
def CopOut (f : Fct) (v : Value) (F : SHeap) : Prop := ∃ tp tc bp bc ap ac, v = .agg ⟨f.cells tp tc bp bc ap ac⟩ ∧ FAt (lkF F) f tp tc bp bc ap ac
theorem copied_end {f : Fct} (hlk : ∀ b c, lk b c → lkW w0 b c) (h : FAt lk f tp tc bp bc ap ac) (hs : f.Small) {B2 B3 : Nat} {xp yp zp : OA} {xc yc zl zc : Nat} {T : SHeap}
  (h1 : StrsL (lkF T) xp f.topics) (h2 : f.topics.length ≤ xc) (h3 : BlksL (lkF T) yp f.blocks) (h4 : f.blocks.length ≤ yc) :
  copied_c0 f tp tc bp bc ap ac B2 B3 (f.blocks.length : Int) xp f.topics.length xc yp f.blocks.length yc zp zl zc T w0 (fun e W' => ∃ v L', e = .returned v ∧ Mem L' [] w0 W' ∧ CopOut f v L') := by
 apply copied_c0_vc
 refine no (by omega) (CallH.new [_, _] (cloneI_e h.ints (Nat.le_trans hs.ints (by omega))) (fun W hm b c hb => lkW_kept hm b c (hlk b c hb)) ?_)
 rintro _ F' ⟨p', c', rfl, k1, k2⟩
 refine ⟨p', c', _, rfl, rfl, dkFin ⟨xp, xc, yp, yc, p', c', rfl, ?_⟩⟩
 exact ⟨h1.mono (lkF_mono fun x hx => by simp [hx]), h3.mono (lkF_mono fun x hx => by simp [hx]), k2.mono (lkF_mono fun x hx => by simp [hx]), h2, h4, k1, h.fits⟩
theorem copied_loop {f : Fct} (hlk : ∀ b c, lk b c → lkW w0 b c) (h : FAt lk f tp tc bp bc ap ac) (hs : f.Small) {B2 B3 Q : Nat} {xp : OA} {xc yc : Nat} (h2 : f.topics.length ≤ xc) (h4 : f.blocks.length ≤ yc) :
  ∀ (g i : Nat) (cs : List Value) (T T0 : SHeap) (zp : OA) (zl zc : Nat), g + i = f.blocks.length → T.Perm ((Q, .cells ⟨cs⟩ 149) :: T0) → StrsL (lkF T0) xp f.topics → BRow2 (lkU T0 lk) (lkF T0) cs f.blocks i →
   copied_c0 f tp tc bp bc ap ac B2 B3 (i : Int) xp f.topics.length xc (SO Q) f.blocks.length yc zp zl zc T w0 (fun e W' => ∃ v L', e = .returned v ∧ Mem L' [] w0 W' ∧ CopOut f v L')
 | 0, i, cs, T, T0, zp, zl, zc, hg, hp, h1, h3 => by
  obtain rfl : i = f.blocks.length := by omega
  refine copied_end hlk h hs (h1.mono (lkF_mono fun x hx => hp.mem_iff.2 (List.mem_cons_of_mem _ hx))) h2 (fun _ => ⟨Q, 0, cs, rfl, ⟨_, _, hp.mem_iff.2 List.mem_cons_self⟩, fun j hj => ?_⟩) h4
  rw [Nat.zero_add]
  exact ⟨(h3 j hj).1, ((h3 j hj).2.1 hj).mono (lkF_mono fun x hx => hp.mem_iff.2 (List.mem_cons_of_mem _ hx))⟩
 | g + 1, i, cs, T, T0, zp, zl, zc, hg, hp, h1, h3 => by
  apply copied_c0_vc
  have hb := hs.blks
  have hi : i < f.blocks.length := by omega
  obtain ⟨k1, k2, k3⟩ := h3 i hi
  obtain ⟨p, c, e, q2, q3⟩ := k3 (Nat.le_refl _)
  have he := hs.each _ (List.getElem_mem hi)
  have hw : IntKind.i64.wrap ((i : Int) + 1) = ((i + 1 : Nat) : Int) := by rw [wi64 (by omega)]; omega
  refine yes (by omega) ⟨Q, cs, T0, rfl, hp, by omega, p, f.blocks[i].lab.after.length, c, by rw [Int.toNat_natCast, Nat.add_assoc, row_get (by decide) e]; rfl, ?_⟩
  refine CallH.new [_, _, _] (cloneI_e q2 (by omega)) (fun W hm => lkU_in hlk hm fun x hx => by simp [hx]) ?_
  rintro _ F' ⟨p', c', rfl, m1, m2⟩
  refine ⟨p', c', _, rfl, rfl, by omega, by rw [Int.toNat_natCast]; omega, ?_⟩
  rw [hw, Int.toNat_natCast]
  exact copied_loop hlk h hs h2 h4 g (i + 1) _ _ (F' ++ T0) zp zl zc (by omega) (List.Perm.refl _) (h1.mono (lkF_mono fun x hx => List.mem_append_right _ hx))
   (h3.put hi (lkU_mono fun x hx => List.mem_append_right _ hx) (lkF_mono fun x hx => List.mem_append_right _ hx) (m2.mono (lkF_mono fun x hx => List.mem_append_left _ hx)))
theorem copied_e {f : Fct} (h : FAt lk f tp tc bp bc ap ac) (hs : f.Small) : EffW TP 52 ⟨[.agg ⟨f.cells tp tc bp bc ap ac⟩]⟩ [] (fun W => ∀ b c, lk b c → lkW W b c) (CopOut f) := by
 intro W hm hlk
 refine copied_vc f tp tc bp bc ap ac [] hm fun B B1 => CallH.new [_, _] (cloneS_e h.tops (Nat.le_trans hs.tops (by omega))) (fun W hm b c hb => lkW_kept hm b c (hlk b c hb)) ?_
 rintro _ F1 ⟨p1, c1, rfl, m1, m2⟩
 refine ⟨p1, c1, _, rfl, rfl, CallH.new [_, _] (cloneB_e h.blks (Nat.le_trans hs.blks (by omega))) (fun W hm b c hb => lkW_kept hm b c (hlk b c hb)) ?_⟩
 rintro _ F2 ⟨p2, c2, rfl, m3, m4⟩
 refine ⟨p2, c2, _, rfl, rfl, ?_⟩
 rcases Nat.eq_zero_or_pos f.blocks.length with h0 | hpos
 ·have hbn : f.blocks = [] := List.length_eq_zero_iff.1 h0
  have := copied_end hlk h hs (B2 := B) (B3 := B1) (xp := p1) (yp := p2) (zp := none) (xc := c1) (yc := c2) (zl := 0) (zc := 0) (T := F2 ++ (F1 ++ [])) (m2.mono (lkF_mono fun x hx => by simp [hx])) m1 (by rw [hbn]; exact blks_nil) m3
  rw [h0] at this ⊢
  exact this
 ·obtain ⟨Q, cs, rfl, rfl, m5⟩ := m4 hpos
  refine copied_loop hlk h hs m1 m3 f.blocks.length 0 cs _ (F1 ++ []) none 0 0 (by omega) (List.Perm.refl _) (m2.mono (lkF_mono fun x hx => by simp [hx])) fun j hj => ⟨(m5 j hj).1, fun hh => absurd hh (by omega), fun _ => (m5 j hj).2.mono lkU_r⟩
set_option maxRecDepth 100000
abbrev jFactsH0 (B1 : Nat) (m1 : Fct) (m1tp : OA) (m1tc : Nat) (m1bp : OA) (m1bc : Nat) (m1ap : OA) (m1ac B : Nat) (gen : Int) (fp : OA) (fl fc : Nat) (en : Int) (m3_b : Nat) (sz cu : Int) (m6 : Bool) : SHeap := [(B1, .cells ⟨m1.cells m1tp m1tc m1bp m1bc m1ap m1ac⟩ 38), (B, .cells #[IV gen, .slice fp fl fc, IV en, PP m3_b, IV sz, IV cu, .bool m6] 86)]
abbrev jFactsA0 (m1 : Fct) (m1tp : OA) (m1tc : Nat) (m1bp : OA) (m1bc : Nat) (m1ap : OA) (m1ac : Nat) : Array Value := ⟨m1.cells m1tp m1tc m1bp m1bc m1ap m1ac⟩
abbrev jFactsA1 (cv : Fct) (cvtp : OA) (cvtc : Nat) (cvbp : OA) (cvbc : Nat) (cvap : OA) (cvac : Nat) : Array Value := ⟨cv.cells cvtp cvtc cvbp cvbc cvap cvac⟩
abbrev jFactsA2 (gen : Int) (fp : OA) (fl fc : Nat) (en : Int) (m3_b : Nat) (sz cu : Int) (m6 : Bool) : Array Value := #[IV gen, .slice fp fl fc, IV en, PP m3_b, IV sz, IV cu, .bool m6]
def jFacts_c0 (JB : Nat) (gen : Int) (fp : OA) (fl fc : Nat) (en : Int) (D : Nat) (sz cu : Int) (br : Bool) (B : Nat) (l_p : OA) (l_l l_c : Nat) (t14_p : OA) (t14_l t14_c : Nat) (t16 : Int) (m3_b : Nat) (m6 : Bool) (F2 : SHeap) (S : List Nat) (w0 : World) (R : Ending → World → Prop) : Prop :=
 AtE TP 15 28 (KC Tryz.f15 244) [(3, .slice l_p l_l l_c), (14, .slice t14_p t14_l t14_c), (15, IV (fl : Int)), (16, IV t16)] ((B, .cells (jFactsA2 gen fp fl fc en m3_b sz cu m6) 86) :: F2) S w0 (nrm R)
theorem jFacts_c0_vc (JB : Nat) (gen : Int) (fp : OA) (fl fc : Nat) (en : Int) (D : Nat) (sz cu : Int) (br : Bool) (B : Nat) (l_p : OA) (l_l l_c : Nat) (t14_p : OA) (t14_l t14_c : Nat) (t16 : Int) (m3_b : Nat) (m6 : Bool) (F2 : SHeap)
 (H :
 Br (t16 < (fl : Int))
 (∃ t14_pb t14_po : Nat, t14_p = some ⟨t14_pb, t14_po, none⟩ ∧ (0 ≤ t16 ∧ t16 < t14_l) ∧
 ∃ (cw : List Value) (m1 : Fct) (m1tp : OA) (m1tc : Nat) (m1bp : OA) (m1bc : Nat) (m1ap : OA) (m1ac : Nat), (∃ t fz, (t14_pb, Obj.cells ⟨cw⟩ t fz) ∈ ((B, .cells (jFactsA2 gen fp fl fc en m3_b sz cu m6) 86) :: F2)) ∧ ((cw.drop (t14_po + ((Int.toNat t16) * 23))).take 23 = (m1.cells m1tp m1tc m1bp m1bc m1ap m1ac) ∧ (t14_po + ((Int.toNat t16) * 23)) + 23 ≤ cw.length) ∧
 ∀ B1 : Nat,
 CallH TP 52 ⟨[.agg (jFactsA0 m1 m1tp m1tc m1bp m1bc m1ap m1ac)]⟩ ((B1, .cells (jFactsA0 m1 m1tp m1tc m1bp m1bc m1ap m1ac) 38) :: (B, .cells (jFactsA2 gen fp fl fc en m3_b sz cu m6) 86) :: F2) S w0 (fun v L' => ∃ (cv : Fct) (cvtp : OA) (cvtc : Nat) (cvbp : OA) (cvbc : Nat) (cvap : OA) (cvac : Nat), ∃ F3, v = (.agg (jFactsA1 cv cvtp cvtc cvbp cvbc cvap cvac)) ∧ L' = ((B1, .cells (jFactsA0 m1 m1tp m1tc m1bp m1bc m1ap m1ac) 38) :: (B, .cells (jFactsA2 gen fp fl fc en m3_b sz cu m6) 86) :: F3) ∧
 ∃ l_pb l_po : Nat, l_p = some ⟨l_pb, l_po, none⟩ ∧ (0 ≤ t16 ∧ t16 < l_l) ∧
 ∃ (cs : List Value) (F4 : SHeap), F3.Perm ((l_pb, .cells ⟨cs⟩ 38) :: F4) ∧
 ((l_po + ((Int.toNat t16) * 23)) + 23 ≤ (cs).length) ∧
 jFacts_c0 JB gen fp fl fc en D sz cu br B l_p l_l l_c t14_p t14_l t14_c (IntKind.i64.wrap (t16 + (1 : Int))) m3_b m6 ((l_pb, .cells ⟨(over (cs) (l_po + ((Int.toNat t16) * 23)) (cv.cells cvtp cvtc cvbp cvbc cvap cvac))⟩ 38) :: (B1, .cells (jFactsA0 m1 m1tp m1tc m1bp m1bc m1ap m1ac) 38) :: F4) S w0 R))
 (Fin R ((B, .cells (jFactsA2 gen fp fl fc en m3_b sz cu m6) 86) :: F2) S w0 (.slice l_p l_l l_c))) :
 jFacts_c0 JB gen fp fl fc en D sz cu br B l_p l_l l_c t14_p t14_l t14_c t16 m3_b m6 F2 S w0 R:= by
 unfold jFacts_c0
 refine .ru 5 (.sP 17 H (fun H => ?_) fun H => ?_)
 ·refine .ru 7 ?_
  obtain ⟨t14_pb, t14_po, hp, H⟩ := H
  refine .indexAddrP (E := 38) (p := t14_p) (b := t14_pb) (o := t14_po) (len := t14_l) (cap := t14_c) (sz := 23) (o' := (t14_po + ((Int.toNat t16) * 23))) (kd := .i64) (i := t16) hp (by kernel_rfl) H.1 (by omega) ?_
  replace H := H.2
  obtain ⟨cw, m1, m1tp, m1tc, m1bp, m1bc, m1ap, m1ac, hw, hx, H⟩ := H
  refine .loadT (b := t14_pb) (off := (t14_po + ((Int.toNat t16) * 23))) (T := 38) (v := .agg (jFactsA0 m1 m1tp m1tc m1bp m1bc m1ap m1ac)) (by kernel_rfl) hw (valAt_agg hx.1 hx.2 (by kernel_rfl) (by kernel_rfl)) (.nH (.cells #[IV 0, IV 0, IV 0, IV 0, .string (⟨#[]⟩), IV 0, IV 0, .string (⟨#[]⟩), .string (⟨#[]⟩), .slice none 0 0, .slice none 0 0, IV 0, .slice none 0 0, IV 0, IV 0, IV 0, IV 0, IV 0, .string (⟨#[]⟩), .string (⟨#[]⟩), IV 0, IV 0, IV 0] 38) H fun B1 H => (.front (.ru 1 (.store 0 0 (T := 38) (v := .agg (jFactsA0 m1 m1tp m1tc m1bp m1bc m1ap m1ac)) (by kernel_rfl) (.ru 4 (.ld 0 0 (.cl H ?_)))))))
  rintro _ _ ⟨cv, cvtp, cvtc, cvbp, cvbc, cvap, cvac, F3, rfl, rfl, H⟩
  obtain ⟨l_pb, l_po, hp, H⟩ := H
  refine .indexAddrP (E := 38) (p := l_p) (b := l_pb) (o := l_po) (len := l_l) (cap := l_c) (sz := 23) (o' := (l_po + ((Int.toNat t16) * 23))) (kd := .i64) (i := t16) hp (by kernel_rfl) H.1 (by omega) ?_
  replace H := H.2
  obtain ⟨cs, F4, hperm, H⟩ := H
  refine .permL (L' := (l_pb, .cells ⟨cs⟩ 38) :: ((jFactsH0 B1 m1 m1tp m1tc m1bp m1bc m1ap m1ac B gen fp fl fc en m3_b sz cu m6) ++ F4)) (perm_tail (A := (jFactsH0 B1 m1 m1tp m1tc m1bp m1bc m1ap m1ac B gen fp fl fc en m3_b sz cu m6)) hperm) (.nm (KR Tryz.f15 7833 [5]) [(3, .slice l_p l_l l_c), (14, .slice t14_p t14_l t14_c), (15, IV (fl : Int)), (16, IV t16), (24, .agg (jFactsA1 cv cvtp cvtc cvbp cvbc cvap cvac)), (25, .pointer (some ⟨l_pb, (l_po + ((Int.toNat t16) * 23)), none⟩))] ((l_pb, .cells ⟨cs⟩ 38) :: (B1, .cells (jFactsA0 m1 m1tp m1tc m1bp m1bc m1ap m1ac) 38) :: (B, .cells (jFactsA2 gen fp fl fc en m3_b sz cu m6) 86) :: F4) (.storeA 0 (off := (l_po + ((Int.toNat t16) * 23))) (n := 23) (T := 38) (vs := (cv.cells cvtp cvtc cvbp cvbc cvap cvac)) (c := cs) (by kernel_rfl) H.1 ?_))
  replace H := H.2
  refine .ru 7 (.tT [2,0,1] 3 H)
 ·refine .ru 7 (.rt Tryz.func15 H)
theorem jFacts_vc (JB : Nat) (gen : Int) (fp : OA) (fl fc : Nat) (en : Int) (D : Nat) (sz cu : Int) (br : Bool) (F : SHeap) (hm : Mem ((JB, .cells #[IV gen, .slice fp fl fc, IV en, PP D, IV sz, IV cu, .bool br] 86) :: F) S w0 W)
 (H :
 CallH TP 51 ⟨[.slice fp fl fc]⟩ ((JB, .cells #[IV gen, .slice fp fl fc, IV en, PP D, IV sz, IV cu, .bool br] 86) :: F) S w0 (fun v L' => ∃ (sp : OA) (sc : Nat), ∃ F1, v = (.slice sp fl sc) ∧ L' = ((JB, .cells #[IV gen, .slice fp fl fc, IV en, PP D, IV sz, IV cu, .bool br] 86) :: F1) ∧
 jFacts_c0 JB gen fp fl fc en D sz cu br JB sp fl sc sp fl sc (0 : Int) D br F1 S w0 R)) :
 Calls TP 15 ⟨[PP JB]⟩ W R:= by
 refine AtE.cs 28 Tryz.func15 hm (.ru 18 (.ld 0 1 (.cl H ?_)))
 rintro _ _ ⟨sp, sc, F1, rfl, rfl, H⟩
 refine .ru 11 (.tT [0] 1 H)
def FRow (lk : Lk) (fs : List Fct) (p : OA) (c : Nat) (G : SHeap) : Prop :=
 fs.length ≤ c ∧ ((p = none ∧ c = 0 ∧ fs = []) ∨ ∃ Q cs G0, p = some ⟨Q, 0, none⟩ ∧ G.Perm ((Q, .cells ⟨cs⟩ 38) :: G0) ∧ cs.length = c * 23 ∧ FRowL (lkU G0 lk) cs fs)
theorem FRow.nil0 {G : SHeap} : FRow lk [] none 0 G := ⟨Nat.le_refl _, .inl ⟨rfl, rfl, rfl⟩⟩
theorem FRow.perm {fs : List Fct} {p : OA} {c : Nat} {G G' : SHeap} (h : FRow lk fs p c G) (hp : G'.Perm G) : FRow lk fs p c G' := by
 obtain ⟨h1, h2 | ⟨Q, cs, G0, e, h2, h3, h4⟩⟩ := h
 ·exact ⟨h1, .inl h2⟩
 ·exact ⟨h1, .inr ⟨Q, cs, G0, e, hp.trans h2, h3, h4⟩⟩
theorem FRow.more {fs : List Fct} {p : OA} {c : Nat} {G : SHeap} (h : FRow lk fs p c G) (X : SHeap) : FRow lk fs p c (X ++ G) := by
 obtain ⟨h1, h2 | ⟨Q, cs, G0, e, h2, h3, h4⟩⟩ := h
 ·exact ⟨h1, .inl h2⟩
 ·exact ⟨h1, .inr ⟨Q, cs, X ++ G0, e, (h2.append_left X).trans List.perm_middle, h3, h4.mono (lkU_mono fun x hx => List.mem_append_right _ hx)⟩⟩
theorem FRow.fcts {fs : List Fct} {p : OA} {c : Nat} {G : SHeap} (h : FRow lk fs p c G) : FctsL (lkU G lk) p fs := by
 obtain ⟨h1, ⟨_, _, rfl⟩ | ⟨Q, cs, G0, rfl, h2, h3, h4⟩⟩ := h
 ·exact fcts_nil
 ·exact (h4.mono (lkU_mono fun x hx => h2.mem_iff.2 (List.mem_cons_of_mem _ hx))).at (.inl ⟨_, _, h2.mem_iff.2 List.mem_cons_self⟩)
theorem perm_as1 {x : Nat × Obj} {A B C : SHeap} : (x :: (A ++ (B ++ C))).Perm ((x :: (A ++ B)) ++ C) := by rw [List.cons_append, List.append_assoc]
theorem perm_as2 {x y : Nat × Obj} {A B C : SHeap} : (x :: y :: (A ++ (B ++ C))).Perm ((x :: y :: (A ++ B)) ++ C) := by rw [List.cons_append, List.cons_append, List.append_assoc]
theorem FRow.push {fs : List Fct} {p : OA} {c : Nat} {G X Y L : SHeap} {f : Fct} (h : FRow lk fs p c G) (hf : FAt (lkU X lk) f tp tc bp bc ap ac) {n : Nat} (hn : fs.length = n) (hl : n ≤ 1000000) (hp : L.Perm (X ++ (G ++ Y))) :
  AppN TP 23 22 22 (.slice p n c) 1 (f.cells tp tc bp bc ap ac) L S w0 (fun v L' => ∃ p' c' N, v = .slice p' (n + 1) c' ∧ L'.Perm (N ++ Y) ∧ FRow lk (fs ++ [f]) p' c' N ∧ FRow lk fs p c N ∧ ∀ x ∈ X, x ∈ N) := by
 subst hn
 obtain ⟨h1, ⟨rfl, rfl, rfl⟩ | ⟨Q, cs, G0, rfl, h2, h3, h4⟩⟩ := h
 ·refine (AppN.nil (T := 22) (E := 38) (z := .agg ⟨Fct.zero.cells none 0 none 0 none 0⟩) (sz := 23) (bytes := 272) (by kernel_rfl) (by kernel_rfl) rfl (by omega) (by omega)).mono ?_
  rintro _ _ ⟨B, cap, r, rfl, q1, q2, rfl⟩
  refine ⟨some ⟨B, 0, none⟩, cap, (B, .cells ⟨f.cells tp tc bp bc ap ac ++ r⟩ 38) :: (X ++ G), rfl, ?_, ⟨by simpa using q1, .inr ⟨B, _, X ++ G, rfl, List.Perm.refl _, q2, ?_⟩⟩, FRow.nil0, fun x hx => by simp [hx]⟩
  ·exact List.perm_append_comm.trans ((List.Perm.cons _ hp).trans perm_as1)
  ·exact FRowL.one (hf.mono (lkU_mono fun x hx => List.mem_append_left _ hx)) q1 q2
 ·have hp2 : L.Perm ((Q, .cells ⟨cs⟩ 38) :: (X ++ (G0 ++ Y))) := by
   refine hp.trans ?_
   refine (((h2.append_right Y).append_left X).trans ?_)
   exact List.perm_middle
  refine (AppN.row (E := 38) (z := .agg ⟨Fct.zero.cells none 0 none 0 none 0⟩) (sz := 23) (bytes := 272) (by kernel_rfl) (by kernel_rfl) rfl hp2 ⟨h1, h3⟩ (by omega) (by omega)).mono ?_
  rintro _ _ ⟨B, cap, r, rfl, q1, q2, hB⟩
  have hx : ∀ b c, lkU X lk b c → lkU (X ++ G0) lk b c := lkU_mono fun x hx => List.mem_append_left _ hx
  have hg : ∀ b c, lkU G0 lk b c → lkU (X ++ G0) lk b c := lkU_mono fun x hx => List.mem_append_right _ hx
  have hrow := FRowL.app (r := r) (h4.mono hg) h1 h3 (hf.mono hx) q1 q2
  have hold : FRowL (lkU (X ++ G0) lk) (cs.take (fs.length * 23) ++ f.cells tp tc bp bc ap ac ++ r) fs := by
   have := hrow.take fs.length
   rwa [List.take_left' rfl] at this
  rcases hB with ⟨rfl, rfl, rfl⟩ | rfl
  ·refine ⟨some ⟨B, 0, none⟩, cap, (B, .cells ⟨cs.take (fs.length * 23) ++ f.cells tp tc bp bc ap ac ++ r⟩ 38) :: (X ++ G0), rfl, ?_, ⟨by simpa using q1, .inr ⟨B, _, X ++ G0, rfl, List.Perm.refl _, q2, hrow⟩⟩, ?_, fun x hx => by simp [hx]⟩
   ·exact perm_as1
   ·exact ⟨h1, .inr ⟨B, _, X ++ G0, rfl, List.Perm.refl _, q2, hold⟩⟩
  ·refine ⟨some ⟨B, 0, none⟩, cap, (B, .cells ⟨cs.take (fs.length * 23) ++ f.cells tp tc bp bc ap ac ++ r⟩ 38) :: (Q, .cells ⟨cs⟩ 38) :: (X ++ G0), rfl, ?_, ⟨by simpa using q1, .inr ⟨B, _, (Q, .cells ⟨cs⟩ 38) :: (X ++ G0), rfl, List.Perm.refl _, q2, hrow.mono (lkU_mono fun x hx => List.mem_cons_of_mem _ hx)⟩⟩, ⟨h1, .inr ⟨Q, cs, (B, .cells ⟨cs.take (fs.length * 23) ++ f.cells tp tc bp bc ap ac ++ r⟩ 38) :: (X ++ G0), rfl, List.Perm.swap _ _ _, h3, h4.mono (lkU_mono fun x hx => List.mem_cons_of_mem _ (List.mem_append_right _ hx))⟩⟩, fun x hx => by simp [hx]⟩
   exact perm_as2
structure JM where
 gen : Int
 fs : List Fct
 en : Nat
 sz : Nat
 cu : Nat
 br : Bool
abbrev JM.js (m : JM) (p : OA) (c : Nat) : JS := ⟨m.gen, p, m.fs.length, c, (m.en : Int), (m.sz : Int), (m.cu : Int), m.br⟩
def JRep (JB D : Nat) (m : JM) (G : SHeap) : Prop := ∃ p c T, G = jH JB D (m.js p c) :: T ∧ FRow noLk m.fs p c T
def FRow2 (lk lk' : Lk) (cs : List Value) (l : List Fct) (i : Nat) : Prop := ∀ j (h : j < l.length), j * 23 + 23 ≤ cs.length ∧ ((j < i → FctL lk' ((cs.drop (j * 23)).take 23) l[j]) ∧ (i ≤ j → FctL lk ((cs.drop (j * 23)).take 23) l[j]))
theorem FRow2.put {lk lk' lk2' : Lk} {cs : List Value} {l : List Fct} {i : Nat} (h : FRow2 lk lk' cs l i) (hi : i < l.length) (hl' : ∀ b c, lk' b c → lk2' b c) (hp : FAt lk2' l[i] tp tc bp bc ap ac) :
  FRow2 lk lk2' (over cs (i * 23) (l[i].cells tp tc bp bc ap ac)) l (i + 1) := by
 have hci := (h i hi).1
 have hlen : (over cs (i * 23) (l[i].cells tp tc bp bc ap ac)).length = cs.length := over_length (by show i * 23 + 23 ≤ _; exact hci)
 intro j hj
 obtain ⟨h1, h2, h3⟩ := h j hj
 refine ⟨by rw [hlen]; exact h1, fun hji => ?_, fun hji => ?_⟩
 ·by_cases e : j = i
  ·subst e
   rw [row23_set_eq rfl hci]
   exact ⟨_, _, _, _, _, _, rfl, hp⟩
  ·rw [row23_set_ne rfl hci e]
   exact (h2 (by omega)).mono hl'
 ·rw [row23_set_ne rfl hci (by omega)]
  exact h3 (by omega)
def FactsK (fs : List Fct) (G : SHeap) (v : Value) (L' : SHeap) : Prop := ∃ p c N, v = .slice p fs.length c ∧ L'.Perm (N ++ G) ∧ FRow noLk fs p c N
theorem perm_in {x : Nat × Obj} {N T F : SHeap} {j : Nat × Obj} (h : F.Perm (x :: (N ++ T))) : (j :: F).Perm ((x :: N) ++ (j :: T)) :=
 (h.cons j).trans ((List.Perm.swap x j (N ++ T)).trans ((List.perm_middle.symm).cons x))
theorem facts_loop {JB D : Nat} {m : JM} {p : OA} {c : Nat} {T : SHeap} (hT : FRow noLk m.fs p c T) (hs : ∀ f ∈ m.fs, f.Small) (hl : m.fs.length ≤ 1000000) {Q c' : Nat} (hc : m.fs.length ≤ c') :
  ∀ (g i : Nat) (cs : List Value) (F N0 : SHeap), g + i = m.fs.length → F.Perm ((Q, .cells ⟨cs⟩ 38) :: (N0 ++ T)) → cs.length = c' * 23 → FRow2 (lkF T) (lkF N0) cs m.fs i →
   jFacts_c0 JB m.gen p m.fs.length c (m.en : Int) D (m.sz : Int) (m.cu : Int) m.br JB (SO Q) m.fs.length c' (SO Q) m.fs.length c' (i : Int) D m.br F S w0 (fun e W' => ∃ v L', e = .returned v ∧ Mem L' S w0 W' ∧ FactsK m.fs (jH JB D (m.js p c) :: T) v L')
 | 0, i, cs, F, N0, hg, hp, hc2, h => by
  apply jFacts_c0_vc
  refine no (by omega) (dkFin ⟨_, _, (Q, .cells ⟨cs⟩ 38) :: N0, rfl, perm_in hp, hc, .inr ⟨Q, cs, N0, rfl, List.Perm.refl _, hc2, fun j hj => ⟨(h j hj).1, ((h j hj).2.1 (by omega)).mono lkU_l⟩⟩⟩)
 | g + 1, i, cs, F, N0, hg, hp, hc2, h => by
  apply jFacts_c0_vc
  have hi : i < m.fs.length := by omega
  obtain ⟨k1, k2, k3⟩ := h i hi
  obtain ⟨tp, tc, bp, bc, ap, ac, e, hf⟩ := k3 (Nat.le_refl _)
  refine yes (by omega) ⟨Q, 0, rfl, by omega, cs, m.fs[i], tp, tc, bp, bc, ap, ac, ⟨_, _, List.mem_cons_of_mem _ (hp.mem_iff.2 List.mem_cons_self)⟩, ⟨by rw [Nat.zero_add, Int.toNat_natCast]; exact e, by rw [Int.toNat_natCast]; omega⟩, fun B1 => ?_⟩
  refine CallH.new [_, _] (copied_e hf (hs _ (List.getElem_mem hi))) (fun W hm => lkF_W hm fun x hx => List.mem_cons_of_mem _ (List.mem_cons_of_mem _ (hp.mem_iff.2 (List.mem_cons_of_mem _ (List.mem_append_right _ hx))))) ?_
  rintro _ F' ⟨tp', tc', bp', bc', ap', ac', rfl, hf'⟩
  have hw : IntKind.i64.wrap ((i : Int) + 1) = ((i + 1 : Nat) : Int) := by rw [wi64 (by omega)]; omega
  refine ⟨m.fs[i], tp', tc', bp', bc', ap', ac', _, rfl, rfl, Q, 0, rfl, by omega, cs, F' ++ (N0 ++ T), ?_, by rw [Int.toNat_natCast]; omega, ?_⟩
  ·exact ((hp.append_left F').trans List.perm_middle)
  ·rw [hw, Int.toNat_natCast, Nat.zero_add]
   refine facts_loop hT hs hl hc g (i + 1) _ _ ((B1, .cells ⟨m.fs[i].cells tp tc bp bc ap ac⟩ 38) :: (F' ++ N0)) (by omega) ?_ ?_ (h.put hi (lkF_mono fun x hx => List.mem_cons_of_mem _ (List.mem_append_right _ hx)) (hf'.mono (lkF_mono fun x hx => List.mem_cons_of_mem _ (List.mem_append_left _ hx))))
   ·rw [List.cons_append, List.append_assoc]
   ·rw [over_length (by show i * 23 + 23 ≤ _; omega)]; exact hc2
theorem facts_e {JB D : Nat} {m : JM} {G : SHeap} (h : JRep JB D m G) (hs : ∀ f ∈ m.fs, f.Small) (hl : m.fs.length ≤ 1000000) : EffC TP 15 ⟨[pt JB 0]⟩ G (FactsK m.fs G) := by
 obtain ⟨p, c, T, rfl, hT⟩ := h
 intro W hm
 refine jFacts_vc JB m.gen p m.fs.length c (m.en : Int) D (m.sz : Int) (m.cu : Int) m.br T hm (CallH.new [_] (cloneF_e (lk := lkU T noLk) hT.fcts hl) (fun W hm b c hb => lkF_W hm (fun x hx => List.mem_cons_of_mem _ hx) b c (lkU_no b c hb)) ?_)
 rintro _ F' ⟨p', c', rfl, k1, k2, k3⟩
 refine ⟨p', c', _, rfl, rfl, ?_⟩
 rcases Nat.eq_zero_or_pos m.fs.length with h0 | hpos
 ·apply jFacts_c0_vc
  have hn : m.fs = [] := List.length_eq_zero_iff.1 h0
  refine no (by omega) ?_
  rcases k3 h0 with ⟨rfl, rfl, rfl⟩ | ⟨Q, cs, rfl, rfl, q3⟩
  ·exact dkFin ⟨_, _, [], rfl, List.Perm.refl _, by rw [hn]; exact FRow.nil0⟩
  ·exact dkFin ⟨_, _, [(Q, .cells ⟨cs⟩ 38)], rfl, perm_in (N := []) (List.Perm.refl _), k1, .inr ⟨Q, cs, [], rfl, List.Perm.refl _, q3, by rw [hn]; exact fun i hi => absurd hi (by simp)⟩⟩
 ·obtain ⟨Q, cs, rfl, rfl, q3, q4⟩ := k2 hpos
  exact facts_loop hT hs hl k1 m.fs.length 0 cs _ [] (by omega) (List.Perm.refl _) q3 fun j hj => ⟨(q4 j hj).1, fun hh => absurd hh (by omega), fun _ => (q4 j hj).2.mono lkU_no⟩
set_option maxRecDepth 100000
theorem jNextJ_vc (JB : Nat) (gen : Int) (fp : OA) (fl fc : Nat) (en : Int) (D : Nat) (sz cu : Int) (br : Bool) (F : SHeap) (hm : Mem ((JB, .cells #[IV gen, .slice fp fl fc, IV en, PP D, IV sz, IV cu, .bool br] 86) :: F) S w0 W)
 (H :
 ∀ t2 : Int, t2 = (IntKind.i64.wrap ((fl : Int) + (1 : Int))) →
 Fin R ((JB, .cells #[IV gen, .slice fp fl fc, IV en, PP D, IV sz, IV cu, .bool br] 86) :: F) S w0 (IV t2)) :
 Calls TP 53 ⟨[PP JB]⟩ W R:= by
 refine AtE.cs 9 Tryz.func53 hm (.ru 9 (.ld 0 1 (.ru 3 (.lI 2 H fun t2 H => (.ru 1 (.rt Tryz.func53 H))))))
abbrev jAppendH0 (B : Nat) (f : Fct) (ftp : OA) (ftc : Nat) (fbp : OA) (fbc : Nat) (fap : OA) (fac JB : Nat) (gen : Int) (fp : OA) (fl fc : Nat) (en : Int) (D : Nat) (sz cu : Int) (br : Bool) (F : SHeap) : SHeap := ((B, .cells ⟨f.cells ftp ftc fbp fbc fap fac⟩ 38) :: (JB, .cells #[IV gen, .slice fp fl fc, IV en, PP D, IV sz, IV cu, .bool br] 86) :: F)
abbrev jAppendH1 (B : Nat) (f : Fct) (ftp : OA) (ftc : Nat) (fbp : OA) (fbc : Nat) (fap : OA) (fac JB : Nat) (gen : Int) (fp : OA) (fl fc : Nat) (en : Int) (D : Nat) (sz cu : Int) (br1 : Bool) (F2 : SHeap) : SHeap := ((B, .cells ⟨f.cells ftp ftc fbp fbc fap fac⟩ 38) :: (JB, .cells #[IV gen, .slice fp fl fc, IV en, PP D, IV sz, IV cu, .bool br1] 86) :: F2)
abbrev jAppendH2 (B : Nat) (f : Fct) (ftp : OA) (ftc : Nat) (fbp : OA) (fbc : Nat) (fap : OA) (fac JB : Nat) (gen : Int) (fp : OA) (fl fc : Nat) (en : Int) (D : Nat) (sz cu : Int) (br : Bool) (F1 : SHeap) : SHeap := ((B, .cells ⟨f.cells ftp ftc fbp fbc fap fac⟩ 38) :: (JB, .cells #[IV gen, .slice fp fl fc, IV en, PP D, IV sz, IV cu, .bool br] 86) :: F1)
abbrev jAppendH3 (B : Nat) (f : Fct) (ftp : OA) (ftc : Nat) (fbp : OA) (fbc : Nat) (fap : OA) (fac JB : Nat) (gen : Int) (fp : OA) (fl fc : Nat) (en : Int) (D : Nat) (sz cu : Int) (br : Bool) : SHeap := [(B, .cells ⟨f.cells ftp ftc fbp fbc fap fac⟩ 38), (JB, .cells #[IV gen, .slice fp fl fc, IV en, PP D, IV sz, IV cu, .bool br] 86)]
abbrev jAppendH4 (B : Nat) (f : Fct) (ftp : OA) (ftc : Nat) (fbp : OA) (fbc : Nat) (fap : OA) (fac JB : Nat) (gen : Int) (fp : OA) (fl fc : Nat) (en : Int) (D : Nat) (sz cu : Int) (br1 : Bool) (F3 : SHeap) : SHeap := ((B, .cells ⟨f.cells ftp ftc fbp fbc fap fac⟩ 38) :: (JB, .cells #[IV gen, .slice fp fl fc, IV en, PP D, IV sz, IV cu, .bool br1] 86) :: F3)
abbrev jAppendH5 (B : Nat) (f : Fct) (ftp : OA) (ftc : Nat) (fbp : OA) (fbc : Nat) (fap : OA) (fac JB : Nat) (gen : Int) (fp : OA) (fl fc : Nat) (en : Int) (D : Nat) (sz cu : Int) (br1 : Bool) (F4 : SHeap) : SHeap := ((B, .cells ⟨f.cells ftp ftc fbp fbc fap fac⟩ 38) :: (JB, .cells #[IV gen, .slice fp fl fc, IV en, PP D, IV sz, IV cu, .bool br1] 86) :: F4)
abbrev jAppendA0 (f : Fct) (ftp : OA) (ftc : Nat) (fbp : OA) (fbc : Nat) (fap : OA) (fac : Nat) : Array Value := ⟨f.cells ftp ftc fbp fbc fap fac⟩
abbrev jAppendA1 (cv : Fct) (cvtp : OA) (cvtc : Nat) (cvbp : OA) (cvbc : Nat) (cvap : OA) (cvac : Nat) : Array Value := ⟨cv.cells cvtp cvtc cvbp cvbc cvap cvac⟩
theorem jAppend_vc (JB : Nat) (f : Fct) (ftp : OA) (ftc : Nat) (fbp : OA) (fbc : Nat) (fap : OA) (fac : Nat) (gen : Int) (fp : OA) (fl fc : Nat) (en : Int) (D : Nat) (sz cu : Int) (br : Bool) (F : SHeap) (hm : Mem ((JB, .cells #[IV gen, .slice fp fl fc, IV en, PP D, IV sz, IV cu, .bool br] 86) :: F) S w0 W)
 (H :
 ∀ B : Nat,
 Bb (br)
 (Fin R (jAppendH0 B f ftp ftc fbp fbc fap fac JB gen fp fl fc en D sz cu br F) S w0 (IV 240))
 (∃ (r1 : Bool), (QCall TP 24 ⟨[.agg (jAppendA0 f ftp ftc fbp fbc fap fac)]⟩ (jAppendH0 B f ftp ftc fbp fbc fap fac JB gen fp fl fc en D sz cu br F) S w0 (.bool r1)) ∧
 Bb (r1)
 (∃ (r21 : Int), (QCall TP 53 ⟨[PP JB]⟩ (jAppendH0 B f ftp ftc fbp fbc fap fac JB gen fp fl fc en D sz cu br F) S w0 (IV r21)) ∧
 Bn (f.n = r21)
 (Fin R (jAppendH0 B f ftp ftc fbp fbc fap fac JB gen fp fl fc en D sz cu br F) S w0 (IV 240))
 (CallH TP 54 ⟨[.agg (jAppendA0 f ftp ftc fbp fbc fap fac)]⟩ (jAppendH0 B f ftp ftc fbp fbc fap fac JB gen fp fl fc en D sz cu br F) S w0 (fun v L' => ∃ r31, v = .string r31 ∧ L' = (jAppendH0 B f ftp ftc fbp fbc fap fac JB gen fp fl fc en D sz cu br F) ∧
 CallH TP 23 ⟨[PP JB]⟩ (jAppendH0 B f ftp ftc fbp fbc fap fac JB gen fp fl fc en D sz cu br F) S w0 (fun v L' => ∃ r41, v = IV r41 ∧ L' = (jAppendH0 B f ftp ftc fbp fbc fap fac JB gen fp fl fc en D sz cu br F) ∧
 Br (r41 < (r31.size : Int))
 (Fin R (jAppendH0 B f ftp ftc fbp fbc fap fac JB gen fp fl fc en D sz cu br F) S w0 (IV 241))
 (∃ (r51 : Int), (QCallB TP 44 ⟨[PP JB, IV cu]⟩ (jAppendH3 B f ftp ftc fbp fbc fap fac JB gen fp fl fc en D sz cu br) S w0 (IV r51)) ∧
 CallH TP 49 ⟨[PP JB, IV (IntKind.i64.wrap (r51 + en)), .string r31]⟩ (jAppendH0 B f ftp ftc fbp fbc fap fac JB gen fp fl fc en D sz cu br F) S w0 (fun v L' => ∃ (sp : OA) (sc : Nat), ∃ F1, v = (.slice sp 4 sc) ∧ L' = (jAppendH2 B f ftp ftc fbp fbc fap fac JB gen fp fl fc en D sz cu br F1) ∧
 CallH TP 50 ⟨[PP JB, .slice sp 4 sc]⟩ (jAppendH2 B f ftp ftc fbp fbc fap fac JB gen fp fl fc en D sz cu br F1) S w0 (fun v L' => ∃ F2 re, ∃ (br1 : Bool), v = IV re ∧ L' = (jAppendH1 B f ftp ftc fbp fbc fap fac JB gen fp fl fc en D sz cu br1 F2) ∧
 Bn (re = 0)
 (Fin R (jAppendH1 B f ftp ftc fbp fbc fap fac JB gen fp fl fc en D sz cu br1 F2) S w0 (IV re))
 (CallH TP 52 ⟨[.agg (jAppendA0 f ftp ftc fbp fbc fap fac)]⟩ (jAppendH1 B f ftp ftc fbp fbc fap fac JB gen fp fl fc en D sz cu br1 F2) S w0 (fun v L' => ∃ (cv : Fct) (cvtp : OA) (cvtc : Nat) (cvbp : OA) (cvbc : Nat) (cvap : OA) (cvac : Nat), ∃ F3, v = (.agg (jAppendA1 cv cvtp cvtc cvbp cvbc cvap cvac)) ∧ L' = (jAppendH4 B f ftp ftc fbp fbc fap fac JB gen fp fl fc en D sz cu br1 F3) ∧
 ∀ B1 : Nat,
 AppN TP 23 22 22 (.slice fp fl fc) (1) (cv.cells cvtp cvtc cvbp cvbc cvap cvac) ((jAppendH4 B f ftp ftc fbp fbc fap fac JB gen fp fl fc en D sz cu br1 F3) ++ [(B1, .cells (jAppendA1 cv cvtp cvtc cvbp cvbc cvap cvac) 38)]) S w0 (fun v L' => ∃ (ap : OA) (ac : Nat), ∃ F4, v = (.slice ap (fl + 1) ac) ∧ L' = (jAppendH5 B f ftp ftc fbp fbc fap fac JB gen fp fl fc en D sz cu br1 F4) ∧
 Fin R ((B, .cells (jAppendA0 f ftp ftc fbp fbc fap fac) 38) :: (JB, .cells #[IV gen, .slice ap (fl + 1) ac, IV (IntKind.i64.wrap (en + (r31.size : Int))), PP D, IV sz, IV cu, .bool br1] 86) :: F4) S w0 (IV 0)))))))))))
 (Fin R (jAppendH0 B f ftp ftc fbp fbc fap fac JB gen fp fl fc en D sz cu br F) S w0 (IV 240)))) :
 Calls TP 16 ⟨[PP JB, .agg (jAppendA0 f ftp ftc fbp fbc fap fac)]⟩ W R:= by
 refine AtE.cs 85 Tryz.func16 hm (.ru 2 (.nH (.cells (jAppendA0 f ftp ftc fbp fbc fap fac) 38) H fun B H => (.front (.ru 11 (.ld 1 3 (.ru 7 (.nm (KC Tryz.f16 28) [(0, PP JB), (3, PP B)] (jAppendH0 B f ftp ftc fbp fbc fap fac JB gen fp fl fc en D sz cu br F) (.dr 18 (.pu (.pu (.pu (.ld 1 6 (.pu (.split 20 (b := br) (by kernel_rfl) (fun h1' => ?_) (fun h1' => ?_)))))))))))))))
 ·replace H := H.1 h1'
  refine .sk (.sk (.sk (.pu (.pu (.sk (.sk (.sk (.sk (.sk (.sk (.sk (.pu (.dn (.ru 6 (.rt Tryz.func16 H)))))))))))))))
 ·replace H := H.2 h1'
  refine .ld 0 0 ?_
  obtain ⟨r1, hq, H⟩ := H
  refine .cl hq (.split 22 (b := r1) (by kernel_rfl) (fun h2' => ?_) (fun h2' => ?_))
  ·replace H := H.1 h2'
   refine .pu (.pu (.pu (.pu (.ld 0 0 (.pu (.pu (.pu ?_)))))))
   obtain ⟨r21, hq, H⟩ := H
   refine .cl hq (.pu (.pu (.dn (.ru 1 (.sN 33 H (fun H => ?_) fun H => ?_)))))
   ·refine .ru 5 (.rt Tryz.func16 H)
   ·refine .ru 4 (.ld 0 0 (.cl H ?_))
    rintro _ _ ⟨r31, rfl, rfl, H⟩
    refine .ru 8 (.cl H ?_)
    rintro _ _ ⟨r41, rfl, rfl, H⟩
    refine .ru 2 (.sP 40 H (fun H => ?_) fun H => ?_)
    ·refine .ru 5 (.rt Tryz.func16 H)
    ·refine .ru 4 (.nm (KC Tryz.f16 252) [(0, PP JB), (3, PP B), (5, .string r31)] (jAppendH0 B f ftp ftc fbp fbc fap fac JB gen fp fl fc en D sz cu br F) (.dD (.ph 16 [0,1,2,3,4,5,6,7,8,9,10,11,12,13,14] [15] (jAppendH3 B f ftp ftc fbp fbc fap fac JB gen fp fl fc en D sz cu br) (.pu (.pu (.pu (.pu (.pu (.pu (.ld 1 5 ?_))))))))))
     obtain ⟨r51, hq, H⟩ := H
     refine .cl hq (.pu (.pu (.pu (.pu (.ld 1 2 (.pu (.pu (.dn (.cl H ?_)))))))))
     rintro _ _ ⟨sp, sc, F1, rfl, rfl, H⟩
     refine .dn (.nm [(0, PP JB), (3, PP B), (5, .string r31), (41, PP JB), (56, .slice sp 4 sc)] (jAppendH2 B f ftp ftc fbp fbc fap fac JB gen fp fl fc en D sz cu br F1) (.tl (.cl H ?_)))
     rintro _ _ ⟨F2, re, br1, rfl, rfl, H⟩
     refine .ru 7 (.sN 59 H (fun H => ?_) fun H => ?_)
     ·refine .ru 6 (.rt Tryz.func16 H)
     ·refine .ru 3 (.nm (KC Tryz.f16 254) [(0, PP JB), (3, PP B), (5, .string r31)] (jAppendH1 B f ftp ftc fbp fbc fap fac JB gen fp fl fc en D sz cu br1 F2) (.dD (.ph 10 [0,1,2,3,4,5,6] [7,8,9] [(B, .cells (jAppendA0 f ftp ftc fbp fbc fap fac) 38), (JB, .cells #[IV gen, .slice fp fl fc, IV en, PP D, IV sz, IV cu, .bool br1] 86)] (.pu (.pu (.pu (.pu (.pu (.ld 1 1 (.ld 0 0 (.dn (.cl H ?_))))))))))))
      rintro _ _ ⟨cv, cvtp, cvtc, cvbp, cvbc, cvap, cvac, F3, rfl, rfl, H⟩
      refine .new _ (fun B => .slice (SO B) 1 1) (.cells (jAppendA1 cv cvtp cvtc cvbp cvbc cvap cvac) 38) rfl (fun W => by kernel_rfl) (by kernel_rfl) (fun B1 => ?_)
      replace H := H B1
      refine .appendT _ (sz := 23) (T := 22) (U := 22) (s := .slice fp fl fc) (x := .slice (SO B1) 1 1) (1) (cv.cells cvtp cvtc cvbp cvbc cvap cvac) rfl (by kernel_rfl) (srcRow (E' := 38) (t := 38) (fz := (0, 0)) (c := (cv.cells cvtp cvtc cvbp cvbc cvap cvac)) (List.mem_append_right _ (by simp)) (by kernel_rfl) (by simp) (by simp [Value.oneCell'])) H ?_
      rintro _ _ ⟨ap, ac, F4, rfl, rfl, H⟩
      refine .dn (.nm [(0, PP JB), (5, .string r31), (61, PP JB), (70, .slice ap (fl + 1) ac)] (jAppendH5 B f ftp ftc fbp fbc fap fac JB gen fp fl fc en D sz cu br1 F4) (.tl (.ru 3 (.store 1 1 (T := 22) (v := .slice ap (fl + 1) ac) (by kernel_rfl) (.ru 7 (.ld 1 2 (.ru 6 (.store 1 2 (T := 3) (v := IV (IntKind.i64.wrap (en + (r31.size : Int)))) (by kernel_rfl) (.ru 5 (.rt Tryz.func16 H))))))))))
  ·replace H := H.2 h2'
   refine .pu (.pu (.pu (.sk (.sk (.sk (.sk (.sk (.sk (.sk (.pu (.dn (.ru 6 (.rt Tryz.func16 H)))))))))))))
theorem PW.ro {P : Program} {g : FuncId} {args : Array Value} {W : World} {v : Value} {x : Nat × Obj} (h : ∀ {R : Ending → World → Prop} {S : List Nat} {w0 W : World}, Mem [x] S w0 W → Fin R [x] S w0 v → Calls P g args W R) (hx : W.heap[x.1]? = some x.2) : PW P g args W v := by
 have hm : Mem [x] [x.1] W W := ⟨by simp, by simp [hx], by simp, Kept.refl _ W⟩
 refine h hm fun W' hm' => ⟨rfl, hm'.kept.os, hm'.kept.tape, hm'.kept.output, hm'.kept.size, fun k hk => ?_⟩
 by_cases e : k = x.1
 ·subst e
  rw [hm'.here x List.mem_cons_self, hx]
 ·exact hm'.kept.block k hk (by simpa using e)
theorem perm_of {A B : SHeap} (h : ∀ (c : SHeap → Nat) (w : Nat × Obj → Nat), (∀ x l, c (x :: l) = c l + w x) → (∀ a b, c (a ++ b) = c a + c b) → c [] = 0 → (∀ a b : SHeap, a.Perm b → c a = c b) → c A = c B) : A.Perm B :=
 letI : DecidableEq (Nat × Obj) := fun a b => Classical.propDecidable (a = b)
 List.perm_iff_count.2 fun a => h (List.count a) (fun x => if x == a then 1 else 0) (fun x l => List.count_cons) (fun _ _ => List.count_append) List.count_nil (fun _ _ hp => hp.count_eq a)
theorem perm_a {A B : SHeap} (h : ∀ (c : SHeap → Nat) (w : Nat × Obj → Nat), (∀ x l, c (x :: l) = c l + w x) → (∀ a b, c (a ++ b) = c a + c b) → c [] = 0 → (∀ a b : SHeap, a.Perm b → c a = c b) → c A = c B := by intro c w h1 h2 h3 h4; simp only [h1, h2, h3, List.cons_append, List.nil_append]; omega) : A.Perm B := perm_of h
theorem AppN.monoP {P : Program} {S : List Nat} {w0 : World} {L : SHeap} {sz : Nat} {T U : TypeId} {s : Value} {m : Nat} {news : List Value} {K K' : Value → SHeap → Prop} (h : AppN P sz T U s m news L S w0 K) (hk : ∀ v L', K v L' → ∃ L2, L'.Perm L2 ∧ K' v L2) : AppN P sz T U s m news L S w0 K' := by
 intro x ty W hm hs
 obtain ⟨v, W', L', h1, h2, h3⟩ := h x ty W hm hs
 obtain ⟨L2, h4, h5⟩ := hk v L' h3
 exact ⟨v, W', L2, h1, h2.perm h4.symm, h5⟩
section perms
variable (x y z : Nat × Obj) (A F T X Z : SHeap)
theorem pm1 : ([x] ++ (y :: A)).Perm (y :: x :: A) := perm_a
theorem pm2 : ((x :: X) ++ (y :: A)).Perm (y :: x :: (X ++ A)) := perm_a
theorem pm3 : ((x :: (F ++ X)) ++ (y :: T)).Perm (y :: x :: (X ++ (F ++ T))) := perm_a
theorem pm4 : ((x :: (F ++ X)) ++ (y :: T)).Perm (y :: x :: (F ++ (X ++ T))) := perm_a
theorem pm5 : (y :: x :: (F ++ T)).Perm (x :: (F ++ (y :: T))) := perm_a
theorem pm6 : ((y :: x :: (Z ++ (F ++ (X ++ T)))) ++ [z]).Perm (Z ++ (T ++ (y :: x :: z :: (F ++ X)))) := perm_a
theorem pm7 : (A ++ (y :: x :: z :: (F ++ X))).Perm (y :: x :: (A ++ (z :: (F ++ X)))) := perm_a
theorem pm8 : (y :: x :: (A ++ (z :: (F ++ X)))).Perm (x :: (F ++ ((y :: z :: X) ++ A))) := perm_a
end perms
theorem room_pw {W : World} {JB D : Nat} {m : JM} {p : OA} {c : Nat} (h : W.heap[JB]? = some (jH JB D (m.js p c)).2) (hb : m.en ≤ m.sz) (hz : m.sz ≤ 4194304) : PW TP 23 ⟨[pt JB 0]⟩ W (.int .i64 ((m.sz - m.en : Nat) : Int)) := by
 refine PW.ro (x := jH JB D (m.js p c)) (fun hm hF => jRoom_vc JB m.gen p m.fs.length c (m.en : Int) D (m.sz : Int) (m.cu : Int) m.br hm ?_) h
 rintro _ rfl
 rw [wi64 (by omega), show (m.sz : Int) - (m.en : Int) = ((m.sz - m.en : Nat) : Int) by omega]
 exact hF
theorem gen_pw {W : World} {JB D : Nat} {m : JM} {p : OA} {c : Nat} (h : W.heap[JB]? = some (jH JB D (m.js p c)).2) : PW TP 26 ⟨[pt JB 0]⟩ W (.int .i64 m.gen) :=
 PW.ro (x := jH JB D (m.js p c)) (fun hm hF => jGen_vc JB m.gen p m.fs.length c (m.en : Int) D (m.sz : Int) (m.cu : Int) m.br hm hF) h
theorem start_pw {W : World} {JB D : Nat} {m : JM} {p : OA} {c k : Nat} (h : W.heap[JB]? = some (jH JB D (m.js p c)).2) (hk : k ≤ 1) (hz : m.sz ≤ 4194304) : PW TP 44 ⟨[pt JB 0, .int .i64 (k : Int)]⟩ W (.int .i64 ((k * m.sz : Nat) : Int)) := by
 refine PW.ro (x := jH JB D (m.js p c)) (fun hm hF => jStart_vc JB (k : Int) m.gen p m.fs.length c (m.en : Int) D (m.sz : Int) (m.cu : Int) m.br hm ?_) h
 rintro _ rfl
 have e : (k : Int) * (m.sz : Int) = ((k * m.sz : Nat) : Int) := by simp
 have : k * m.sz ≤ 1 * 4194304 := Nat.mul_le_mul hk hz
 rw [e, wi64 (by omega)]
 exact hF
theorem next_pw {W : World} {JB D : Nat} {m : JM} {p : OA} {c : Nat} (h : W.heap[JB]? = some (jH JB D (m.js p c)).2) (hl : m.fs.length ≤ 1000000) : PW TP 53 ⟨[pt JB 0]⟩ W (.int .i64 ((m.fs.length + 1 : Nat) : Int)) := by
 refine PW.ro (x := jH JB D (m.js p c)) (fun hm hF => jNextJ_vc JB m.gen p m.fs.length c (m.en : Int) D (m.sz : Int) (m.cu : Int) m.br [] hm ?_) h
 rintro _ rfl
 rw [wi64 (by omega), show (m.fs.length : Int) + 1 = ((m.fs.length + 1 : Nat) : Int) by omega]
 exact hF
structure MOk (m : JM) : Prop where
 en : m.en ≤ m.sz
 sz : m.sz ≤ 2097152
 cu : m.cu ≤ 1
 ok : ∀ f ∈ m.fs, f.ok = true
 len : m.fs.length ≤ 500
 gen : 0 ≤ m.gen ∧ m.gen ≤ 4611686018427387903
def appendM (m : JM) (d : DS) (f : Fct) : Int × JM × DS :=
 if m.br = true then (240, m, d) else if f.ok = false then (240, m, d) else if f.n ≠ (m.fs.length + 1 : Nat) then (240, m, d)
 else if m.sz - m.en < (recL f).length then (241, m, d)
 else if (runOps (safeOps ((m.cu * m.sz + m.en : Nat) : Int) (ba (recL f))) d).1 = 0 then (0, { m with fs := m.fs ++ [f], en := m.en + (recL f).length }, (runOps (safeOps ((m.cu * m.sz + m.en : Nat) : Int) (ba (recL f))) d).2)
 else ((runOps (safeOps ((m.cu * m.sz + m.en : Nat) : Int) (ba (recL f))) d).1, { m with br := true }, (runOps (safeOps ((m.cu * m.sz + m.en : Nat) : Int) (ba (recL f))) d).2)
def JD (JB D : Nat) (m : JM) (d : DS) (L : SHeap) : Prop := ∃ F p c T, L.Perm (jH JB D (m.js p c) :: (F ++ T)) ∧ DRep D d F ∧ FRow noLk m.fs p c T
def APre (lk : Lk) (S : List Nat) (W : World) : Prop := (0 ∉ S ∧ blkW W 0 = some tabV) ∧ ∀ b c, lk b c → lkX S W b c
theorem lkX_kept {lk : Lk} {S : List Nat} {w0 W : World} {L : SHeap} (h : ∀ b c, lk b c → lkX S w0 b c) (hm : Mem L S w0 W) : ∀ b c, lk b c → lkW W b c := fun b c hb => blkW_kept hm.kept (h b c hb).1 (h b c hb).2
theorem append_e {lk : Lk} {JB D : Nat} {m : JM} {d : DS} {L : SHeap} {f : Fct} {tp bp ap : OA} {tc bc ac : Nat} (h : JD JB D m d L) (hm : MOk m) (hp : d.pend.length < 900000) (hf : FAt lk f tp tc bp bc ap ac) :
  EffW TP 16 ⟨[pt JB 0, .agg ⟨f.cells tp tc bp bc ap ac⟩]⟩ L (APre lk (L.map (·.1))) (fun v L' => v = .int .i64 (appendM m d f).1 ∧ JD JB D (appendM m d f).2.1 (appendM m d f).2.2 L') := by
 obtain ⟨F, p, c, T, hL, hd, hT⟩ := h
 intro W hm0 ⟨⟨hS, hg⟩, hlk⟩
 generalize L.map (·.1) = S at *
 have hm1 := hm0.perm hL.symm
 have hen := hm.en; have hsz := hm.sz; have hcu := hm.cu; have hlen := hm.len
 refine jAppend_vc JB f tp tc bp bc ap ac m.gen p m.fs.length c (m.en : Int) D (m.sz : Int) (m.cu : Int) m.br (F ++ T) hm1 fun B => ?_
 have back : ∀ {e : Int} {mm : JM × DS}, (e, mm) = appendM m d f → mm = (m, d) → Fin (fun e W' => ∃ v L', e = .returned v ∧ Mem L' S W W' ∧ v = .int .i64 (appendM m d f).1 ∧ JD JB D (appendM m d f).2.1 (appendM m d f).2.2 L') (jAppendH0 B f tp tc bp bc ap ac JB m.gen p m.fs.length c (m.en : Int) D (m.sz : Int) (m.cu : Int) m.br (F ++ T)) S W (.int .i64 e) := by
  intro e mm h1 h2
  subst h2
  rw [← h1]
  refine dkFin ⟨rfl, F, p, c, (B, .cells (jAppendA0 f tp tc bp bc ap ac) 38) :: T, ?_, hd, hT.more [_]⟩
  exact pm5 _ _ _ _
 refine ⟨fun hbr => back (by rw [appendM, if_pos hbr]) rfl, fun hbr => ⟨f.ok, QCall.pw fun W' hm' => fValid_c (hf.mono (lkX_kept hlk hm')), fun hok => ?_, fun hok => back (by rw [appendM, if_neg (by rw [hbr]; decide), if_pos hok]) rfl⟩⟩
 refine ⟨((m.fs.length + 1 : Nat) : Int), QCall.pw fun W' hm' => next_pw (m := m) (hm'.here (jH JB D (m.js p c)) (List.mem_cons_of_mem _ List.mem_cons_self)) (by omega), fun hn => back (by rw [appendM, if_neg (by rw [hbr]; decide), if_neg (by rw [hok]; decide), if_pos hn]) rfl, fun hn => ?_⟩
 refine CallH.pw (fun W' hm' => record_c (blkW_kept hm'.kept hS hg) (hf.mono (lkX_kept hlk hm')) hok) ⟨_, rfl, rfl, ?_⟩
 refine CallH.pw (fun W' hm' => room_pw (m := m) (hm'.here (jH JB D (m.js p c)) (List.mem_cons_of_mem _ List.mem_cons_self)) hen (by omega)) ⟨_, rfl, rfl, fun hr => back (by rw [appendM, if_neg (by rw [hbr]; decide), if_neg (by rw [hok]; decide), if_neg (by simpa using hn), if_pos (by rw [ba_size] at hr; omega)]) rfl, fun hr => ?_⟩
 rw [ba_size] at hr
 have hrl : (recL f).length ≤ m.sz - m.en := by omega
 refine ⟨((m.cu * m.sz : Nat) : Int), QCallB.pw fun W' hm' => start_pw (m := m) (hm'.here (jH JB D (m.js p c)) (List.mem_cons_of_mem _ List.mem_cons_self)) hcu (by omega), ?_⟩
 have hcs : m.cu * m.sz ≤ 1 * 2097152 := Nat.mul_le_mul hcu hsz
 have ew : IntKind.i64.wrap (((m.cu * m.sz : Nat) : Int) + (m.en : Int)) = ((m.cu * m.sz + m.en : Nat) : Int) := by rw [wi64 (by omega)]; omega
 rw [ew]
 have hr1 : 1 ≤ (ba (recL f)).size := by rw [ba_size]; show 1 ≤ (frm _).length; rw [frm]; simp
 refine CallH.eff (L0 := [jH JB D (m.js p c)]) (L1 := (B, .cells (jAppendA0 f tp tc bp bc ap ac) 38) :: (F ++ T)) (safely_e (j := m.js p c) hr1 (by omega)) (pm1 _ _ _) ?_
 rintro _ _ ⟨Bs, X, rfl, rfl, hst⟩
 refine ⟨_, pm2 _ _ _ _, some ⟨Bs, 0, none⟩, 4, _, rfl, rfl, ?_⟩
 obtain ⟨vs, t, fz, k1, k2, k3⟩ := hst
 refine CallH.eff (L0 := jH JB D (m.js p c) :: (F ++ X)) (L1 := (B, .cells (jAppendA0 f tp tc bp bc ap ac) 38) :: T) (run_e (ops := safeOps ((m.cu * m.sz + m.en : Nat) : Int) (ba (recL f))) (sc := 4) k1 k2 k3 (j := m.js p c) (by show 4 ≤ 1000; omega) hd hp) (pm3 _ _ _ _ _) ?_
 rintro _ _ ⟨F', rfl, rfl, hd'⟩
 have hM : appendM m d f = if (runOps (safeOps ((m.cu * m.sz + m.en : Nat) : Int) (ba (recL f))) d).1 = 0 then (0, { m with fs := m.fs ++ [f], en := m.en + (recL f).length }, (runOps (safeOps ((m.cu * m.sz + m.en : Nat) : Int) (ba (recL f))) d).2)
   else ((runOps (safeOps ((m.cu * m.sz + m.en : Nat) : Int) (ba (recL f))) d).1, { m with br := true }, (runOps (safeOps ((m.cu * m.sz + m.en : Nat) : Int) (ba (recL f))) d).2) := by
  rw [appendM, if_neg (by rw [hbr]; decide), if_neg (by rw [hok]; decide), if_neg (by simpa using hn), if_neg (by omega)]
 generalize runOps (safeOps ((m.cu * m.sz + m.en : Nat) : Int) (ba (recL f))) d = r at *
 have ha : jH JB D ((m.js p c).after r.1) = (JB, .cells #[.int .i64 m.gen, .slice p m.fs.length c, .int .i64 m.en, .pointer (SO D), .int .i64 m.sz, .int .i64 m.cu, .bool ((m.js p c).after r.1).br] 86) := by
  unfold JS.after; split <;> rfl
 rw [ha]
 refine ⟨_, pm4 _ _ _ _ _, F' ++ (X ++ T), r.1, ((m.js p c).after r.1).br, rfl, rfl, fun hne => ?_, fun he => ?_⟩
 ·rw [hM, if_neg hne]
  have hb : ((m.js p c).after r.1).br = true := by rw [JS.after, if_neg hne]
  rw [hb]
  exact dkFin ⟨rfl, F', p, c, (B, .cells (jAppendA0 f tp tc bp bc ap ac) 38) :: (X ++ T), pm5 _ _ _ _, hd', hT.more (_ :: X)⟩
 ·have hb : ((m.js p c).after r.1).br = m.br := by rw [JS.after, if_pos he]
  rw [hb]
  refine CallH.new (lk := lk) [_, _] (copied_e hf (ok_small hok)) (fun W' hm' => lkX_kept hlk hm') ?_
  rintro _ Z ⟨tp', tc', bp', bc', ap', ac', rfl, hf'⟩
  refine ⟨f, tp', tc', bp', bc', ap', ac', _, rfl, rfl, fun B1 => ?_⟩
  refine (FRow.push (X := Z) (Y := (B, .cells (jAppendA0 f tp tc bp bc ap ac) 38) :: jH JB D (m.js p c) :: (B1, .cells (jAppendA1 f tp' tc' bp' bc' ap' ac') 38) :: (F' ++ X)) hT (hf'.mono lkU_l) rfl (by omega) (pm6 _ _ _ _ _ _ _)).monoP ?_
  rintro _ L2 ⟨p', c', N, rfl, hp2, hN, _, _⟩
  refine ⟨_, hp2.trans (pm7 _ _ _ _ _ _), p', c', N ++ ((B1, .cells (jAppendA1 f tp' tc' bp' bc' ap' ac') 38) :: (F' ++ X)), rfl, rfl, ?_⟩
  rw [hM, if_pos he]
  have ew2 : IntKind.i64.wrap ((m.en : Int) + ((ba (recL f)).size : Int)) = ((m.en + (recL f).length : Nat) : Int) := by rw [ba_size, wi64 (by omega)]; omega
  have el : (m.fs ++ [f]).length = m.fs.length + 1 := by simp
  rw [ew2]
  have hN2 : FRow noLk (m.fs ++ [f]) p' c' ((((B, .cells (jAppendA0 f tp tc bp bc ap ac) 38) :: (B1, .cells (jAppendA1 f tp' tc' bp' bc' ap' ac') 38) :: X) ++ N)) := hN.more _
  exact dkFin ⟨rfl, F', p', c', _, by rw [JM.js, el]; exact pm8 _ _ _ _ _ _, hd', hN2⟩
set_option maxRecDepth 100000
abbrev jRedactedA0 (m21 : Fct) (m21tp : OA) (m21tc : Nat) (m21bp : OA) (m21bc : Nat) (m21ap : OA) (m21ac : Nat) : Array Value := ⟨m21.cells m21tp m21tc m21bp m21bc m21ap m21ac⟩
abbrev jRedactedA1 (z : Fct) (ztp : OA) (ztc : Nat) (zbp : OA) (zbc : Nat) (zap : OA) (zac : Nat) : Array Value := ⟨z.cells ztp ztc zbp zbc zap zac⟩
abbrev jRedactedA2 (m1 : Fct) (m1tp : OA) (m1tc : Nat) (m1bp : OA) (m1bc : Nat) (m1ap : OA) (m1ac : Nat) : Array Value := ⟨m1.cells m1tp m1tc m1bp m1bc m1ap m1ac⟩
abbrev jRedactedA3 (gen : Int) (fp : OA) (fl fc : Nat) (en : Int) (m3_b1 : Nat) (sz cu : Int) (m61 : Bool) : Array Value := #[IV gen, .slice fp fl fc, IV en, PP m3_b1, IV sz, IV cu, .bool m61]
abbrev jRedactedA4 (gen : Int) (fp : OA) (fl fc : Nat) (en : Int) (m3_b : Nat) (sz cu : Int) (m6 : Bool) : Array Value := #[IV gen, .slice fp fl fc, IV en, PP m3_b, IV sz, IV cu, .bool m6]
abbrev jRedactedA5 : Array Value := #[IV 0, IV 0, IV 0, IV 0, .string (⟨#[]⟩), IV 0, IV 0, .string (⟨#[]⟩), .string (⟨#[]⟩), .slice none 0 0, .slice none 0 0, IV 0, .slice none 0 0, IV 0, IV 0, IV 0, IV 0, IV 0, .string (⟨#[]⟩), .string (⟨#[]⟩), IV 0, IV 0, IV 0]
def jRedacted_c0 (JB : Nat) (gen : Int) (fp : OA) (fl fc : Nat) (en : Int) (D : Nat) (sz cu : Int) (br : Bool) (B1 B2 : Nat) (t18 : Int) (m3_b : Nat) (m6 : Bool) (es : Array MapEntry) (mc : Nat) (F1 : SHeap) (S : List Nat) (w0 : World) (R : Ending → World → Prop) : Prop :=
 AtE TP 67 66 (KC Tryz.f67 116) [(0, PP B1), (4, .map (some B2)), (16, .slice fp fl fc), (17, IV (fl : Int)), (18, IV t18)] ((B1, .cells (jRedactedA4 gen fp fl fc en m3_b sz cu m6) 86) :: (B2, .map es mc) :: F1) S w0 (nrm R)
def jRedacted_c1 (JB : Nat) (gen : Int) (fp : OA) (fl fc : Nat) (en : Int) (D : Nat) (sz cu : Int) (br : Bool) (B5 B6 content_b : Nat) (facts_p : OA) (facts_l facts_c : Nat) (t46 : Int) (es2 : Array MapEntry) (mc2 m3_b1 : Nat) (m61 : Bool) (F3 : SHeap) (S : List Nat) (w0 : World) (R : Ending → World → Prop) : Prop :=
 AtE TP 67 66 (KC Tryz.f67 2036) [(4, .map (some B5)), (7, PP content_b), (8, .slice facts_p facts_l facts_c), (44, .slice fp fl fc), (45, IV (fl : Int)), (46, IV t46)] ((B5, .map es2 mc2) :: (B6, .cells (jRedactedA3 gen fp fl fc en m3_b1 sz cu m61) 86) :: F3) S w0 (nrm R)
theorem jRedacted_c0_vc (JB : Nat) (gen : Int) (fp : OA) (fl fc : Nat) (en : Int) (D : Nat) (sz cu : Int) (br : Bool) (B1 B2 : Nat) (t18 : Int) (m3_b : Nat) (m6 : Bool) (es : Array MapEntry) (mc : Nat) (F1 : SHeap)
 (H :
 Br (t18 < (fl : Int))
 (∃ fpb fpo : Nat, fp = some ⟨fpb, fpo, none⟩ ∧ (0 ≤ t18 ∧ t18 < fl) ∧
 ∃ (cw : List Value) (m1 : Fct) (m1tp : OA) (m1tc : Nat) (m1bp : OA) (m1bc : Nat) (m1ap : OA) (m1ac : Nat), (∃ t fz, (fpb, Obj.cells ⟨cw⟩ t fz) ∈ ((B1, .cells (jRedactedA4 gen fp fl fc en m3_b sz cu m6) 86) :: (B2, .map es mc) :: F1)) ∧ ((cw.drop (fpo + ((Int.toNat t18) * 23))).take 23 = (m1.cells m1tp m1tc m1bp m1bc m1ap m1ac) ∧ (fpo + ((Int.toNat t18) * 23)) + 23 ≤ cw.length) ∧
 ∀ B3 : Nat,
 Br (m1.kind = 6)
 ((intKeys .i64 (es : Array MapEntry).toList = true) ∧
 ∀ (es1 : Array MapEntry) (mc1 : Nat), intKeys .i64 es1.toList = true → (∀ q, entryI .i64 q es1.toList = if q = m1.story then some (.bool true) else entryI .i64 q (es : Array MapEntry).toList) →
 jRedacted_c0 JB gen fp fl fc en D sz cu br B1 B2 (IntKind.i64.wrap (t18 + (1 : Int))) m3_b m6 es1 mc1 F1 S w0 R)
 (jRedacted_c0 JB gen fp fl fc en D sz cu br B1 B2 (IntKind.i64.wrap (t18 + (1 : Int))) m3_b m6 es mc F1 S w0 R))
 (∀ B4 : Nat,
 CallH TP 48 ⟨[IV (IntKind.i64.wrap (gen + (1 : Int)))]⟩ ((B4, .cells #[.pointer none, .slice none 0 0] 103) :: (B1, .cells (jRedactedA4 gen fp fl fc en m3_b sz cu m6) 86) :: (B2, .map es mc) :: F1) S w0 (fun v L' => ∃ r1 r21, v = (.tuple #[.string r1, IV r21]) ∧ L' = ((B4, .cells #[.pointer none, .slice none 0 0] 103) :: (B1, .cells (jRedactedA4 gen fp fl fc en m3_b sz cu m6) 86) :: (B2, .map es mc) :: F1) ∧
 CallH TP 47 ⟨[.string r1, IV r21]⟩ ((B4, .cells #[.pointer none, .slice none 0 0] 103) :: (B1, .cells (jRedactedA4 gen fp fl fc en m3_b sz cu m6) 86) :: (B2, .map es mc) :: F1) S w0 (fun v L' => ∃ r31, v = .string r31 ∧ L' = ((B4, .cells #[.pointer none, .slice none 0 0] 103) :: (B1, .cells (jRedactedA4 gen fp fl fc en m3_b sz cu m6) 86) :: (B2, .map es mc) :: F1) ∧
 CallH TP 109 ⟨[PP B4, .string r31]⟩ ((B4, .cells #[.pointer none, .slice none 0 0] 103) :: (B1, .cells (jRedactedA4 gen fp fl fc en m3_b sz cu m6) 86) :: (B2, .map es mc) :: F1) S w0 (fun v L' => ∃ F2 wn, v = (.tuple #[IV wn, .nilIface]) ∧ L' = ((B1, .cells (jRedactedA4 gen fp fl fc en m3_b sz cu m6) 86) :: (B2, .map es mc) :: F2) ∧
 jRedacted_c1 JB gen fp fl fc en D sz cu br B2 B1 B4 none 0 0 (0 : Int) es mc m3_b m6 F2 S w0 R))))) :
 jRedacted_c0 JB gen fp fl fc en D sz cu br B1 B2 t18 m3_b m6 es mc F1 S w0 R:= by
 unfold jRedacted_c0
 refine .ru 5 (.sP 19 H (fun H => ?_) fun H => ?_)
 ·refine .ru 6 ?_
  obtain ⟨fpb, fpo, hp, H⟩ := H
  refine .indexAddrP (E := 38) (p := fp) (b := fpb) (o := fpo) (len := fl) (cap := fc) (sz := 23) (o' := (fpo + ((Int.toNat t18) * 23))) (kd := .i64) (i := t18) hp (by kernel_rfl) H.1 (by omega) ?_
  replace H := H.2
  obtain ⟨cw, m1, m1tp, m1tc, m1bp, m1bc, m1ap, m1ac, hw, hx, H⟩ := H
  refine .loadT (b := fpb) (off := (fpo + ((Int.toNat t18) * 23))) (T := 38) (v := .agg (jRedactedA2 m1 m1tp m1tc m1bp m1bc m1ap m1ac)) (by kernel_rfl) hw (valAt_agg hx.1 hx.2 (by kernel_rfl) (by kernel_rfl)) (.nH (.cells jRedactedA5 38) H fun B3 H => (.front (.store 0 0 (T := 38) (v := .agg (jRedactedA2 m1 m1tp m1tc m1bp m1bc m1ap m1ac)) (by kernel_rfl) (.ru 4 (.ld 0 2 (.ru 2 (.sP 24 H (fun H => ?_) fun H => ?_)))))))
  ·refine .nm (KC Tryz.f67 7475) [(0, PP B1), (4, .map (some B2)), (6, PP B3), (16, .slice fp fl fc), (17, IV (fl : Int)), (18, IV t18), (24, .bool true)] ((B3, .cells (jRedactedA2 m1 m1tp m1tc m1bp m1bc m1ap m1ac) 38) :: (B1, .cells (jRedactedA4 gen fp fl fc en m3_b sz cu m6) 86) :: (B2, .map es mc) :: F1) (.ru 4 (.ld 0 3 (.mapPut 2 (b := B2) (c := mc) (es := es) (kt := 3) (et := 4) (kd := .i64) (n := m1.story) (v := .bool true) (by kernel_rfl) H.1 (fun es1 mc1 hi hv => ?_))))
   replace H := H.2 es1 mc1 hi hv
   refine .nm (KR Tryz.f67 14950 []) [(0, PP B1), (4, .map (some B2)), (16, .slice fp fl fc), (17, IV (fl : Int)), (18, IV t18)] ((B3, .cells (jRedactedA2 m1 m1tp m1tc m1bp m1bc m1ap m1ac) 38) :: (B1, .cells (jRedactedA4 gen fp fl fc en m3_b sz cu m6) 86) :: (B2, .map es1 mc1) :: F1) (.ru 7 (.tT [1,2] 3 H))
  ·refine .nm (KC Tryz.f67 7475) [(0, PP B1), (4, .map (some B2)), (6, PP B3), (16, .slice fp fl fc), (17, IV (fl : Int)), (18, IV t18), (24, .bool false)] ((B3, .cells (jRedactedA2 m1 m1tp m1tc m1bp m1bc m1ap m1ac) 38) :: (B1, .cells (jRedactedA4 gen fp fl fc en m3_b sz cu m6) 86) :: (B2, .map es mc) :: F1) (.ru 8 (.tT [1,2] 3 H))
 ·refine .ru 4 (.nH (.cells #[.pointer none, .slice none 0 0] 103) H fun B4 H => (.front (.ru 7 (.ld 1 0 (.ru 1 (.cl H ?_))))))
  rintro _ _ ⟨r1, r21, rfl, rfl, H⟩
  refine .ru 2 (.cl H ?_)
  rintro _ _ ⟨r31, rfl, rfl, H⟩
  refine .cl H ?_
  rintro _ _ ⟨F2, wn, rfl, rfl, H⟩
  refine .ru 12 (.ld 0 1 (.nm (KR Tryz.f67 508 [5,6]) [(4, .map (some B2)), (7, PP B4), (8, .slice none 0 0), (44, .slice fp fl fc)] ((B1, .cells (jRedactedA4 gen fp fl fc en m3_b sz cu m6) 86) :: (B2, .map es mc) :: F2) (.ru 5 (.tT [1,0] 2 H))))
theorem jRedacted_c1_vc (JB : Nat) (gen : Int) (fp : OA) (fl fc : Nat) (en : Int) (D : Nat) (sz cu : Int) (br : Bool) (B5 B6 content_b : Nat) (facts_p : OA) (facts_l facts_c : Nat) (t46 : Int) (es2 : Array MapEntry) (mc2 m3_b1 : Nat) (m61 : Bool) (F3 : SHeap)
 (H :
 Br (t46 < (fl : Int))
 (∃ fpb1 fpo1 : Nat, fp = some ⟨fpb1, fpo1, none⟩ ∧ (0 ≤ t46 ∧ t46 < fl) ∧
 ∃ (cw1 : List Value) (m21 : Fct) (m21tp : OA) (m21tc : Nat) (m21bp : OA) (m21bc : Nat) (m21ap : OA) (m21ac : Nat), (∃ t fz, (fpb1, Obj.cells ⟨cw1⟩ t fz) ∈ ((B5, .map es2 mc2) :: (B6, .cells (jRedactedA3 gen fp fl fc en m3_b1 sz cu m61) 86) :: F3)) ∧ ((cw1.drop (fpo1 + ((Int.toNat t46) * 23))).take 23 = (m21.cells m21tp m21tc m21bp m21bc m21ap m21ac) ∧ (fpo1 + ((Int.toNat t46) * 23)) + 23 ≤ cw1.length) ∧
 ∀ B7 : Nat,
 ∃ has : Bool, (intKeys .i64 (es2 : Array MapEntry).toList = true) ∧ ((entryI .i64 m21.story (es2 : Array MapEntry).toList).getD (.bool false) = .bool has) ∧
 Bb (has)
 (CallH TP 81 ⟨[.agg (jRedactedA0 m21 m21tp m21tc m21bp m21bc m21ap m21ac)]⟩ ((B7, .cells (jRedactedA0 m21 m21tp m21tc m21bp m21bc m21ap m21ac) 38) :: (B5, .map es2 mc2) :: (B6, .cells (jRedactedA3 gen fp fl fc en m3_b1 sz cu m61) 86) :: F3) S w0 (fun v L' => ∃ (z : Fct) (ztp : OA) (ztc : Nat) (zbp : OA) (zbc : Nat) (zap : OA) (zac : Nat), ∃ F4, v = (.agg (jRedactedA1 z ztp ztc zbp zbc zap zac)) ∧ L' = ((B7, .cells (jRedactedA0 m21 m21tp m21tc m21bp m21bc m21ap m21ac) 38) :: (B5, .map es2 mc2) :: (B6, .cells (jRedactedA3 gen fp fl fc en m3_b1 sz cu m61) 86) :: F4) ∧
 ∀ B8 : Nat,
 AppN TP 23 22 22 (.slice facts_p facts_l facts_c) (1) (z.cells ztp ztc zbp zbc zap zac) ((B8, .cells (jRedactedA1 z ztp ztc zbp zbc zap zac) 38) :: (B7, .cells (jRedactedA1 z ztp ztc zbp zbc zap zac) 38) :: (B5, .map es2 mc2) :: (B6, .cells (jRedactedA3 gen fp fl fc en m3_b1 sz cu m61) 86) :: F4) S w0 (fun v L' => ∃ (ap : OA) (ac : Nat), ∃ F5, v = (.slice ap (facts_l + 1) ac) ∧ L' = ((B7, .cells (jRedactedA1 z ztp ztc zbp zbc zap zac) 38) :: (B5, .map es2 mc2) :: (B6, .cells (jRedactedA3 gen fp fl fc en m3_b1 sz cu m61) 86) :: F5) ∧
 CallH TP 54 ⟨[.agg (jRedactedA1 z ztp ztc zbp zbc zap zac)]⟩ ((B7, .cells (jRedactedA1 z ztp ztc zbp zbc zap zac) 38) :: (B5, .map es2 mc2) :: (B6, .cells (jRedactedA3 gen fp fl fc en m3_b1 sz cu m61) 86) :: F5) S w0 (fun v L' => ∃ r71, v = .string r71 ∧ L' = ((B7, .cells (jRedactedA1 z ztp ztc zbp zbc zap zac) 38) :: (B5, .map es2 mc2) :: (B6, .cells (jRedactedA3 gen fp fl fc en m3_b1 sz cu m61) 86) :: F5) ∧
 CallH TP 109 ⟨[PP content_b, .string r71]⟩ ((B7, .cells (jRedactedA1 z ztp ztc zbp zbc zap zac) 38) :: (B5, .map es2 mc2) :: (B6, .cells (jRedactedA3 gen fp fl fc en m3_b1 sz cu m61) 86) :: F5) S w0 (fun v L' => ∃ F6 wn1, v = (.tuple #[IV wn1, .nilIface]) ∧ L' = ((B7, .cells (jRedactedA1 z ztp ztc zbp zbc zap zac) 38) :: (B5, .map es2 mc2) :: (B6, .cells (jRedactedA3 gen fp fl fc en m3_b1 sz cu m61) 86) :: F6) ∧
 jRedacted_c1 JB gen fp fl fc en D sz cu br B5 B6 content_b ap (facts_l + 1) ac (IntKind.i64.wrap (t46 + (1 : Int))) es2 mc2 m3_b1 m61 F6 S w0 R)))))
 (∀ B9 : Nat,
 AppN TP 23 22 22 (.slice facts_p facts_l facts_c) (1) (m21.cells m21tp m21tc m21bp m21bc m21ap m21ac) ((B9, .cells (jRedactedA0 m21 m21tp m21tc m21bp m21bc m21ap m21ac) 38) :: (B7, .cells (jRedactedA0 m21 m21tp m21tc m21bp m21bc m21ap m21ac) 38) :: (B5, .map es2 mc2) :: (B6, .cells (jRedactedA3 gen fp fl fc en m3_b1 sz cu m61) 86) :: F3) S w0 (fun v L' => ∃ (ap1 : OA) (ac1 : Nat), ∃ F7, v = (.slice ap1 (facts_l + 1) ac1) ∧ L' = ((B7, .cells (jRedactedA0 m21 m21tp m21tc m21bp m21bc m21ap m21ac) 38) :: (B5, .map es2 mc2) :: (B6, .cells (jRedactedA3 gen fp fl fc en m3_b1 sz cu m61) 86) :: F7) ∧
 CallH TP 54 ⟨[.agg (jRedactedA0 m21 m21tp m21tc m21bp m21bc m21ap m21ac)]⟩ ((B7, .cells (jRedactedA0 m21 m21tp m21tc m21bp m21bc m21ap m21ac) 38) :: (B5, .map es2 mc2) :: (B6, .cells (jRedactedA3 gen fp fl fc en m3_b1 sz cu m61) 86) :: F7) S w0 (fun v L' => ∃ r101, v = .string r101 ∧ L' = ((B7, .cells (jRedactedA0 m21 m21tp m21tc m21bp m21bc m21ap m21ac) 38) :: (B5, .map es2 mc2) :: (B6, .cells (jRedactedA3 gen fp fl fc en m3_b1 sz cu m61) 86) :: F7) ∧
 CallH TP 109 ⟨[PP content_b, .string r101]⟩ ((B7, .cells (jRedactedA0 m21 m21tp m21tc m21bp m21bc m21ap m21ac) 38) :: (B5, .map es2 mc2) :: (B6, .cells (jRedactedA3 gen fp fl fc en m3_b1 sz cu m61) 86) :: F7) S w0 (fun v L' => ∃ F8 wn2, v = (.tuple #[IV wn2, .nilIface]) ∧ L' = ((B7, .cells (jRedactedA0 m21 m21tp m21tc m21bp m21bc m21ap m21ac) 38) :: (B5, .map es2 mc2) :: (B6, .cells (jRedactedA3 gen fp fl fc en m3_b1 sz cu m61) 86) :: F8) ∧
 jRedacted_c1 JB gen fp fl fc en D sz cu br B5 B6 content_b ap1 (facts_l + 1) ac1 (IntKind.i64.wrap (t46 + (1 : Int))) es2 mc2 m3_b1 m61 F8 S w0 R)))))
 (CallH TP 60 ⟨[PP content_b]⟩ ((B5, .map es2 mc2) :: (B6, .cells (jRedactedA3 gen fp fl fc en m3_b1 sz cu m61) 86) :: F3) S w0 (fun v L' => ∃ F9 text, v = .string text ∧ L' = ((B5, .map es2 mc2) :: (B6, .cells (jRedactedA3 gen fp fl fc en m3_b1 sz cu m61) 86) :: F9) ∧
 Fin R ((B5, .map es2 mc2) :: (B6, .cells (jRedactedA3 gen fp fl fc en m3_b1 sz cu m61) 86) :: F9) S w0 (.tuple #[.string text, .slice facts_p facts_l facts_c])))) :
 jRedacted_c1 JB gen fp fl fc en D sz cu br B5 B6 content_b facts_p facts_l facts_c t46 es2 mc2 m3_b1 m61 F3 S w0 R:= by
 unfold jRedacted_c1
 refine .ru 5 (.sP 47 H (fun H => ?_) fun H => ?_)
 ·refine .ru 6 ?_
  obtain ⟨fpb1, fpo1, hp, H⟩ := H
  refine .indexAddrP (E := 38) (p := fp) (b := fpb1) (o := fpo1) (len := fl) (cap := fc) (sz := 23) (o' := (fpo1 + ((Int.toNat t46) * 23))) (kd := .i64) (i := t46) hp (by kernel_rfl) H.1 (by omega) ?_
  replace H := H.2
  obtain ⟨cw1, m21, m21tp, m21tc, m21bp, m21bc, m21ap, m21ac, hw, hx, H⟩ := H
  refine .loadT (b := fpb1) (off := (fpo1 + ((Int.toNat t46) * 23))) (T := 38) (v := .agg (jRedactedA0 m21 m21tp m21tc m21bp m21bc m21ap m21ac)) (by kernel_rfl) hw (valAt_agg hx.1 hx.2 (by kernel_rfl) (by kernel_rfl)) (.nH (.cells jRedactedA5 38) H fun B7 H => (.front (.store 0 0 (T := 38) (v := .agg (jRedactedA0 m21 m21tp m21tc m21bp m21bc m21ap m21ac)) (by kernel_rfl) (.ru 6 (.ld 0 3 ?_)))))
  obtain ⟨has, hi, hu, H⟩ := H
  refine .mapGet 1 (b := B5) (c := mc2) (es := es2) (kt := 3) (et := 4) (kd := .i64) (n := m21.story) (z := .bool false) (.bool has) (by kernel_rfl) hi hu (.nm (KR Tryz.f67 260708 []) [(4, .map (some B5)), (7, PP content_b), (8, .slice facts_p facts_l facts_c), (10, PP B7), (44, .slice fp fl fc), (45, IV (fl : Int)), (46, IV t46), (53, .bool has)] ((B7, .cells (jRedactedA0 m21 m21tp m21tc m21bp m21bc m21ap m21ac) 38) :: (B5, .map es2 mc2) :: (B6, .cells (jRedactedA3 gen fp fl fc en m3_b1 sz cu m61) 86) :: F3) (.ru 1 (.sB 53 H (fun H => ?_) fun H => ?_)))
  ·refine .ru 2 (.ld 0 0 (.cl H ?_))
   rintro _ _ ⟨z, ztp, ztc, zbp, zbc, zap, zac, F4, rfl, rfl, H⟩
   refine .store 0 0 (T := 38) (v := .agg (jRedactedA1 z ztp ztc zbp zbc zap zac)) (by kernel_rfl) (.ru 4 (.ld 0 0 (.nw (fun B => .slice (SO B) 1 1) (.cells (jRedactedA1 z ztp ztc zbp zbc zap zac) 38) fun B8 => ?_)))
   replace H := H B8
   refine .front (.appendT (sz := 23) (T := 22) (U := 22) (s := .slice facts_p facts_l facts_c) (x := .slice (SO B8) 1 1) (1) (z.cells ztp ztc zbp zbc zap zac) (by kernel_rfl) (srcRow (E' := 38) (t := 38) (fz := (0, 0)) (c := (z.cells ztp ztc zbp zbc zap zac)) (by simp) (by kernel_rfl) (by simp) (by simp [Value.oneCell'])) H ?_)
   rintro _ _ ⟨ap, ac, F5, rfl, rfl, H⟩
   refine .nm (KR Tryz.f67 260710 [4]) [(4, .map (some B5)), (7, PP content_b), (10, PP B7), (44, .slice fp fl fc), (45, IV (fl : Int)), (46, IV t46), (59, .slice ap (facts_l + 1) ac)] ((B7, .cells (jRedactedA1 z ztp ztc zbp zbc zap zac) 38) :: (B5, .map es2 mc2) :: (B6, .cells (jRedactedA3 gen fp fl fc en m3_b1 sz cu m61) 86) :: F5) (.ru 3 (.ld 0 0 (.cl H ?_)))
   rintro _ _ ⟨r71, rfl, rfl, H⟩
   refine .cl H ?_
   rintro _ _ ⟨F6, wn1, rfl, rfl, H⟩
   refine .ru 7 (.tT [1,2] 3 H)
  ·refine .ru 5 (.ld 0 0 (.nw (fun B => .slice (SO B) 1 1) (.cells (jRedactedA0 m21 m21tp m21tc m21bp m21bc m21ap m21ac) 38) fun B9 => ?_))
   replace H := H B9
   refine .front (.appendT (sz := 23) (T := 22) (U := 22) (s := .slice facts_p facts_l facts_c) (x := .slice (SO B9) 1 1) (1) (m21.cells m21tp m21tc m21bp m21bc m21ap m21ac) (by kernel_rfl) (srcRow (E' := 38) (t := 38) (fz := (0, 0)) (c := (m21.cells m21tp m21tc m21bp m21bc m21ap m21ac)) (by simp) (by kernel_rfl) (by simp) (by simp [Value.oneCell'])) H ?_)
   rintro _ _ ⟨ap1, ac1, F7, rfl, rfl, H⟩
   refine .ru 3 (.ld 0 0 (.cl H ?_))
   rintro _ _ ⟨r101, rfl, rfl, H⟩
   refine .cl H ?_
   rintro _ _ ⟨F8, wn2, rfl, rfl, H⟩
   refine .nm (KR Tryz.f67 260711 []) [(4, .map (some B5)), (7, PP content_b), (8, .slice ap1 (facts_l + 1) ac1), (44, .slice fp fl fc), (45, IV (fl : Int)), (46, IV t46)] ((B7, .cells (jRedactedA0 m21 m21tp m21tc m21bp m21bc m21ap m21ac) 38) :: (B5, .map es2 mc2) :: (B6, .cells (jRedactedA3 gen fp fl fc en m3_b1 sz cu m61) 86) :: F8) (.ru 7 (.tT [1,2] 3 H))
 ·refine .ru 4 (.cl H ?_)
  rintro _ _ ⟨F9, text, rfl, rfl, H⟩
  refine .ru 4 (.rt Tryz.func67 H)
theorem jRedacted_vc (JB : Nat) (gen : Int) (fp : OA) (fl fc : Nat) (en : Int) (D : Nat) (sz cu : Int) (br : Bool) (F : SHeap) (hm : Mem ((JB, .cells #[IV gen, .slice fp fl fc, IV en, PP D, IV sz, IV cu, .bool br] 86) :: F) S w0 W)
 (H :
 ∀ B : Nat,
 jRedacted_c0 JB gen fp fl fc en D sz cu br JB B (0 : Int) D br (#[]) 0 F S w0 R) :
 Calls TP 67 ⟨[PP JB]⟩ W R:= by
 refine AtE.cs 66 Tryz.func67 hm (.ru 7 (.nw (fun B => .map (some B)) (.map #[] 0) fun B => ?_))
 replace H := H B
 refine .front (.ru 9 (.ld 1 1 (.ru 5 (.tT [1,0] 2 H))))
def takenB (l : List Fct) (q : Int) : Bool := l.any fun f => decide (f.kind = 6) && decide (f.story = q)
theorem takenB_snoc (l : List Fct) (f : Fct) (q : Int) : takenB (l ++ [f]) q = (takenB l q || (decide (f.kind = 6) && decide (f.story = q))) := by simp [takenB]
def redJ (l : List Fct) : List Fct := l.map fun f => if takenB l f.story = true then redF f else f
def redG (t l : List Fct) : List Fct := l.map fun f => if takenB t f.story = true then redF f else f
abbrev flat (fs : List Fct) : List UInt8 := fs.flatMap recL
abbrev cont (g : Int) (fs : List Fct) : List UInt8 := headL g ++ flat fs
theorem recL_len {f : Fct} (h : f.ok = true) : (recL f).length ≤ 60030 := by
 have h1 := encF_small h
 have h2 := encS_len (encF f)
 have h3 := frm_len (encS (encF f))
 rw [recL]; omega
theorem flat_len' : ∀ (fs : List Fct), (∀ f ∈ fs, f.ok = true) → (flat fs).length ≤ fs.length * 60030
 | [], _ => Nat.le_refl _
 | f :: r, h => by
  have h1 := recL_len (h f List.mem_cons_self)
  have h2 := flat_len' r fun x hx => h x (List.mem_cons_of_mem _ hx)
  simp only [flat, List.flatMap_cons, List.length_append, List.length_cons] at *
  omega
theorem headL_len (g : Int) : (headL g).length ≤ 21 := by
 have h1 := enc_len g
 have h2 := frm_len (Wire.enc g)
 rw [headL]; omega
theorem red_ok' {t : List Fct} {f : Fct} (h : f.ok = true) : (if takenB t f.story = true then redF f else f).ok = true := by
 split
 ·exact red_ok h
 ·exact h
theorem redG_ok {t l : List Fct} (h : ∀ f ∈ l, f.ok = true) : ∀ f ∈ redG t l, f.ok = true := by
 intro f hf
 obtain ⟨x, hx, rfl⟩ := List.mem_map.1 hf
 exact red_ok' (h x hx)
theorem FRow.join {fs : List Fct} {p : OA} {c : Nat} {N T : SHeap} (h : FRow (lkF T) fs p c N) : FRow noLk fs p c (N ++ T) := by
 obtain ⟨h1, h2 | ⟨Q, cs, G0, e, h2, h3, h4⟩⟩ := h
 ·exact ⟨h1, .inl h2⟩
 ·refine ⟨h1, .inr ⟨Q, cs, G0 ++ T, e, h2.append_right T, h3, h4.mono ?_⟩⟩
  rintro b c (hb | hb)
  ·exact .inl (lkF_mono (fun x hx => List.mem_append_left _ hx) b c hb)
  ·exact .inl (lkF_mono (fun x hx => List.mem_append_right _ hx) b c hb)
section perms
variable (x y z u v : Nat × Obj) (A F T X Z N B : SHeap)
theorem pr1 : ([x] ++ (y :: z :: T)).Perm (x :: y :: z :: T) := List.Perm.refl _
theorem pr2 : (F ++ (y :: z :: T)).Perm (y :: z :: (F ++ T)) := perm_a
theorem pr3 (hp : F.Perm (B ++ (N ++ T))) : (u :: v :: y :: z :: (X ++ F)).Perm (X ++ (N ++ (u :: v :: y :: z :: (B ++ T)))) := perm_of fun c w h1 h2 h3 h4 => by
 have := h4 _ _ hp
 simp only [h1, h2, h3] at this ⊢; omega
theorem pr4 : (N ++ (u :: v :: y :: z :: (B ++ T))).Perm (v :: y :: z :: (N ++ (u :: (B ++ T)))) := perm_a
theorem pr5 : (B ++ (v :: y :: z :: ((u :: N) ++ T))).Perm (v :: y :: z :: (N ++ (u :: (B ++ T)))) := perm_a
theorem pr6 : (B ++ (v :: y :: z :: ((u :: N) ++ T))).Perm (v :: y :: z :: (B ++ ((u :: N) ++ T))) := perm_a
theorem pr7 (hp : F.Perm (B ++ (N ++ T))) : (B ++ (y :: z :: (N ++ T))).Perm (y :: z :: F) := perm_of fun c w h1 h2 h3 h4 => by
 have := h4 _ _ hp
 simp only [h1, h2, h3] at this ⊢; omega
end perms
def MapOk (es : Array MapEntry) (t : List Fct) : Prop := intKeys .i64 es.toList = true ∧ ∀ q, entryI .i64 q es.toList = if takenB t q = true then some (.bool true) else none
theorem MapOk.put {es es1 : Array MapEntry} {t : List Fct} {f : Fct} (h : MapOk es t) (hk : f.kind = 6) (h1 : intKeys .i64 es1.toList = true) (h2 : ∀ q, entryI .i64 q es1.toList = if q = f.story then some (.bool true) else entryI .i64 q es.toList) : MapOk es1 (t ++ [f]) := by
 refine ⟨h1, fun q => ?_⟩
 rw [h2, h.2, takenB_snoc, decide_eq_true hk, Bool.true_and]
 by_cases hq : q = f.story
 ·rw [if_pos hq, decide_eq_true hq.symm, Bool.or_true, if_pos rfl]
 ·rw [if_neg hq, decide_eq_false (fun e => hq e.symm), Bool.or_false]
theorem MapOk.keep {es : Array MapEntry} {t : List Fct} {f : Fct} (h : MapOk es t) (hk : ¬ f.kind = 6) : MapOk es (t ++ [f]) := by
 refine ⟨h.1, fun q => ?_⟩
 rw [h.2, takenB_snoc, decide_eq_false hk, Bool.false_and, Bool.or_false]
def RedK (JB D : Nat) (m : JM) (p : OA) (c : Nat) (v : Value) (L' : SHeap) : Prop :=
 ∃ p' c' T', v = .tuple #[.string (ba (cont (m.gen + 1) (redJ m.fs))), .slice p' m.fs.length c'] ∧ L'.Perm (jH JB D (m.js p c) :: T') ∧ FRow noLk (redJ m.fs) p' c' T' ∧ FRow noLk m.fs p c T'
theorem take_snoc {α : Type} {l : List α} {i : Nat} (h : i < l.length) : l.take i ++ [l[i]] = l.take (i + 1) := by rw [List.take_add_one, List.getElem?_eq_getElem h]; rfl
theorem red_loop {JB D MB BB : Nat} {m : JM} {p : OA} {c : Nat} {T : SHeap} (hT : FRow noLk m.fs p c T) (hm : MOk m) (hgen : m.gen + 1 ≤ 4611686018427387903) {es : Array MapEntry} {mc : Nat} (hes : MapOk es m.fs) {S : List Nat} {w0 : World} (hS : 0 ∉ S) (hg : blkW w0 0 = some tabV) :
  ∀ (g i : Nat) (q : OA) (qc : Nat) (F Bd N : SHeap), g + i = m.fs.length → F.Perm (Bd ++ (N ++ T)) → BRep BB (headL (m.gen + 1) ++ flat (redG m.fs (m.fs.take i))) Bd → FRow (lkF T) (redG m.fs (m.fs.take i)) q qc N →
   jRedacted_c1 JB m.gen p m.fs.length c (m.en : Int) D (m.sz : Int) (m.cu : Int) m.br MB JB BB q i qc (i : Int) es mc D m.br F S w0 (fun e W' => ∃ v L', e = .returned v ∧ Mem L' S w0 W' ∧ RedK JB D m p c v L')
 | 0, i, q, qc, F, Bd, N, hgi, hp, hB, hN => by
  apply jRedacted_c1_vc
  obtain rfl : i = m.fs.length := by omega
  rw [List.take_length] at hB hN
  have hlen := hm.len
  have hsz : (headL (m.gen + 1) ++ flat (redG m.fs m.fs)).length ≤ 100000000 := by
   have h1 := flat_len' (redG m.fs m.fs) (redG_ok hm.ok)
   have h2 := headL_len (m.gen + 1)
   have h3 : (redG m.fs m.fs).length = m.fs.length := List.length_map _
   rw [List.length_append]; omega
  refine no (by omega) (CallH.eff (L0 := Bd) (L1 := (MB, .map es mc) :: jH JB D (m.js p c) :: (N ++ T)) (string_e hB (by omega)) (pr7 _ _ _ _ _ _ hp) ?_)
  rintro _ F' rfl
  refine ⟨_, pr2 _ _ _ _, _, _, rfl, rfl, dkFin ⟨q, qc, (MB, .map es mc) :: (F' ++ (N ++ T)), rfl, List.Perm.swap _ _ _, (hN.join.more F').more [_], ?_⟩⟩
  have := hT.more ((MB, .map es mc) :: (F' ++ N))
  rwa [List.cons_append, List.append_assoc] at this
 | g + 1, i, q, qc, F, Bd, N, hgi, hp, hB, hN => by
  apply jRedacted_c1_vc
  have hlen := hm.len
  have hi : i < m.fs.length := by omega
  have hok := hm.ok _ (List.getElem_mem hi)
  have hw : IntKind.i64.wrap ((i : Int) + 1) = ((i + 1 : Nat) : Int) := by rw [wi64 (by omega)]; omega
  have hrl : (redG m.fs (m.fs.take i)).length = i := by rw [redG, List.length_map, List.length_take]; omega
  have hsn : redG m.fs (m.fs.take i) ++ [if takenB m.fs m.fs[i].story = true then redF m.fs[i] else m.fs[i]] = redG m.fs (m.fs.take (i + 1)) := by
   rw [← take_snoc hi, redG, redG, List.map_append]; rfl
  have hsz : (headL (m.gen + 1) ++ flat (redG m.fs (m.fs.take i))).length ≤ 100000000 := by
   have h1 := flat_len' (redG m.fs (m.fs.take i)) (redG_ok fun f hf => hm.ok f (List.mem_of_mem_take hf))
   have h2 := headL_len (m.gen + 1)
   rw [hrl] at h1
   rw [List.length_append]; omega
  obtain ⟨c1, ⟨_, _, hn0⟩ | ⟨Q, cs, G0, rfl, k2, k3, k4⟩⟩ := hT
  ·rw [hn0] at hi; exact absurd hi (by simp)
  have hT : FRow noLk m.fs (SO Q) c T := ⟨c1, .inr ⟨Q, cs, G0, rfl, k2, k3, k4⟩⟩
  obtain ⟨j1, tp, tc, bp, bc, ap, ac, e, hf⟩ := k4 i hi
  have hf : FAt (lkF T) m.fs[i] tp tc bp bc ap ac := hf.mono fun b c hb => lkF_mono (fun x hx => k2.mem_iff.2 (List.mem_cons_of_mem _ hx)) b c (lkU_no b c hb)
  have inF : ∀ x ∈ T, x ∈ F := fun x hx => hp.mem_iff.2 (List.mem_append_right _ (List.mem_append_right _ hx))
  refine yes (by omega) ⟨Q, 0, rfl, by omega, cs, m.fs[i], tp, tc, bp, bc, ap, ac, ⟨_, _, List.mem_cons_of_mem _ (List.mem_cons_of_mem _ (inF _ (k2.mem_iff.2 List.mem_cons_self)))⟩, ⟨by rw [Nat.zero_add, Int.toNat_natCast]; exact e, by rw [Int.toNat_natCast]; omega⟩, fun B7 => ?_⟩
  have step : ∀ (f2 : Fct) (tp2 bp2 ap2 : OA) (tc2 bc2 ac2 B8 : Nat) (p' : OA) (c' : Nat) (N2 : SHeap), f2.ok = true → FAt (lkF (N2 ++ ((B8, .cells (jRedactedA0 f2 tp2 tc2 bp2 bc2 ap2 ac2) 38) :: (Bd ++ T)))) f2 tp2 tc2 bp2 bc2 ap2 ac2 → redG m.fs (m.fs.take i) ++ [f2] = redG m.fs (m.fs.take (i + 1)) → FRow (lkF T) (redG m.fs (m.fs.take i) ++ [f2]) p' c' N2 →
    CallH TP 54 ⟨[.agg (jRedactedA0 f2 tp2 tc2 bp2 bc2 ap2 ac2)]⟩ ((B7, .cells (jRedactedA0 f2 tp2 tc2 bp2 bc2 ap2 ac2) 38) :: (MB, .map es mc) :: (JB, .cells (jRedactedA3 m.gen (SO Q) m.fs.length c (m.en : Int) D (m.sz : Int) (m.cu : Int) m.br) 86) :: (N2 ++ ((B8, .cells (jRedactedA0 f2 tp2 tc2 bp2 bc2 ap2 ac2) 38) :: (Bd ++ T)))) S w0
     (fun v L' => ∃ (r71 : BA), v = (.string r71) ∧ L' = ((B7, .cells (jRedactedA0 f2 tp2 tc2 bp2 bc2 ap2 ac2) 38) :: (MB, .map es mc) :: (JB, .cells (jRedactedA3 m.gen (SO Q) m.fs.length c (m.en : Int) D (m.sz : Int) (m.cu : Int) m.br) 86) :: (N2 ++ ((B8, .cells (jRedactedA0 f2 tp2 tc2 bp2 bc2 ap2 ac2) 38) :: (Bd ++ T)))) ∧
     CallH TP 109 ⟨[.pointer (SO BB), .string r71]⟩ ((B7, .cells (jRedactedA0 f2 tp2 tc2 bp2 bc2 ap2 ac2) 38) :: (MB, .map es mc) :: (JB, .cells (jRedactedA3 m.gen (SO Q) m.fs.length c (m.en : Int) D (m.sz : Int) (m.cu : Int) m.br) 86) :: (N2 ++ ((B8, .cells (jRedactedA0 f2 tp2 tc2 bp2 bc2 ap2 ac2) 38) :: (Bd ++ T)))) S w0 (fun v L' => ∃ (F6 : SHeap) (wn1 : Int), v = (.tuple #[.int .i64 wn1, .nilIface]) ∧ L' = ((B7, .cells (jRedactedA0 f2 tp2 tc2 bp2 bc2 ap2 ac2) 38) :: (MB, .map es mc) :: (JB, .cells (jRedactedA3 m.gen (SO Q) m.fs.length c (m.en : Int) D (m.sz : Int) (m.cu : Int) m.br) 86) :: F6) ∧
      jRedacted_c1 JB m.gen (SO Q) m.fs.length c (m.en : Int) D (m.sz : Int) (m.cu : Int) m.br MB JB BB p' (i + 1) c' (IntKind.i64.wrap ((i : Int) + (1 : Int))) es mc D m.br F6 S w0 (fun e W' => ∃ v L', e = .returned v ∧ Mem L' S w0 W' ∧ RedK JB D m (SO Q) c v L'))) := by
   intro f2 tp2 bp2 ap2 tc2 bc2 ac2 B8 p' c' N2 hok2 hf2 hsn2 hN2
   refine CallH.pw (fun W' hm' => record_c (blkW_kept hm'.kept hS hg) (hf2.mono (lkF_W hm' fun x hx => List.mem_cons_of_mem _ (List.mem_cons_of_mem _ (List.mem_cons_of_mem _ hx)))) hok2) ⟨_, rfl, rfl, ?_⟩
   have hr := recL_len hok2
   refine CallH.eff (L0 := Bd) (L1 := (B7, .cells (jRedactedA0 f2 tp2 tc2 bp2 bc2 ap2 ac2) 38) :: (MB, .map es mc) :: (JB, .cells (jRedactedA3 m.gen (SO Q) m.fs.length c (m.en : Int) D (m.sz : Int) (m.cu : Int) m.br) 86) :: (((B8, .cells (jRedactedA0 f2 tp2 tc2 bp2 bc2 ap2 ac2) 38) :: N2) ++ T)) (write_e hB (by rw [ba_size]; omega)) (pr5 _ _ _ _ _ _ _) ?_
   rintro _ Bd' ⟨rfl, hB'⟩
   refine ⟨_, pr6 _ _ _ _ _ _ _, _, _, rfl, rfl, ?_⟩
   rw [hw]
   refine red_loop hT hm hgen hes hS hg g (i + 1) p' c' _ Bd' ((B8, .cells (jRedactedA0 f2 tp2 tc2 bp2 bc2 ap2 ac2) 38) :: N2) (by omega) (List.Perm.refl _) ?_ (hsn2 ▸ hN2.more [_])
   rw [bts_mk] at hB'
   rw [← hsn2, flat, List.flatMap_append, ← List.append_assoc, List.flatMap_singleton]
   exact hB'
  refine ⟨takenB m.fs m.fs[i].story, hes.1, ?_, fun ht => ?_, fun ht => ?_⟩
  ·rw [hes.2]; cases takenB m.fs m.fs[i].story <;> rfl
  ·rw [ht, if_pos rfl] at hsn
   refine CallH.new (lk := lkF T) [_, _, _] (redact_e hf (ok_small hok)) (fun W hm => lkF_W hm fun x hx => List.mem_cons_of_mem _ (List.mem_cons_of_mem _ (List.mem_cons_of_mem _ (inF x hx)))) ?_
   rintro _ Z ⟨tp', tc', bp', bc', ap', ac', rfl, hf'⟩
   refine ⟨redF m.fs[i], tp', tc', bp', bc', ap', ac', _, rfl, rfl, fun B8 => ?_⟩
   refine (FRow.push (f := redF m.fs[i]) hN hf' hrl (by omega) (pr3 _ _ _ _ _ _ _ _ _ hp)).monoP ?_
   rintro _ L2 ⟨p', c', N2, rfl, hp2, hN2, _, hZ⟩
   refine ⟨_, hp2.trans (pr4 _ _ _ _ _ _ _), p', c', _, rfl, rfl, step (redF m.fs[i]) tp' bp' ap' tc' bc' ac' B8 p' c' N2 (red_ok hok) (hf'.mono ?_) hsn hN2⟩
   rintro b c (hb | hb)
   ·exact lkF_mono (fun x hx => List.mem_append_left _ (hZ x hx)) b c hb
   ·exact lkF_mono (fun x hx => by simp [hx]) b c hb
  ·rw [ht, if_neg (by decide)] at hsn
   intro B8
   refine (FRow.push (X := []) (f := m.fs[i]) hN (hf.mono lkU_r) hrl (by omega) (pr3 _ _ _ _ _ _ _ _ _ hp)).monoP ?_
   rintro _ L2 ⟨p', c', N2, rfl, hp2, hN2, _, hZ⟩
   exact ⟨_, hp2.trans (pr4 _ _ _ _ _ _ _), p', c', _, rfl, rfl, step m.fs[i] tp bp ap tc bc ac B8 p' c' N2 hok (hf.mono (lkF_mono fun x hx => by simp [hx])) hsn hN2⟩
theorem map_loop {JB D MB : Nat} {m : JM} {p : OA} {c : Nat} {T : SHeap} (hT : FRow noLk m.fs p c T) (hm : MOk m) (hgen : m.gen + 1 ≤ 4611686018427387903) {S : List Nat} {w0 : World} (hS : 0 ∉ S) (hg : blkW w0 0 = some tabV) :
  ∀ (g i : Nat) (es : Array MapEntry) (mc : Nat), g + i = m.fs.length → MapOk es (m.fs.take i) →
   jRedacted_c0 JB m.gen p m.fs.length c (m.en : Int) D (m.sz : Int) (m.cu : Int) m.br JB MB (i : Int) D m.br es mc T S w0 (fun e W' => ∃ v L', e = .returned v ∧ Mem L' S w0 W' ∧ RedK JB D m p c v L')
 | 0, i, es, mc, hgi, hes => by
  apply jRedacted_c0_vc
  obtain rfl : i = m.fs.length := by omega
  rw [List.take_length] at hes
  have hge := hm.gen
  refine no (by omega) fun B4 => ?_
  rw [wi64 (by omega)]
  refine CallH.pure (PutInt_c _) ⟨encB (m.gen + 1), 0, if_pos (by unfold okInt maxInt; omega), rfl, ?_⟩
  have h10 := enc_len (m.gen + 1)
  refine CallH.pureG (framing_c (by rw [encB_size]; omega)) hS hg ⟨_, rfl, rfl, ?_⟩
  rw [encB_bts]
  have h21 := headL_len (m.gen + 1)
  refine CallH.eff (L0 := [(B4, .cells #[.pointer none, .slice none 0 0] 103)]) (L1 := jH JB D (m.js p c) :: (MB, .map es mc) :: T) (write_e (BRep.new B4) (by rw [ba_size]; show 0 + (headL (m.gen + 1)).length ≤ _; omega)) (pr1 _ _ _ _) ?_
  rintro _ Bd ⟨rfl, hB⟩
  refine ⟨_, pr2 _ _ _ _, Bd ++ T, _, rfl, rfl, ?_⟩
  refine red_loop hT hm hgen hes hS hg m.fs.length 0 none 0 _ Bd [] (by omega) (List.Perm.refl _) ?_ FRow.nil0
  rw [bts_mk, List.nil_append] at hB
  rw [List.take_zero]
  show BRep B4 (headL (m.gen + 1) ++ []) Bd
  rw [List.append_nil]; exact hB
 | g + 1, i, es, mc, hgi, hes => by
  apply jRedacted_c0_vc
  have hlen := hm.len
  have hi : i < m.fs.length := by omega
  have hw : IntKind.i64.wrap ((i : Int) + 1) = ((i + 1 : Nat) : Int) := by rw [wi64 (by omega)]; omega
  obtain ⟨c1, ⟨_, _, hn0⟩ | ⟨Q, cs, G0, rfl, k2, k3, k4⟩⟩ := hT
  ·rw [hn0] at hi; exact absurd hi (by simp)
  have hT : FRow noLk m.fs (SO Q) c T := ⟨c1, .inr ⟨Q, cs, G0, rfl, k2, k3, k4⟩⟩
  obtain ⟨j1, tp, tc, bp, bc, ap, ac, e, hf⟩ := k4 i hi
  refine yes (by omega) ⟨Q, 0, rfl, by omega, cs, m.fs[i], tp, tc, bp, bc, ap, ac, ⟨_, _, List.mem_cons_of_mem _ (List.mem_cons_of_mem _ (k2.mem_iff.2 List.mem_cons_self))⟩, ⟨by rw [Nat.zero_add, Int.toNat_natCast]; exact e, by rw [Int.toNat_natCast]; omega⟩, fun B3 => ⟨fun hk => ⟨hes.1, fun es1 mc1 q1 q2 => ?_⟩, fun hk => ?_⟩⟩
  ·rw [hw]
   exact map_loop hT hm hgen hS hg g (i + 1) es1 mc1 (by omega) (by rw [← take_snoc hi]; exact hes.put hk q1 q2)
  ·rw [hw]
   exact map_loop hT hm hgen hS hg g (i + 1) es mc (by omega) (by rw [← take_snoc hi]; exact hes.keep hk)
theorem redacted_e {JB D : Nat} {m : JM} {p : OA} {c : Nat} {T : SHeap} (hT : FRow noLk m.fs p c T) (hm : MOk m) (hgen : m.gen + 1 ≤ 4611686018427387903) :
  EffW TP 67 ⟨[pt JB 0]⟩ (jH JB D (m.js p c) :: T) (fun W => 0 ∉ (jH JB D (m.js p c) :: T).map (·.1) ∧ blkW W 0 = some tabV) (RedK JB D m p c) := by
 intro W hm0 ⟨hS, hg⟩
 refine jRedacted_vc JB m.gen p m.fs.length c (m.en : Int) D (m.sz : Int) (m.cu : Int) m.br T hm0 fun B => ?_
 exact map_loop hT hm hgen hS hg m.fs.length 0 #[] 0 (by omega) ⟨rfl, fun q => rfl⟩
inductive Surv : List (Nat × BA) → List UInt8 → List UInt8 → Prop
 | nil (b : List UInt8) : Surv [] b b
 | cons {o : Nat} {s : BA} {r : List (Nat × BA)} {b b' : List UInt8} (t : Nat) (h : Surv r (ovr b o ((bts s).take t)) b') : Surv ((o, s) :: r) b b'
def appl : List (Nat × BA) → List UInt8 → List UInt8
 | [], b => b
 | (o, s) :: r, b => appl r (ovr b o (bts s))
theorem appl_snoc (o : Nat) (s : BA) : ∀ (p : List (Nat × BA)) (b : List UInt8), appl (p ++ [(o, s)]) b = ovr (appl p b) o (bts s)
 | [], b => rfl
 | (o', s') :: r, b => appl_snoc o s r _
def DOp.fits (n : Nat) : DOp → Prop
 | .sync => True
 | .write off s => 0 ≤ off ∧ off + s.size ≤ n
def Img : List DOp → List UInt8 → List (Nat × BA) → List UInt8 → Prop
 | [], b, p, x => Surv p b x
 | .sync :: r, b, p, x => Surv p b x ∨ Img r (appl p b) [] x
 | .write o s :: r, b, p, x => Surv p b x ∨ Img r b (p ++ [(o.toNat, s)]) x
theorem Img.now {b x : List UInt8} {p : List (Nat × BA)} (h : Surv p b x) : ∀ ops, Img ops b p x
 | [] => h
 | .sync :: _ => .inl h
 | .write _ _ :: _ => .inl h
def endOps : List DOp → List UInt8 → List (Nat × BA) → List UInt8 × List (Nat × BA)
 | [], b, p => (b, p)
 | .sync :: r, b, p => endOps r (appl p b) []
 | .write o s :: r, b, p => endOps r b (p ++ [(o.toNat, s)])
structure Coh (d : DS) : Prop where
 ok : DOk d
 vis : d.vis = appl d.pend d.dur
theorem spend_vis (d : DS) : d.spend.vis = d.vis ∧ d.spend.dur = d.dur ∧ d.spend.pend = d.pend := by
 unfold DS.spend
 split
 ·exact ⟨rfl, rfl, rfl⟩
 ·split <;> exact ⟨rfl, rfl, rfl⟩
structure RunOut (ops : List DOp) (d : DS) (r : Int × DS) : Prop where
 err : r.1 = 0 ∨ r.1 = 231
 coh : Coh r.2
 len : r.2.vis.length = d.vis.length
 img : ∀ x, Surv r.2.pend r.2.dur x → Img ops d.dur d.pend x
 fin : r.1 = 0 → (r.2.dur, r.2.pend) = endOps ops d.dur d.pend
 pow : d.on = true → d.cut = 0 → r.1 = 0 ∧ r.2.on = true ∧ r.2.cut = 0
theorem runOps_out : ∀ (ops : List DOp) (d : DS), Coh d → (∀ o ∈ ops, o.fits d.vis.length) → RunOut ops d (runOps ops d)
 | [], d, hd, _ => ⟨.inl rfl, hd, rfl, fun x h => h, fun _ => rfl, fun h1 h2 => ⟨rfl, h1, h2⟩⟩
 | .sync :: r, d, hd, hf => by
  cases ho : d.on with
  | false =>
   have e : runOps (.sync :: r) d = (231, d) := by
    rw [runOps]
    have e : (DOp.sync.run d) = (231, d) := if_pos ho
    rw [e]; rfl
   rw [e]
   exact ⟨.inr rfl, hd, rfl, fun x h => Img.now h _, fun h => absurd h (show ¬ (231 : Int) = 0 by decide), fun h => absurd (ho.symm.trans h) (by decide)⟩
  | true =>
   have e : runOps (.sync :: r) d = runOps r { d with dur := d.vis, pend := [] } := by
    rw [runOps]
    have e : (DOp.sync.run d) = (0, { d with dur := d.vis, pend := [] }) := if_neg (by rw [ho]; decide)
    rw [e]; rfl
   rw [e]
   have hk : DOk { d with dur := d.vis, pend := [] } := ⟨rfl, hd.ok.pos, hd.ok.le, hd.ok.cut, fun p hp => by cases hp⟩
   have ih := runOps_out r { d with dur := d.vis, pend := [] } ⟨hk, rfl⟩ (fun o h => hf o (List.mem_cons_of_mem _ h))
   refine ⟨ih.err, ih.coh, ih.len, fun x h => .inr ?_, fun h => ?_, fun h1 h2 => ih.pow h1 h2⟩
   ·have := ih.img x h
    simp only at this
    rwa [hd.vis] at this
   ·show _ = endOps r (appl d.pend d.dur) []
    rw [← hd.vis]
    exact ih.fin h
 | .write off s :: r, d, hd, hf => by
  have hfit := hf _ List.mem_cons_self
  simp only [DOp.fits] at hfit
  cases ho : d.on with
  | false =>
   have e : runOps (.write off s :: r) d = (231, d) := by
    rw [runOps]
    have e : ((DOp.write off s).run d) = (231, d) := if_pos ho
    rw [e]; rfl
   rw [e]
   exact ⟨.inr rfl, hd, rfl, fun x h => Img.now h _, fun h => absurd h (show ¬ (231 : Int) = 0 by decide), fun h => absurd (ho.symm.trans h) (by decide)⟩
  | true =>
   have e : runOps (.write off s :: r) d = runOps r (d.put off.toNat s).spend := by
    rw [runOps]
    have e : ((DOp.write off s).run d) = (0, (d.put off.toNat s).spend) := (if_neg (by rw [ho]; decide)).trans (if_pos hfit)
    rw [e]; rfl
   rw [e]
   have hb : off.toNat + s.size ≤ d.vis.length := by omega
   have hl : (ovr d.vis off.toNat (bts s)).length = d.vis.length := ovr_len hb
   obtain ⟨v1, v2, v3⟩ := spend_vis (d.put off.toNat s)
   have hl' : (d.put off.toNat s).spend.vis.length = d.vis.length := by rw [v1]; exact hl
   have hc : Coh (d.put off.toNat s).spend := ⟨DOk.spend (DOk.put hd.ok hb), by
    rw [v1, v2, v3]
    show ovr d.vis off.toNat (bts s) = appl (d.pend ++ [(off.toNat, s)]) d.dur
    rw [appl_snoc, ← hd.vis]⟩
   have ih := runOps_out r (d.put off.toNat s).spend hc (fun o h => by rw [hl']; exact hf o (List.mem_cons_of_mem _ h))
   refine ⟨ih.err, ih.coh, by rw [ih.len, hl'], fun x h => .inr ?_, fun h => ?_, fun h1 h2 => ?_⟩
   ·have := ih.img x h
    rw [v2, v3] at this
    exact this
   ·have := ih.fin h
    rw [v2, v3] at this
    exact this
   ·have h3 : (d.put off.toNat s).spend = d.put off.toNat s := if_pos h2
    rw [h3] at ih ⊢
    exact ih.pow h1 h2
theorem runOps_append : ∀ (a b : List DOp) (d : DS), runOps (a ++ b) d = if (runOps a d).1 = 0 then runOps b (runOps a d).2 else runOps a d
 | [], b, d => rfl
 | o :: a, b, d => by
  rw [List.cons_append, runOps, runOps]
  by_cases h : (o.run d).1 = 0
  ·rw [if_pos h, if_pos h]; exact runOps_append a b _
  ·rw [if_neg h, if_neg h, if_neg h]
theorem runOps_on {a : List DOp} {d : DS} (h : (runOps (a ++ [.sync]) d).1 = 0) : (runOps (a ++ [.sync]) d).2.on = true := by
 rw [runOps_append] at h ⊢
 by_cases h0 : (runOps a d).1 = 0
 ·rw [if_pos h0] at h ⊢
  generalize (runOps a d).2 = d1 at h ⊢
  cases ho : d1.on with
  | false =>
   have e : runOps [.sync] d1 = (231, d1) := by
    rw [runOps]
    have e : (DOp.sync.run d1) = (231, d1) := if_pos ho
    rw [e]; rfl
   rw [e] at h
   exact absurd h (show ¬ (231 : Int) = 0 by decide)
  | true =>
   have e : runOps [.sync] d1 = (0, { d1 with dur := d1.vis, pend := [] }) := by
    rw [runOps]
    have e : (DOp.sync.run d1) = (0, { d1 with dur := d1.vis, pend := [] }) := if_neg (by rw [ho]; decide)
    rw [e]; rfl
   rw [e]; exact ho
 ·rw [if_neg h0] at h; exact absurd h h0
def lay (c : Nat) (X Y R : List UInt8) : List UInt8 := if c = 0 then X ++ Y ++ R else Y ++ X ++ R
theorem lay_len (c : Nat) (X Y R : List UInt8) : (lay c X Y R).length = X.length + Y.length + R.length := by
 unfold lay; split <;> simp <;> omega
theorem ovr_mid {A B C s : List UInt8} {o : Nat} (h : o + s.length ≤ B.length) : ovr (A ++ (B ++ C)) (A.length + o) s = A ++ (ovr B o s ++ C) := by
 unfold ovr
 have e1 : (A ++ (B ++ C)).take (A.length + o) = A ++ B.take o := by
  rw [List.take_append, List.take_of_length_le (by omega), show A.length + o - A.length = o by omega, List.take_append_of_le_length (by omega)]
 have e2 : (A ++ (B ++ C)).drop (A.length + o + s.length) = B.drop (o + s.length) ++ C := by
  rw [List.drop_append, List.drop_of_length_le (by omega), List.nil_append, show A.length + o + s.length - A.length = o + s.length by omega, List.drop_append_of_le_length (by omega)]
 rw [e1, e2]; simp
theorem lay_cur {c sz o : Nat} {X Y R s : List UInt8} (hc : c ≤ 1) (hx : X.length = sz) (hy : Y.length = sz) (h : o + s.length ≤ sz) : ovr (lay c X Y R) (c * sz + o) s = lay c (ovr X o s) Y R := by
 unfold lay
 split
 ·next h0 =>
  subst h0
  have := ovr_mid (A := []) (B := X) (C := Y ++ R) (s := s) (o := o) (by omega)
  simp only [List.nil_append, List.length_nil, Nat.zero_add] at this
  rw [Nat.zero_mul, Nat.zero_add, List.append_assoc, this, List.append_assoc]
 ·next h0 =>
  have : c = 1 := by omega
  subst this
  rw [Nat.one_mul, List.append_assoc, ← hy, ovr_mid (by omega), List.append_assoc]
theorem lay_oth {c sz o : Nat} {X Y R s : List UInt8} (hc : c ≤ 1) (hx : X.length = sz) (hy : Y.length = sz) (h : o + s.length ≤ sz) : ovr (lay c X Y R) ((1 - c) * sz + o) s = lay c X (ovr Y o s) R := by
 unfold lay
 split
 ·next h0 =>
  subst h0
  rw [Nat.sub_zero, Nat.one_mul, List.append_assoc, ← hx, ovr_mid (by omega), List.append_assoc]
 ·next h0 =>
  have : c = 1 := by omega
  subst this
  have := ovr_mid (A := []) (B := Y) (C := X ++ R) (s := s) (o := o) (by omega)
  simp only [List.nil_append, List.length_nil, Nat.zero_add] at this
  rw [show (1 - 1) * sz + o = o by simp, List.append_assoc, this, List.append_assoc]
theorem lay_swap {c : Nat} {X Y R : List UInt8} (hc : c ≤ 1) : lay c X Y R = lay (1 - c) Y X R := by
 unfold lay
 rcases (by omega : c = 0 ∨ c = 1) with rfl | rfl <;> simp
def Ends (t : List UInt8) : Prop := t = [] ∨ ∃ r, t = 0 :: r
def zs (n : Nat) : List UInt8 := List.replicate n 0
theorem zs_ends (n : Nat) : Ends (zs n) := by
 cases n with
 | zero => exact .inl rfl
 | succ n => exact .inr ⟨zs n, List.replicate_succ⟩
theorem zs_len (n : Nat) : (zs n).length = n := List.length_replicate
theorem zs_take (n t : Nat) : (zs n).take t = zs (min t n) := List.take_replicate
theorem zs_drop (n t : Nat) : (zs n).drop t = zs (n - t) := List.drop_replicate
theorem zs_append (a b : Nat) : zs a ++ zs b = zs (a + b) := List.replicate_append_replicate
theorem ovr_zero_ends {Y : List UInt8} {k : Nat} (h : k ≤ Y.length) (hk : 0 < k) : Ends (ovr Y 0 (zs k)) := by
 obtain ⟨k, rfl⟩ : ∃ m, k = m + 1 := ⟨k - 1, by omega⟩
 refine .inr ⟨zs k ++ Y.drop (0 + (zs (k + 1)).length), ?_⟩
 unfold ovr
 rw [List.take_zero, List.nil_append]
 rfl
theorem ovr_zero_full {Y : List UInt8} {k : Nat} (h : Y.length = k) : ovr Y 0 (zs k) = zs k := by
 unfold ovr
 rw [List.take_zero, List.nil_append, Nat.zero_add, zs_len, List.drop_of_length_le (by omega), List.append_nil]
theorem ovr_rest {A t : List UInt8} {k : Nat} (h : k ≤ t.length) (ht : Ends t) : ∃ t', ovr (A ++ t) A.length (zs k) = A ++ t' ∧ Ends t' ∧ t'.length = t.length := by
 have e : ovr (A ++ t) A.length (zs k) = A ++ ovr t 0 (zs k) := by
  have := ovr_mid (A := A) (B := t) (C := []) (s := zs k) (o := 0) (by rw [zs_len]; omega)
  simpa using this
 refine ⟨ovr t 0 (zs k), e, ?_, by rw [ovr_len (by rw [zs_len]; omega)]⟩
 rcases Nat.eq_zero_or_pos k with rfl | hk
 ·show Ends (ovr t 0 [])
  rw [ovr_nil]; exact ht
 ·exact ovr_zero_ends h hk
set_option maxRecDepth 100000
abbrev jCheckH0 (JB : Nat) (gen : Int) (fp : OA) (fl fc : Nat) (en : Int) (D : Nat) (sz cu : Int) (br : Bool) (F1 : SHeap) : SHeap := ((JB, .cells #[IV gen, .slice fp fl fc, IV en, PP D, IV sz, IV cu, .bool br] 86) :: F1)
abbrev jCheckH1 (B kj ko ks D kj1 ko1 ks1 kj2 ko2 ks2 JB : Nat) (gen : Int) (fp : OA) (fl fc : Nat) (en sz cu : Int) (br : Bool) (F4 : SHeap) : SHeap := ((B, .cells #[.func (.func 110) #[] #[PP kj, PP ko, PP ks], .func (.func 68) #[PP D] #[], .func (.func 110) #[] #[PP kj1, PP ko1, PP ks1], .func (.func 68) #[PP D] #[], .func (.func 110) #[] #[PP kj2, PP ko2, PP ks2], .func (.func 68) #[PP D] #[]] 53) :: (JB, .cells #[IV gen, .slice fp fl fc, IV en, PP D, IV sz, IV cu, .bool br] 86) :: F4)
abbrev jCheckH2 (JB : Nat) (gen : Int) (fp : OA) (fl fc : Nat) (en : Int) (D : Nat) (sz cu : Int) (br : Bool) (F3 : SHeap) : SHeap := ((JB, .cells #[IV gen, .slice fp fl fc, IV en, PP D, IV sz, IV cu, .bool br] 86) :: F3)
abbrev jCheckA0 (gen : Int) (fp : OA) (fl fc : Nat) (en : Int) (D : Nat) (sz cu : Int) (br : Bool) : Array Value := #[IV gen, .slice fp fl fc, IV en, PP D, IV sz, IV cu, .bool br]
theorem jCheck_vc (JB : Nat) (gen : Int) (fp : OA) (fl fc : Nat) (en : Int) (D : Nat) (sz cu : Int) (br : Bool) (F : SHeap) (hm : Mem ((JB, .cells (jCheckA0 gen fp fl fc en D sz cu br) 86) :: F) S w0 W)
 (H :
 Bb (br)
 (Fin R ((JB, .cells (jCheckA0 gen fp fl fc en D sz cu br) 86) :: F) S w0 (IV 240))
 (Br ((4611686018427387903 : Int) ≤ gen)
 (Fin R ((JB, .cells (jCheckA0 gen fp fl fc en D sz cu br) 86) :: F) S w0 (IV 241))
 (CallH TP 67 ⟨[PP JB]⟩ ((JB, .cells (jCheckA0 gen fp fl fc en D sz cu br) 86) :: F) S w0 (fun v L' => ∃ content, ∃ (rp : OA) (rl : Nat) (rc : Nat), ∃ F1, v = (.tuple #[.string content, .slice rp rl rc]) ∧ L' = (jCheckH0 JB gen fp fl fc en D sz cu br F1) ∧
 Br (sz < (content.size : Int))
 (Fin R (jCheckH0 JB gen fp fl fc en D sz cu br F1) S w0 (IV 241))
 (∀ other : Int, other = (IntKind.i64.wrap ((1 : Int) - cu)) →
 ∃ (r31 : Int), (QCall TP 44 ⟨[PP JB, IV other]⟩ (jCheckH0 JB gen fp fl fc en D sz cu br F1) S w0 (IV r31)) ∧
 (0 ≤ (1 : Int) ∧ (1 : Int) ≤ (content.size : Int) ∧ (content.size : Int) ≤ content.size) ∧
 (0 ≤ (0 : Int) ∧ (0 : Int) ≤ (1 : Int) ∧ (1 : Int) ≤ content.size) ∧
 CallH TP 69 ⟨[PP JB, IV (IntKind.i64.wrap (r31 + (1 : Int))), .string (content.extract (Int.toNat (1 : Int)) content.size)]⟩ (jCheckH0 JB gen fp fl fc en D sz cu br F1) S w0 (fun v L' => ∃ (kj : Nat) (ko : Nat) (ks : Nat), ∃ F2, v = (.func (.func 110) #[] #[PP kj, PP ko, PP ks]) ∧ L' = ((JB, .cells (jCheckA0 gen fp fl fc en D sz cu br) 86) :: F2) ∧
 CallH TP 69 ⟨[PP JB, IV r31, .string (content.extract 0 (Int.toNat (1 : Int)))]⟩ ((JB, .cells (jCheckA0 gen fp fl fc en D sz cu br) 86) :: F2) S w0 (fun v L' => ∃ (kj1 : Nat) (ko1 : Nat) (ks1 : Nat), ∃ F3, v = (.func (.func 110) #[] #[PP kj1, PP ko1, PP ks1]) ∧ L' = (jCheckH2 JB gen fp fl fc en D sz cu br F3) ∧
 CallH TP 44 ⟨[PP JB, IV cu]⟩ (jCheckH2 JB gen fp fl fc en D sz cu br F3) S w0 (fun v L' => ∃ r61, v = IV r61 ∧ L' = (jCheckH2 JB gen fp fl fc en D sz cu br F3) ∧
 CallH TP 70 ⟨[IV sz]⟩ (jCheckH2 JB gen fp fl fc en D sz cu br F3) S w0 (fun v L' => ∃ r71, v = .string r71 ∧ L' = (jCheckH2 JB gen fp fl fc en D sz cu br F3) ∧
 CallH TP 69 ⟨[PP JB, IV r61, .string r71]⟩ (jCheckH2 JB gen fp fl fc en D sz cu br F3) S w0 (fun v L' => ∃ (kj2 : Nat) (ko2 : Nat) (ks2 : Nat), ∃ F4, v = (.func (.func 110) #[] #[PP kj2, PP ko2, PP ks2]) ∧ L' = ((JB, .cells (jCheckA0 gen fp fl fc en D sz cu br) 86) :: F4) ∧
 ∀ B : Nat,
 CallH TP 50 ⟨[PP JB, .slice (SO B) 6 6]⟩ (jCheckH1 B kj ko ks D kj1 ko1 ks1 kj2 ko2 ks2 JB gen fp fl fc en sz cu br F4) S w0 (fun v L' => ∃ F5 re, ∃ (br1 : Bool), v = IV re ∧ L' = ((JB, .cells #[IV gen, .slice fp fl fc, IV en, PP D, IV sz, IV cu, .bool br1] 86) :: F5) ∧
 Bn (re = 0)
 (Fin R ((JB, .cells #[IV gen, .slice fp fl fc, IV en, PP D, IV sz, IV cu, .bool br1] 86) :: F5) S w0 (IV re))
 (Fin R ((JB, .cells #[IV (IntKind.i64.wrap (gen + (1 : Int))), .slice rp rl rc, IV (content.size : Int), PP D, IV sz, IV other, .bool br1] 86) :: F5) S w0 (IV 0))))))))))))) :
 Calls TP 25 ⟨[PP JB]⟩ W R:= by
 refine AtE.cs 103 Tryz.func25 hm (.ru 13 (.ld 0 3 (.ru 11 (.ld 0 6 (.ru 1 (.sB 21 H (fun H => ?_) fun H => ?_))))))
 ·refine .ru 5 (.rt Tryz.func25 H)
 ·refine .ru 9 (.ld 0 0 (.ru 2 (.sP 27 H (fun H => ?_) fun H => ?_)))
  ·refine .ru 5 (.rt Tryz.func25 H)
  ·refine .ru 5 (.cl H ?_)
   rintro _ _ ⟨content, rp, rl, rc, F1, rfl, rfl, H⟩
   refine .ru 14 (.ld 0 4 (.ru 2 (.sP 39 H (fun H => ?_) fun H => ?_)))
   ·refine .ru 5 (.rt Tryz.func25 H)
   ·refine .ru 7 (.ld 0 5 (.ru 2 (.lI 5 H fun other H => (.ru 2 (.nm (KC Tryz.f25 510) [(0, PP JB), (3, .string content), (4, .slice rp rl rc), (5, IV other)] (jCheckH0 JB gen fp fl fc en D sz cu br F1) (.dr 10 (.pu (.pu ?_))))))))
    obtain ⟨r31, hq, H⟩ := H
    refine .cl hq (.pu (.pu (.pu (.ld 0 3 (.pu (.pu (.pu (.dn (.ru 2 (.nm (KC Tryz.f25 1022) [(0, PP JB), (3, .string content), (4, .slice rp rl rc), (5, IV other), (6, IV r31), (7, .func (.func 68) #[PP D] #[])] (jCheckH0 JB gen fp fl fc en D sz cu br F1) (.dD (.ph 29 [0,1,2,3,4,5,7,8,9,10,11,13,14,15,16,17,18,19,21,22,23,24,27] [6,12,20,25,26,28] [(JB, .cells (jCheckA0 gen fp fl fc en D sz cu br) 86)] (.pu (.pu (.pu (.pu (.pu (.sliceS (s := content) (lo := some (IV 1)) (hi := none) (a := (1 : Int)) (b := (content.size : Int)) (by kernel_rfl) (.inl ⟨.i64, rfl⟩) (.inr ⟨rfl, rfl⟩) H.1 ?_))))))))))))))))))
    replace H := H.2
    refine .pu (.pu (.pu (.pu (.sliceS (s := content) (lo := none) (hi := some (IV 1)) (a := (0 : Int)) (b := (1 : Int)) (by kernel_rfl) (.inr ⟨rfl, rfl⟩) (.inl ⟨.i64, rfl⟩) H.1 ?_))))
    replace H := H.2
    refine .pu (.pu (.pu (.pu (.pu (.pu (.ld 0 5 (.pu (.pu (.pu (.ld 0 4 (.pu (.dn (.cl H ?_)))))))))))))
    rintro _ _ ⟨kj, ko, ks, F2, rfl, rfl, H⟩
    refine .cl H ?_
    rintro _ _ ⟨kj1, ko1, ks1, F3, rfl, rfl, H⟩
    refine .cl H ?_
    rintro _ _ ⟨r61, rfl, rfl, H⟩
    refine .cl H ?_
    rintro _ _ ⟨r71, rfl, rfl, H⟩
    refine .cl H ?_
    rintro _ _ ⟨kj2, ko2, ks2, F4, rfl, rfl, H⟩
    refine .new _ (fun B => .slice (SO B) 6 6) (.cells #[.func (.func 110) #[] #[PP kj, PP ko, PP ks], .func (.func 68) #[PP D] #[], .func (.func 110) #[] #[PP kj1, PP ko1, PP ks1], .func (.func 68) #[PP D] #[], .func (.func 110) #[] #[PP kj2, PP ko2, PP ks2], .func (.func 68) #[PP D] #[]] 53) rfl (fun W => by kernel_rfl) (by kernel_rfl) (fun B => ?_)
    replace H := H B
    refine .dn (.front (.nm [(0, PP JB), (3, .string content), (4, .slice rp rl rc), (5, IV other), (53, PP JB), (81, .slice (SO B) 6 6)] (jCheckH1 B kj ko ks D kj1 ko1 ks1 kj2 ko2 ks2 JB gen fp fl fc en sz cu br F4) (.tl (.cl H ?_))))
    rintro _ _ ⟨F5, re, br1, rfl, rfl, H⟩
    refine .ru 8 (.sN 84 H (fun H => ?_) fun H => ?_)
    ·refine .ru 6 (.rt Tryz.func25 H)
    ·refine .ru 8 (.st 0 5 (.ru 8 (.ld 0 0 (.ru 7 (.st 0 0 (.ru 5 (.rt Tryz.func25 H)))))))
def checkOps (m : JM) : List DOp :=
 [.write (((1 - m.cu) * m.sz : Nat) + 1 : Int) (cutTail (ba (cont (m.gen + 1) (redJ m.fs)))), .sync, .write (((1 - m.cu) * m.sz : Nat) : Int) (cutHead (ba (cont (m.gen + 1) (redJ m.fs)))), .sync, .write ((m.cu * m.sz : Nat) : Int) (ba (zs m.sz)), .sync]
def checkM (m : JM) (d : DS) : Int × JM × DS :=
 if m.br = true then (240, m, d) else if 4611686018427387903 ≤ m.gen then (241, m, d)
 else if m.sz < (cont (m.gen + 1) (redJ m.fs)).length then (241, m, d)
 else if (runOps (checkOps m) d).1 = 0 then (0, { gen := m.gen + 1, fs := redJ m.fs, en := (cont (m.gen + 1) (redJ m.fs)).length, sz := m.sz, cu := 1 - m.cu, br := m.br }, (runOps (checkOps m) d).2)
 else ((runOps (checkOps m) d).1, { m with br := true }, (runOps (checkOps m) d).2)
section perms
variable (x y z : Nat × Obj) (A F T X Z X1 X2 X3 L : SHeap)
theorem pc1 : ((x :: T) ++ F).Perm (x :: (F ++ T)) := perm_a
theorem pc2 (h : L.Perm (x :: T)) : (L ++ F).Perm (x :: (F ++ T)) := perm_of fun c w h1 h2 h3 h4 => by
 have := h4 _ _ h
 simp only [h1, h2, h3] at this ⊢; omega
theorem pc3 : ((x :: X) ++ A).Perm (x :: (X ++ A)) := List.Perm.refl _
theorem pc4 : ((x :: (F ++ (z :: (X3 ++ (X2 ++ X1))))) ++ T).Perm (z :: x :: (X3 ++ (X2 ++ (X1 ++ (F ++ T))))) := perm_a
theorem pc5 : ((x :: (F ++ X)) ++ T).Perm (x :: (F ++ (X ++ T))) := perm_a
end perms
theorem redJ_len (l : List Fct) : (redJ l).length = l.length := List.length_map _
theorem check_e {JB D : Nat} {m : JM} {d : DS} {L : SHeap} (h : JD JB D m d L) (hm : MOk m) (hp : d.pend.length < 900000) :
  EffW TP 25 ⟨[pt JB 0]⟩ L (APre noLk (L.map (·.1))) (fun v L' => v = .int .i64 (checkM m d).1 ∧ JD JB D (checkM m d).2.1 (checkM m d).2.2 L') := by
 obtain ⟨F, p, c, T, hL, hd, hT⟩ := h
 intro W hm0 ⟨⟨hS, hg⟩, _⟩
 generalize L.map (·.1) = S at *
 have hm1 := hm0.perm hL.symm
 have hen := hm.en; have hsz := hm.sz; have hcu := hm.cu; have hlen := hm.len; have hge := hm.gen
 refine jCheck_vc JB m.gen p m.fs.length c (m.en : Int) D (m.sz : Int) (m.cu : Int) m.br (F ++ T) hm1 ⟨fun hbr => ?_, fun hbr => ⟨fun hgn => ?_, fun hgn => ?_⟩⟩
 ·rw [checkM, if_pos hbr]; exact dkFin ⟨rfl, F, p, c, T, List.Perm.refl _, hd, hT⟩
 ·rw [checkM, if_neg (by rw [hbr]; decide), if_pos hgn]; exact dkFin ⟨rfl, F, p, c, T, List.Perm.refl _, hd, hT⟩
 ·have hM : checkM m d = if m.sz < (cont (m.gen + 1) (redJ m.fs)).length then (241, m, d)
   else if (runOps (checkOps m) d).1 = 0 then (0, { gen := m.gen + 1, fs := redJ m.fs, en := (cont (m.gen + 1) (redJ m.fs)).length, sz := m.sz, cu := 1 - m.cu, br := m.br }, (runOps (checkOps m) d).2)
   else ((runOps (checkOps m) d).1, { m with br := true }, (runOps (checkOps m) d).2) := by
    rw [checkM, if_neg (by rw [hbr]; decide), if_neg hgn]
  refine CallH.effW (L0 := jH JB D (m.js p c) :: T) (L1 := F) (redacted_e hT hm (by omega)) (fun W' hm' => ⟨fun h0 => ?_, blkW_kept hm'.kept hS hg⟩) (pc1 _ _ _) ?_
  ·have hlt : 0 < W.heap.size := by
    have := hg
    unfold blkW at this
    rcases Nat.lt_or_ge 0 W.heap.size with h | h
    ·exact h
    ·rw [Array.getElem?_eq_none h] at this; cases this
   obtain ⟨q, hq, hq0⟩ := List.mem_map.1 h0
   rcases hm'.own q (by rcases List.mem_cons.1 hq with rfl | hq; exact List.mem_cons_self; exact List.mem_cons_of_mem _ (List.mem_append_right _ hq)) with h | h
   ·rw [hq0] at h; omega
   ·rw [hq0] at h; exact hS h
  rintro _ L2 ⟨p', c', T', rfl, hp2, hr, hT'⟩
  refine ⟨_, pc2 _ _ _ _ hp2, ba (cont (m.gen + 1) (redJ m.fs)), p', m.fs.length, c', _, rfl, rfl, fun hbig => ?_, fun hbig => ?_⟩
  ·rw [ba_size] at hbig
   rw [hM, if_pos (by omega)]; exact dkFin ⟨rfl, F, p, c, T', List.Perm.refl _, hd, hT'⟩
  ·rw [ba_size] at hbig
   have hcpos : 1 ≤ (cont (m.gen + 1) (redJ m.fs)).length := by
    show 1 ≤ (frm _ ++ _).length
    rw [frm]; simp
   have hcut : m.cu = 0 ∨ m.cu = 1 := by omega
   intro other ho
   have ho : other = ((1 - m.cu : Nat) : Int) := by
    rw [ho, wi64 (by omega)]; omega
   subst ho
   have hss : (1 - m.cu) * m.sz ≤ 1 * 2097152 := Nat.mul_le_mul (by omega) hsz
   have inJ : ∀ {A : SHeap} {W' : World}, Mem (jH JB D (m.js p c) :: A) S W W' → W'.heap[JB]? = some (jH JB D (m.js p c)).2 := fun hm' => hm'.here _ List.mem_cons_self
   refine ⟨(((1 - m.cu) * m.sz : Nat) : Int), QCall.pw fun W' hm' => start_pw (m := m) (inJ hm') (by omega) (by omega), by rw [ba_size]; omega, by rw [ba_size]; omega, ?_⟩
   have ew : IntKind.i64.wrap ((((1 - m.cu) * m.sz : Nat) : Int) + 1) = (((1 - m.cu) * m.sz : Nat) : Int) + 1 := wi64 (by omega)
   rw [ew]
   refine CallH.eff (L0 := [jH JB D (m.js p c)]) (L1 := F ++ T') (jwrite_e (j := m.js p c) (D := D)) (List.Perm.refl _) ?_
   rintro _ _ ⟨kj, ko, ks, rfl, rfl⟩
   refine ⟨_, pc3 _ _ _, kj, ko, ks, _, rfl, rfl, ?_⟩
   refine CallH.eff (L0 := [jH JB D (m.js p c)]) (L1 := jcloX JB kj ko ks _ _ ++ (F ++ T')) (jwrite_e (j := m.js p c) (D := D)) (List.Perm.refl _) ?_
   rintro _ _ ⟨kj1, ko1, ks1, rfl, rfl⟩
   refine ⟨_, pc3 _ _ _, kj1, ko1, ks1, _, rfl, rfl, ?_⟩
   refine CallH.pw (fun W' hm' => start_pw (m := m) (inJ hm') hcu (by omega)) ⟨_, rfl, rfl, ?_⟩
   refine CallH.pure (zeros_c m.sz (by omega)) ⟨_, rfl, rfl, ?_⟩
   refine CallH.eff (L0 := [jH JB D (m.js p c)]) (L1 := jcloX JB kj1 ko1 ks1 _ _ ++ (jcloX JB kj ko ks _ _ ++ (F ++ T'))) (jwrite_e (j := m.js p c) (D := D)) (List.Perm.refl _) ?_
   rintro _ _ ⟨kj2, ko2, ks2, rfl, rfl⟩
   refine ⟨_, pc3 _ _ _, kj2, ko2, ks2, _, rfl, rfl, fun B => ?_⟩
   refine CallH.eff (L0 := jH JB D (m.js p c) :: (F ++ ((B, .cells #[jcloV kj ko ks, .func (.func 68) ⟨[pt D 0]⟩ ⟨[]⟩, jcloV kj1 ko1 ks1, .func (.func 68) ⟨[pt D 0]⟩ ⟨[]⟩, jcloV kj2 ko2 ks2, .func (.func 68) ⟨[pt D 0]⟩ ⟨[]⟩] 53) :: (jcloX JB kj2 ko2 ks2 _ _ ++ (jcloX JB kj1 ko1 ks1 _ _ ++ jcloX JB kj ko ks _ _))))) (L1 := T')
    (run_e (ops := checkOps m) (sc := 6) (j := m.js p c) (vs := [jcloV kj ko ks, .func (.func 68) ⟨[pt D 0]⟩ ⟨[]⟩, jcloV kj1 ko1 ks1, .func (.func 68) ⟨[pt D 0]⟩ ⟨[]⟩, jcloV kj2 ko2 ks2, .func (.func 68) ⟨[pt D 0]⟩ ⟨[]⟩]) List.mem_cons_self (Nat.le_refl 6) ?_ (by show 6 ≤ 1000; omega) hd hp) (pc4 _ _ _ _ _ _ _) ?_
   ·intro i hi
    match i, hi with
    | 0, _ => exact jclo_at fun x hx => List.mem_cons_of_mem _ (List.mem_append_right _ (List.mem_append_right _ hx))
    | 1, _ => exact rfl
    | 2, _ => exact jclo_at fun x hx => List.mem_cons_of_mem _ (List.mem_append_right _ (List.mem_append_left _ hx))
    | 3, _ => exact rfl
    | 4, _ => exact jclo_at fun x hx => List.mem_cons_of_mem _ (List.mem_append_left _ hx)
    | 5, _ => exact rfl
   ·rintro _ _ ⟨F', rfl, rfl, hd'⟩
    rw [if_neg (by omega)] at hM
    generalize runOps (checkOps m) d = r at *
    have ha : jH JB D ((m.js p c).after r.1) = (JB, .cells #[.int .i64 m.gen, .slice p m.fs.length c, .int .i64 m.en, .pointer (SO D), .int .i64 m.sz, .int .i64 m.cu, .bool ((m.js p c).after r.1).br] 86) := by
     unfold JS.after; split <;> rfl
    rw [ha]
    refine ⟨_, pc5 _ _ _ _, _, r.1, ((m.js p c).after r.1).br, rfl, rfl, fun hne => ?_, fun he => ?_⟩
    ·rw [hM, if_neg hne]
     have hb : ((m.js p c).after r.1).br = true := by rw [JS.after, if_neg hne]
     rw [hb]
     exact dkFin ⟨rfl, F', p, c, _, List.Perm.refl _, hd', hT'.more _⟩
    ·rw [hM, if_pos he]
     have hb : ((m.js p c).after r.1).br = m.br := by rw [JS.after, if_pos he]
     have eg : IntKind.i64.wrap (m.gen + 1) = m.gen + 1 := wi64 (by omega)
     rw [hb, eg, ba_size]
     exact dkFin ⟨rfl, F', p', c', _, by rw [JM.js, redJ_len], hd', hr.more _⟩
set_option maxRecDepth 100000
abbrev jClean0H0 (B3 : Nat) (gen : Int) (fp : OA) (fl fc : Nat) (en : Int) (m3_b : Nat) (sz : Int) (m6 : Bool) (B4 : Nat) (m0 m1 : BA) (B5 : Nat) (F1 : SHeap) : SHeap := ((B3, .cells #[IV gen, .slice fp fl fc, IV en, PP m3_b, IV sz, IV 0, .bool m6] 86) :: (B4, .cells #[.string m0, .string m1] 87) :: (B5, .cells #[IV en, IV 0] 139) :: F1)
abbrev jClean0H1 (B6 : Nat) (gen : Int) (fp : OA) (fl fc : Nat) (en : Int) (m3_b1 : Nat) (sz : Int) (m61 : Bool) (B7 : Nat) (m01 m11 : BA) (B8 : Nat) (F2 : SHeap) : SHeap := ((B6, .cells #[IV gen, .slice fp fl fc, IV en, PP m3_b1, IV sz, IV 0, .bool m61] 86) :: (B7, .cells #[.string m01, .string m11] 87) :: (B8, .cells #[IV en, IV 0] 139) :: F2)
abbrev jClean0H2 (B10 : Nat) (gen : Int) (fp : OA) (fl fc : Nat) (en : Int) (m3_b2 : Nat) (sz : Int) (m62 : Bool) (B11 : Nat) (m02 m12 : BA) (B12 : Nat) (F5 : SHeap) : SHeap := ((B10, .cells #[IV gen, .slice fp fl fc, IV en, PP m3_b2, IV sz, IV 0, .bool m62] 86) :: (B11, .cells #[.string m02, .string m12] 87) :: (B12, .cells #[IV en, IV 0] 139) :: F5)
abbrev jClean0H3 (B14 : Nat) (gen : Int) (fp : OA) (fl fc : Nat) (en : Int) (m3_b3 : Nat) (sz : Int) (m63 : Bool) (B15 : Nat) (m03 m13 : BA) (B16 : Nat) (F8 : SHeap) : SHeap := ((B14, .cells #[IV gen, .slice fp fl fc, IV en, PP m3_b3, IV sz, IV 0, .bool m63] 86) :: (B15, .cells #[.string m03, .string m13] 87) :: (B16, .cells #[IV en, IV 0] 139) :: F8)
abbrev jClean0H4 (B3 : Nat) (gen : Int) (fp : OA) (fl fc : Nat) (en : Int) (m3_b : Nat) (sz : Int) (m6 : Bool) (B4 : Nat) (m0 m1 : BA) (B5 : Nat) : SHeap := [(B3, .cells #[IV gen, .slice fp fl fc, IV en, PP m3_b, IV sz, IV 0, .bool m6] 86), (B4, .cells #[.string m0, .string m1] 87), (B5, .cells #[IV en, IV 0] 139)]
abbrev jClean0H5 (B6 : Nat) (gen : Int) (fp : OA) (fl fc : Nat) (en : Int) (m3_b1 : Nat) (sz : Int) (m61 : Bool) (B7 : Nat) (m01 m11 : BA) (B8 : Nat) : SHeap := [(B6, .cells #[IV gen, .slice fp fl fc, IV en, PP m3_b1, IV sz, IV 0, .bool m61] 86), (B7, .cells #[.string m01, .string m11] 87), (B8, .cells #[IV en, IV 0] 139)]
abbrev jClean0H6 (B10 : Nat) (gen : Int) (fp : OA) (fl fc : Nat) (en : Int) (m3_b2 : Nat) (sz : Int) (m62 : Bool) (B11 : Nat) (m02 m12 : BA) (B12 : Nat) : SHeap := [(B10, .cells #[IV gen, .slice fp fl fc, IV en, PP m3_b2, IV sz, IV 0, .bool m62] 86), (B11, .cells #[.string m02, .string m12] 87), (B12, .cells #[IV en, IV 0] 139)]
abbrev jClean0H7 (B14 : Nat) (gen : Int) (fp : OA) (fl fc : Nat) (en : Int) (m3_b3 : Nat) (sz : Int) (m63 : Bool) (B15 : Nat) (m03 m13 : BA) (B16 : Nat) : SHeap := [(B14, .cells #[IV gen, .slice fp fl fc, IV en, PP m3_b3, IV sz, IV 0, .bool m63] 86), (B15, .cells #[.string m03, .string m13] 87), (B16, .cells #[IV en, IV 0] 139)]
abbrev jClean0A0 (gen : Int) (fp : OA) (fl fc : Nat) (en : Int) (m3_b2 : Nat) (sz : Int) (m62 : Bool) : Array Value := #[IV gen, .slice fp fl fc, IV en, PP m3_b2, IV sz, IV 0, .bool m62]
abbrev jClean0A1 (gen : Int) (fp : OA) (fl fc : Nat) (en : Int) (m3_b3 : Nat) (sz : Int) (m63 : Bool) : Array Value := #[IV gen, .slice fp fl fc, IV en, PP m3_b3, IV sz, IV 0, .bool m63]
abbrev jClean0A2 (gen : Int) (fp : OA) (fl fc : Nat) (en : Int) (D : Nat) (sz : Int) (br : Bool) : Array Value := #[IV gen, .slice fp fl fc, IV en, PP D, IV sz, IV 0, .bool br]
abbrev jClean0A3 (kj ko ks : Nat) : Array Value := #[PP kj, PP ko, PP ks]
abbrev jClean0A4 (kj1 ko1 ks1 : Nat) : Array Value := #[PP kj1, PP ko1, PP ks1]
abbrev jClean0A5 (kj2 ko2 ks2 : Nat) : Array Value := #[PP kj2, PP ko2, PP ks2]
abbrev jClean0A6 (kj3 ko3 ks3 : Nat) : Array Value := #[PP kj3, PP ko3, PP ks3]
abbrev jClean0A7 (gen : Int) (fp : OA) (fl fc : Nat) (en : Int) (m3_b : Nat) (sz : Int) (m6 : Bool) : Array Value := #[IV gen, .slice fp fl fc, IV en, PP m3_b, IV sz, IV 0, .bool m6]
abbrev jClean0A8 (gen : Int) (fp : OA) (fl fc : Nat) (en : Int) (m3_b1 : Nat) (sz : Int) (m61 : Bool) : Array Value := #[IV gen, .slice fp fl fc, IV en, PP m3_b1, IV sz, IV 0, .bool m61]
def jClean0_c0 (JB : Nat) (gen : Int) (fp : OA) (fl fc : Nat) (en : Int) (D : Nat) (sz : Int) (br : Bool) (B3 B4 B5 : Nat) (steps_p : OA) (steps_l steps_c : Nat) (restv1 : BA) (t51 t52 : Int) (m3_b : Nat) (m6 : Bool) (m0 m1 : BA) (F1 : SHeap) (S : List Nat) (w0 : World) (R : Ending → World → Prop) : Prop :=
 AtE TP 46 88 (KC Tryz.f46 3664284) [(0, PP B3), (3, PP B4), (5, PP B5), (7, .slice steps_p steps_l steps_c), (9, IV 0), (10, .string restv1), (39, .agg #[IV 0, IV 1]), (40, IV 0), (51, IV t51), (52, IV t52)] (jClean0H0 B3 gen fp fl fc en m3_b sz m6 B4 m0 m1 B5 F1) S w0 (nrm R)
def jClean0_c1 (JB : Nat) (gen : Int) (fp : OA) (fl fc : Nat) (en : Int) (D : Nat) (sz : Int) (br : Bool) (B6 B7 B8 : Nat) (steps1_p : OA) (steps1_l steps1_c : Nat) (restv3 : BA) (t511 t521 : Int) (m3_b1 : Nat) (m61 : Bool) (m01 m11 : BA) (F2 : SHeap) (S : List Nat) (w0 : World) (R : Ending → World → Prop) : Prop :=
 AtE TP 46 88 (KC Tryz.f46 3664284) [(0, PP B6), (3, PP B7), (5, PP B8), (7, .slice steps1_p steps1_l steps1_c), (9, IV 1), (10, .string restv3), (39, .agg #[IV 1, IV 0]), (40, IV 0), (51, IV t511), (52, IV t521)] (jClean0H1 B6 gen fp fl fc en m3_b1 sz m61 B7 m01 m11 B8 F2) S w0 (nrm R)
def jClean0_c2 (JB : Nat) (gen : Int) (fp : OA) (fl fc : Nat) (en : Int) (D : Nat) (sz : Int) (br : Bool) (B10 B11 B12 : Nat) (steps2_p : OA) (steps2_l steps2_c : Nat) (restv5 : BA) (t512 t522 : Int) (m3_b2 : Nat) (m62 : Bool) (m02 m12 : BA) (F5 : SHeap) (S : List Nat) (w0 : World) (R : Ending → World → Prop) : Prop :=
 AtE TP 46 88 (KC Tryz.f46 3664284) [(0, PP B10), (3, PP B11), (5, PP B12), (7, .slice steps2_p steps2_l steps2_c), (9, IV 1), (10, .string restv5), (39, .agg #[IV 0, IV 1]), (40, IV 1), (51, IV t512), (52, IV t522)] (jClean0H2 B10 gen fp fl fc en m3_b2 sz m62 B11 m02 m12 B12 F5) S w0 (nrm R)
def jClean0_c3 (JB : Nat) (gen : Int) (fp : OA) (fl fc : Nat) (en : Int) (D : Nat) (sz : Int) (br : Bool) (B14 B15 B16 : Nat) (steps3_p : OA) (steps3_l steps3_c : Nat) (restv8 : BA) (t513 t523 : Int) (m3_b3 : Nat) (m63 : Bool) (m03 m13 : BA) (F8 : SHeap) (S : List Nat) (w0 : World) (R : Ending → World → Prop) : Prop :=
 AtE TP 46 88 (KC Tryz.f46 3664284) [(0, PP B14), (3, PP B15), (5, PP B16), (7, .slice steps3_p steps3_l steps3_c), (9, IV 0), (10, .string restv8), (39, .agg #[IV 1, IV 0]), (40, IV 1), (51, IV t513), (52, IV t523)] (jClean0H3 B14 gen fp fl fc en m3_b3 sz m63 B15 m03 m13 B16 F8) S w0 (nrm R)
theorem jClean0_c0_vc (JB : Nat) (gen : Int) (fp : OA) (fl fc : Nat) (en : Int) (D : Nat) (sz : Int) (br : Bool) (B3 B4 B5 : Nat) (steps_p : OA) (steps_l steps_c : Nat) (restv1 : BA) (t51 t52 : Int) (m3_b : Nat) (m6 : Bool) (m0 m1 : BA) (F1 : SHeap)
 (H :
 Br (t52 < t51)
 ((0 ≤ t52 ∧ t52 < restv1.size) ∧
 Bn ((bat restv1 t52) = (0 : Int))
 (∃ (r1 : Int), (QCallB TP 44 ⟨[PP B3, IV 0]⟩ (jClean0H4 B3 gen fp fl fc en m3_b sz m6 B4 m0 m1 B5) S w0 (IV r1)) ∧
 ∃ (r21 : BA), (QCallB TP 70 ⟨[IV (restv1.size : Int)]⟩ (jClean0H4 B3 gen fp fl fc en m3_b sz m6 B4 m0 m1 B5) S w0 (.string r21)) ∧
 CallH TP 69 ⟨[PP B3, IV (IntKind.i64.wrap (r1 + en)), .string r21]⟩ (jClean0H0 B3 gen fp fl fc en m3_b sz m6 B4 m0 m1 B5 F1) S w0 (fun v L' => ∃ (kj : Nat) (ko : Nat) (ks : Nat), ∃ F3, v = (.func (.func 110) #[] (jClean0A3 kj ko ks)) ∧ L' = ((B3, .cells (jClean0A7 gen fp fl fc en m3_b sz m6) 86) :: (B4, .cells #[.string m0, .string m1] 87) :: (B5, .cells #[IV en, IV 0] 139) :: F3) ∧
 ∀ B9 : Nat,
 AppN TP 1 92 92 (.slice steps_p steps_l steps_c) (1) [.func (.func 110) #[] (jClean0A3 kj ko ks)] ((B9, .cells #[.func (.func 110) #[] (jClean0A3 kj ko ks)] 53) :: (B3, .cells (jClean0A7 gen fp fl fc en m3_b sz m6) 86) :: (B4, .cells #[.string m0, .string m1] 87) :: (B5, .cells #[IV en, IV 0] 139) :: F3) S w0 (fun v L' => ∃ (ap : OA) (ac : Nat), ∃ F4, v = (.slice ap (steps_l + 1) ac) ∧ L' = ((B3, .cells (jClean0A7 gen fp fl fc en m3_b sz m6) 86) :: (B4, .cells #[.string m0, .string m1] 87) :: (B5, .cells #[IV en, IV 0] 139) :: F4) ∧
 (0 ≤ (0 : Int) ∧ (0 : Int) ≤ (m1.size : Int) ∧ (m1.size : Int) ≤ m1.size) ∧
 ∀ restv4 : BA, restv4 = (m1.extract (Int.toNat (0 : Int)) m1.size) →
 jClean0_c2 JB gen fp fl fc en D sz br B3 B4 B5 ap (steps_l + 1) ac restv4 (restv4.size : Int) (0 : Int) m3_b m6 m0 m1 F4 S w0 R)))
 (jClean0_c0 JB gen fp fl fc en D sz br B3 B4 B5 steps_p steps_l steps_c restv1 t51 (IntKind.i64.wrap (t52 + (1 : Int))) m3_b m6 m0 m1 F1 S w0 R))
 ((0 ≤ (0 : Int) ∧ (0 : Int) ≤ (m1.size : Int) ∧ (m1.size : Int) ≤ m1.size) ∧
 ∀ restv6 : BA, restv6 = (m1.extract (Int.toNat (0 : Int)) m1.size) →
 jClean0_c2 JB gen fp fl fc en D sz br B3 B4 B5 steps_p steps_l steps_c restv6 (restv6.size : Int) (0 : Int) m3_b m6 m0 m1 F1 S w0 R)) :
 jClean0_c0 JB gen fp fl fc en D sz br B3 B4 B5 steps_p steps_l steps_c restv1 t51 t52 m3_b m6 m0 m1 F1 S w0 R:= by
 unfold jClean0_c0
 refine .ru 5 (.sP 53 H (fun H => ?_) fun H => ?_)
 ·refine .ru 13 (.indexS (s := restv1) (kd := .i64) (i := t52) (by kernel_rfl) H.1 ?_)
  replace H := H.2
  refine .ru 2 (.sN 58 H (fun H => ?_) fun H => ?_)
  ·refine .ru 2 (.nm (KC Tryz.f46 938056908) [(0, PP B3), (3, PP B4), (5, PP B5), (7, .slice steps_p steps_l steps_c), (9, IV 0), (10, .string restv1), (39, .agg #[IV 0, IV 1]), (40, IV 0)] (jClean0H0 B3 gen fp fl fc en m3_b sz m6 B4 m0 m1 B5 F1) (.dD (.ph 14 [0,1,2,3,4,5,6,7,8,9,10,11] [12,13] (jClean0H4 B3 gen fp fl fc en m3_b sz m6 B4 m0 m1 B5) (.pu (.pu (.pu (.pu ?_)))))))
   obtain ⟨r1, hq, H⟩ := H
   refine .cl hq (.pu (.pu (.ld 2 0 (.pu (.pu (.pu ?_))))))
   obtain ⟨r21, hq, H⟩ := H
   refine .cl hq (.dn (.cl H ?_))
   rintro _ _ ⟨kj, ko, ks, F3, rfl, rfl, H⟩
   refine .new _ (fun B => .slice (SO B) 1 1) (.cells #[.func (.func 110) #[] (jClean0A3 kj ko ks)] 53) rfl (fun W => by kernel_rfl) (by kernel_rfl) (fun B9 => ?_)
   replace H := H B9
   refine .dn (.front (.nm [(0, PP B3), (3, PP B4), (5, PP B5), (39, .agg #[IV 0, IV 1]), (40, IV 0), (59, .slice steps_p steps_l steps_c), (72, .slice (SO B9) 1 1)] ((B9, .cells #[.func (.func 110) #[] (jClean0A3 kj ko ks)] 53) :: (B3, .cells (jClean0A7 gen fp fl fc en m3_b sz m6) 86) :: (B4, .cells #[.string m0, .string m1] 87) :: (B5, .cells #[IV en, IV 0] 139) :: F3) (.tl (.appendT (sz := 1) (T := 92) (U := 92) (s := .slice steps_p steps_l steps_c) (x := .slice (SO B9) 1 1) (1) [.func (.func 110) #[] (jClean0A3 kj ko ks)] (by kernel_rfl) (srcRow (E' := 53) (t := 53) (fz := (0, 0)) (c := [.func (.func 110) #[] (jClean0A3 kj ko ks)]) (by simp) (by kernel_rfl) (by simp) (by simp [Value.oneCell'])) H ?_))))
   rintro _ _ ⟨ap, ac, F4, rfl, rfl, H⟩
   refine .ru 23 (.nm (KC Tryz.f46 458034) [(0, PP B3), (3, PP B4), (5, PP B5), (7, .slice ap (steps_l + 1) ac), (9, IV 1), (39, .agg #[IV 0, IV 1]), (40, IV 1)] ((B3, .cells (jClean0A7 gen fp fl fc en m3_b sz m6) 86) :: (B4, .cells #[.string m0, .string m1] 87) :: (B5, .cells #[IV en, IV 0] 139) :: F4) (.dr 8 (.pu (.pu (.ld 1 1 (.pu (.pu (.ld 2 1 (.sliceS (s := m1) (lo := some (IV 0)) (hi := none) (a := (0 : Int)) (b := (m1.size : Int)) (by kernel_rfl) (.inl ⟨.i64, rfl⟩) (.inr ⟨rfl, rfl⟩) H.1 ?_)))))))))
   replace H := H.2
   refine .pu (.letS 10 (n := (m1.extract (Int.toNat (0 : Int)) m1.size)) (by kernel_rfl) (fun restv4 hrestv4 => ?_))
   replace H := H restv4 hrestv4
   refine .dn (.ru 9 (.tT [0,1,2] 3 H))
  ·refine .ru 8 (.tT [0,1,2] 3 H)
 ·refine .ru 23 (.nm (KC Tryz.f46 458034) [(0, PP B3), (3, PP B4), (5, PP B5), (7, .slice steps_p steps_l steps_c), (9, IV 1), (39, .agg #[IV 0, IV 1]), (40, IV 1)] (jClean0H0 B3 gen fp fl fc en m3_b sz m6 B4 m0 m1 B5 F1) (.dr 8 (.pu (.pu (.ld 1 1 (.pu (.pu (.ld 2 1 (.sliceS (s := m1) (lo := some (IV 0)) (hi := none) (a := (0 : Int)) (b := (m1.size : Int)) (by kernel_rfl) (.inl ⟨.i64, rfl⟩) (.inr ⟨rfl, rfl⟩) H.1 ?_)))))))))
  replace H := H.2
  refine .pu (.letS 10 (n := (m1.extract (Int.toNat (0 : Int)) m1.size)) (by kernel_rfl) (fun restv6 hrestv6 => ?_))
  replace H := H restv6 hrestv6
  refine .dn (.ru 9 (.tT [0,1,2] 3 H))
theorem jClean0_c1_vc (JB : Nat) (gen : Int) (fp : OA) (fl fc : Nat) (en : Int) (D : Nat) (sz : Int) (br : Bool) (B6 B7 B8 : Nat) (steps1_p : OA) (steps1_l steps1_c : Nat) (restv3 : BA) (t511 t521 : Int) (m3_b1 : Nat) (m61 : Bool) (m01 m11 : BA) (F2 : SHeap)
 (H :
 Br (t521 < t511)
 ((0 ≤ t521 ∧ t521 < restv3.size) ∧
 Bn ((bat restv3 t521) = (0 : Int))
 (∃ (r41 : Int), (QCallB TP 44 ⟨[PP B6, IV 1]⟩ (jClean0H5 B6 gen fp fl fc en m3_b1 sz m61 B7 m01 m11 B8) S w0 (IV r41)) ∧
 ∃ (r51 : BA), (QCallB TP 70 ⟨[IV (restv3.size : Int)]⟩ (jClean0H5 B6 gen fp fl fc en m3_b1 sz m61 B7 m01 m11 B8) S w0 (.string r51)) ∧
 CallH TP 69 ⟨[PP B6, IV (IntKind.i64.wrap (r41 + (0 : Int))), .string r51]⟩ (jClean0H1 B6 gen fp fl fc en m3_b1 sz m61 B7 m01 m11 B8 F2) S w0 (fun v L' => ∃ (kj1 : Nat) (ko1 : Nat) (ks1 : Nat), ∃ F6, v = (.func (.func 110) #[] (jClean0A4 kj1 ko1 ks1)) ∧ L' = ((B6, .cells (jClean0A8 gen fp fl fc en m3_b1 sz m61) 86) :: (B7, .cells #[.string m01, .string m11] 87) :: (B8, .cells #[IV en, IV 0] 139) :: F6) ∧
 ∀ B13 : Nat,
 AppN TP 1 92 92 (.slice steps1_p steps1_l steps1_c) (1) [.func (.func 110) #[] (jClean0A4 kj1 ko1 ks1)] ((B13, .cells #[.func (.func 110) #[] (jClean0A4 kj1 ko1 ks1)] 53) :: (B6, .cells (jClean0A8 gen fp fl fc en m3_b1 sz m61) 86) :: (B7, .cells #[.string m01, .string m11] 87) :: (B8, .cells #[IV en, IV 0] 139) :: F6) S w0 (fun v L' => ∃ (ap1 : OA) (ac1 : Nat), ∃ F7, v = (.slice ap1 (steps1_l + 1) ac1) ∧ L' = ((B6, .cells (jClean0A8 gen fp fl fc en m3_b1 sz m61) 86) :: (B7, .cells #[.string m01, .string m11] 87) :: (B8, .cells #[IV en, IV 0] 139) :: F7) ∧
 (0 ≤ en ∧ en ≤ (m01.size : Int) ∧ (m01.size : Int) ≤ m01.size) ∧
 ∀ restv7 : BA, restv7 = (m01.extract (Int.toNat en) m01.size) →
 jClean0_c3 JB gen fp fl fc en D sz br B6 B7 B8 ap1 (steps1_l + 1) ac1 restv7 (restv7.size : Int) (0 : Int) m3_b1 m61 m01 m11 F7 S w0 R)))
 (jClean0_c1 JB gen fp fl fc en D sz br B6 B7 B8 steps1_p steps1_l steps1_c restv3 t511 (IntKind.i64.wrap (t521 + (1 : Int))) m3_b1 m61 m01 m11 F2 S w0 R))
 ((0 ≤ en ∧ en ≤ (m01.size : Int) ∧ (m01.size : Int) ≤ m01.size) ∧
 ∀ restv9 : BA, restv9 = (m01.extract (Int.toNat en) m01.size) →
 jClean0_c3 JB gen fp fl fc en D sz br B6 B7 B8 steps1_p steps1_l steps1_c restv9 (restv9.size : Int) (0 : Int) m3_b1 m61 m01 m11 F2 S w0 R)) :
 jClean0_c1 JB gen fp fl fc en D sz br B6 B7 B8 steps1_p steps1_l steps1_c restv3 t511 t521 m3_b1 m61 m01 m11 F2 S w0 R:= by
 unfold jClean0_c1
 refine .ru 5 (.sP 53 H (fun H => ?_) fun H => ?_)
 ·refine .ru 13 (.indexS (s := restv3) (kd := .i64) (i := t521) (by kernel_rfl) H.1 ?_)
  replace H := H.2
  refine .ru 2 (.sN 58 H (fun H => ?_) fun H => ?_)
  ·refine .ru 2 (.nm (KC Tryz.f46 938056908) [(0, PP B6), (3, PP B7), (5, PP B8), (7, .slice steps1_p steps1_l steps1_c), (9, IV 1), (10, .string restv3), (39, .agg #[IV 1, IV 0]), (40, IV 0)] (jClean0H1 B6 gen fp fl fc en m3_b1 sz m61 B7 m01 m11 B8 F2) (.dD (.ph 14 [0,1,2,3,4,5,6,7,8,9,10,11] [12,13] (jClean0H5 B6 gen fp fl fc en m3_b1 sz m61 B7 m01 m11 B8) (.pu (.pu (.pu (.pu ?_)))))))
   obtain ⟨r41, hq, H⟩ := H
   refine .cl hq (.pu (.pu (.ld 2 1 (.pu (.pu (.pu ?_))))))
   obtain ⟨r51, hq, H⟩ := H
   refine .cl hq (.dn (.cl H ?_))
   rintro _ _ ⟨kj1, ko1, ks1, F6, rfl, rfl, H⟩
   refine .new _ (fun B => .slice (SO B) 1 1) (.cells #[.func (.func 110) #[] (jClean0A4 kj1 ko1 ks1)] 53) rfl (fun W => by kernel_rfl) (by kernel_rfl) (fun B13 => ?_)
   replace H := H B13
   refine .dn (.front (.nm [(0, PP B6), (3, PP B7), (5, PP B8), (39, .agg #[IV 1, IV 0]), (40, IV 0), (59, .slice steps1_p steps1_l steps1_c), (72, .slice (SO B13) 1 1)] ((B13, .cells #[.func (.func 110) #[] (jClean0A4 kj1 ko1 ks1)] 53) :: (B6, .cells (jClean0A8 gen fp fl fc en m3_b1 sz m61) 86) :: (B7, .cells #[.string m01, .string m11] 87) :: (B8, .cells #[IV en, IV 0] 139) :: F6) (.tl (.appendT (sz := 1) (T := 92) (U := 92) (s := .slice steps1_p steps1_l steps1_c) (x := .slice (SO B13) 1 1) (1) [.func (.func 110) #[] (jClean0A4 kj1 ko1 ks1)] (by kernel_rfl) (srcRow (E' := 53) (t := 53) (fz := (0, 0)) (c := [.func (.func 110) #[] (jClean0A4 kj1 ko1 ks1)]) (by simp) (by kernel_rfl) (by simp) (by simp [Value.oneCell'])) H ?_))))
   rintro _ _ ⟨ap1, ac1, F7, rfl, rfl, H⟩
   refine .ru 23 (.nm (KC Tryz.f46 458034) [(0, PP B6), (3, PP B7), (5, PP B8), (7, .slice ap1 (steps1_l + 1) ac1), (9, IV 0), (39, .agg #[IV 1, IV 0]), (40, IV 1)] ((B6, .cells (jClean0A8 gen fp fl fc en m3_b1 sz m61) 86) :: (B7, .cells #[.string m01, .string m11] 87) :: (B8, .cells #[IV en, IV 0] 139) :: F7) (.dr 8 (.pu (.pu (.ld 1 0 (.pu (.pu (.ld 2 0 (.sliceS (s := m01) (lo := some (IV en)) (hi := none) (a := en) (b := (m01.size : Int)) (by kernel_rfl) (.inl ⟨.i64, rfl⟩) (.inr ⟨rfl, rfl⟩) H.1 ?_)))))))))
   replace H := H.2
   refine .pu (.letS 10 (n := (m01.extract (Int.toNat en) m01.size)) (by kernel_rfl) (fun restv7 hrestv7 => ?_))
   replace H := H restv7 hrestv7
   refine .dn (.ru 9 (.tT [0,1,2] 3 H))
  ·refine .ru 8 (.tT [0,1,2] 3 H)
 ·refine .ru 23 (.nm (KC Tryz.f46 458034) [(0, PP B6), (3, PP B7), (5, PP B8), (7, .slice steps1_p steps1_l steps1_c), (9, IV 0), (39, .agg #[IV 1, IV 0]), (40, IV 1)] (jClean0H1 B6 gen fp fl fc en m3_b1 sz m61 B7 m01 m11 B8 F2) (.dr 8 (.pu (.pu (.ld 1 0 (.pu (.pu (.ld 2 0 (.sliceS (s := m01) (lo := some (IV en)) (hi := none) (a := en) (b := (m01.size : Int)) (by kernel_rfl) (.inl ⟨.i64, rfl⟩) (.inr ⟨rfl, rfl⟩) H.1 ?_)))))))))
  replace H := H.2
  refine .pu (.letS 10 (n := (m01.extract (Int.toNat en) m01.size)) (by kernel_rfl) (fun restv9 hrestv9 => ?_))
  replace H := H restv9 hrestv9
  refine .dn (.ru 9 (.tT [0,1,2] 3 H))
theorem jClean0_c2_vc (JB : Nat) (gen : Int) (fp : OA) (fl fc : Nat) (en : Int) (D : Nat) (sz : Int) (br : Bool) (B10 B11 B12 : Nat) (steps2_p : OA) (steps2_l steps2_c : Nat) (restv5 : BA) (t512 t522 : Int) (m3_b2 : Nat) (m62 : Bool) (m02 m12 : BA) (F5 : SHeap)
 (H :
 Br (t522 < t512)
 ((0 ≤ t522 ∧ t522 < restv5.size) ∧
 Bn ((bat restv5 t522) = (0 : Int))
 (∃ (r71 : Int), (QCallB TP 44 ⟨[PP B10, IV 1]⟩ (jClean0H6 B10 gen fp fl fc en m3_b2 sz m62 B11 m02 m12 B12) S w0 (IV r71)) ∧
 ∃ (r81 : BA), (QCallB TP 70 ⟨[IV (restv5.size : Int)]⟩ (jClean0H6 B10 gen fp fl fc en m3_b2 sz m62 B11 m02 m12 B12) S w0 (.string r81)) ∧
 CallH TP 69 ⟨[PP B10, IV (IntKind.i64.wrap (r71 + (0 : Int))), .string r81]⟩ (jClean0H2 B10 gen fp fl fc en m3_b2 sz m62 B11 m02 m12 B12 F5) S w0 (fun v L' => ∃ (kj2 : Nat) (ko2 : Nat) (ks2 : Nat), ∃ F9, v = (.func (.func 110) #[] (jClean0A5 kj2 ko2 ks2)) ∧ L' = ((B10, .cells (jClean0A0 gen fp fl fc en m3_b2 sz m62) 86) :: (B11, .cells #[.string m02, .string m12] 87) :: (B12, .cells #[IV en, IV 0] 139) :: F9) ∧
 ∀ B17 : Nat,
 AppN TP 1 92 92 (.slice steps2_p steps2_l steps2_c) (1) [.func (.func 110) #[] (jClean0A5 kj2 ko2 ks2)] ((B17, .cells #[.func (.func 110) #[] (jClean0A5 kj2 ko2 ks2)] 53) :: (B10, .cells (jClean0A0 gen fp fl fc en m3_b2 sz m62) 86) :: (B11, .cells #[.string m02, .string m12] 87) :: (B12, .cells #[IV en, IV 0] 139) :: F9) S w0 (fun v L' => ∃ (ap2 : OA) (ac2 : Nat), ∃ F10, v = (.slice ap2 (steps2_l + 1) ac2) ∧ L' = ((B10, .cells (jClean0A0 gen fp fl fc en m3_b2 sz m62) 86) :: (B11, .cells #[.string m02, .string m12] 87) :: (B12, .cells #[IV en, IV 0] 139) :: F10) ∧
 Br ((0 : Int) < ((steps2_l + 1) : Int))
 (∀ B18 : Nat,
 AppN TP 1 92 92 (.slice ap2 (steps2_l + 1) ac2) (1) [.func (.func 68) #[PP m3_b2] #[]] ((B18, .cells #[.func (.func 68) #[PP m3_b2] #[]] 53) :: (B10, .cells (jClean0A0 gen fp fl fc en m3_b2 sz m62) 86) :: (B11, .cells #[.string m02, .string m12] 87) :: (B12, .cells #[IV en, IV 0] 139) :: F10) S w0 (fun v L' => ∃ (ap3 : OA) (ac3 : Nat), ∃ F11, v = (.slice ap3 ((steps2_l + 1) + 1) ac3) ∧ L' = ((B10, .cells (jClean0A0 gen fp fl fc en m3_b2 sz m62) 86) :: (B11, .cells #[.string m02, .string m12] 87) :: (B12, .cells #[IV en, IV 0] 139) :: F11) ∧
 Fin R ((B10, .cells (jClean0A0 gen fp fl fc en m3_b2 sz m62) 86) :: (B11, .cells #[.string m02, .string m12] 87) :: (B12, .cells #[IV en, IV 0] 139) :: F11) S w0 (.slice ap3 ((steps2_l + 1) + 1) ac3)))
 (Fin R ((B10, .cells (jClean0A0 gen fp fl fc en m3_b2 sz m62) 86) :: (B11, .cells #[.string m02, .string m12] 87) :: (B12, .cells #[IV en, IV 0] 139) :: F10) S w0 (.slice ap2 (steps2_l + 1) ac2)))))
 (jClean0_c2 JB gen fp fl fc en D sz br B10 B11 B12 steps2_p steps2_l steps2_c restv5 t512 (IntKind.i64.wrap (t522 + (1 : Int))) m3_b2 m62 m02 m12 F5 S w0 R))
 (Br ((0 : Int) < (steps2_l : Int))
 (∀ B19 : Nat,
 AppN TP 1 92 92 (.slice steps2_p steps2_l steps2_c) (1) [.func (.func 68) #[PP m3_b2] #[]] ((B19, .cells #[.func (.func 68) #[PP m3_b2] #[]] 53) :: (B10, .cells (jClean0A0 gen fp fl fc en m3_b2 sz m62) 86) :: (B11, .cells #[.string m02, .string m12] 87) :: (B12, .cells #[IV en, IV 0] 139) :: F5) S w0 (fun v L' => ∃ (ap4 : OA) (ac4 : Nat), ∃ F12, v = (.slice ap4 (steps2_l + 1) ac4) ∧ L' = ((B10, .cells (jClean0A0 gen fp fl fc en m3_b2 sz m62) 86) :: (B11, .cells #[.string m02, .string m12] 87) :: (B12, .cells #[IV en, IV 0] 139) :: F12) ∧
 Fin R ((B10, .cells (jClean0A0 gen fp fl fc en m3_b2 sz m62) 86) :: (B11, .cells #[.string m02, .string m12] 87) :: (B12, .cells #[IV en, IV 0] 139) :: F12) S w0 (.slice ap4 (steps2_l + 1) ac4)))
 (Fin R (jClean0H2 B10 gen fp fl fc en m3_b2 sz m62 B11 m02 m12 B12 F5) S w0 (.slice steps2_p steps2_l steps2_c)))) :
 jClean0_c2 JB gen fp fl fc en D sz br B10 B11 B12 steps2_p steps2_l steps2_c restv5 t512 t522 m3_b2 m62 m02 m12 F5 S w0 R:= by
 unfold jClean0_c2
 refine .ru 5 (.sP 53 H (fun H => ?_) fun H => ?_)
 ·refine .ru 13 (.indexS (s := restv5) (kd := .i64) (i := t522) (by kernel_rfl) H.1 ?_)
  replace H := H.2
  refine .ru 2 (.sN 58 H (fun H => ?_) fun H => ?_)
  ·refine .ru 2 (.nm (KC Tryz.f46 938056908) [(0, PP B10), (3, PP B11), (5, PP B12), (7, .slice steps2_p steps2_l steps2_c), (9, IV 1), (10, .string restv5), (39, .agg #[IV 0, IV 1]), (40, IV 1)] (jClean0H2 B10 gen fp fl fc en m3_b2 sz m62 B11 m02 m12 B12 F5) (.dD (.ph 14 [0,1,2,3,4,5,6,7,8,9,10,11] [12,13] (jClean0H6 B10 gen fp fl fc en m3_b2 sz m62 B11 m02 m12 B12) (.pu (.pu (.pu (.pu ?_)))))))
   obtain ⟨r71, hq, H⟩ := H
   refine .cl hq (.pu (.pu (.ld 2 1 (.pu (.pu (.pu ?_))))))
   obtain ⟨r81, hq, H⟩ := H
   refine .cl hq (.dn (.cl H ?_))
   rintro _ _ ⟨kj2, ko2, ks2, F9, rfl, rfl, H⟩
   refine .new _ (fun B => .slice (SO B) 1 1) (.cells #[.func (.func 110) #[] (jClean0A5 kj2 ko2 ks2)] 53) rfl (fun W => by kernel_rfl) (by kernel_rfl) (fun B17 => ?_)
   replace H := H B17
   refine .dn (.front (.nm [(0, PP B10), (3, PP B11), (5, PP B12), (39, .agg #[IV 0, IV 1]), (40, IV 1), (59, .slice steps2_p steps2_l steps2_c), (72, .slice (SO B17) 1 1)] ((B17, .cells #[.func (.func 110) #[] (jClean0A5 kj2 ko2 ks2)] 53) :: (B10, .cells (jClean0A0 gen fp fl fc en m3_b2 sz m62) 86) :: (B11, .cells #[.string m02, .string m12] 87) :: (B12, .cells #[IV en, IV 0] 139) :: F9) (.tl (.appendT (sz := 1) (T := 92) (U := 92) (s := .slice steps2_p steps2_l steps2_c) (x := .slice (SO B17) 1 1) (1) [.func (.func 110) #[] (jClean0A5 kj2 ko2 ks2)] (by kernel_rfl) (srcRow (E' := 53) (t := 53) (fz := (0, 0)) (c := [.func (.func 110) #[] (jClean0A5 kj2 ko2 ks2)]) (by simp) (by kernel_rfl) (by simp) (by simp [Value.oneCell'])) H ?_))))
   rintro _ _ ⟨ap2, ac2, F10, rfl, rfl, H⟩
   refine .ru 22 (.sP 78 H (fun H => ?_) fun H => ?_)
   ·refine .ru 6 (.ld 0 3 (.ru 1 (.nw (fun B => .slice (SO B) 1 1) (.cells #[.func (.func 68) #[PP m3_b2] #[]] 53) fun B18 => ?_)))
    replace H := H B18
    refine .front (.appendT (sz := 1) (T := 92) (U := 92) (s := .slice ap2 (steps2_l + 1) ac2) (x := .slice (SO B18) 1 1) (1) [.func (.func 68) #[PP m3_b2] #[]] (by kernel_rfl) (srcRow (E' := 53) (t := 53) (fz := (0, 0)) (c := [.func (.func 68) #[PP m3_b2] #[]]) (by simp) (by kernel_rfl) (by simp) (by simp [Value.oneCell'])) H ?_)
    rintro _ _ ⟨ap3, ac3, F11, rfl, rfl, H⟩
    refine .ru 7 (.rt Tryz.func46 H)
   ·refine .ru 7 (.rt Tryz.func46 H)
  ·refine .ru 8 (.tT [0,1,2] 3 H)
 ·refine .ru 22 (.sP 78 H (fun H => ?_) fun H => ?_)
  ·refine .ru 6 (.ld 0 3 (.ru 1 (.nw (fun B => .slice (SO B) 1 1) (.cells #[.func (.func 68) #[PP m3_b2] #[]] 53) fun B19 => ?_)))
   replace H := H B19
   refine .front (.appendT (sz := 1) (T := 92) (U := 92) (s := .slice steps2_p steps2_l steps2_c) (x := .slice (SO B19) 1 1) (1) [.func (.func 68) #[PP m3_b2] #[]] (by kernel_rfl) (srcRow (E' := 53) (t := 53) (fz := (0, 0)) (c := [.func (.func 68) #[PP m3_b2] #[]]) (by simp) (by kernel_rfl) (by simp) (by simp [Value.oneCell'])) H ?_)
   rintro _ _ ⟨ap4, ac4, F12, rfl, rfl, H⟩
   refine .ru 7 (.rt Tryz.func46 H)
  ·refine .ru 7 (.rt Tryz.func46 H)
theorem jClean0_c3_vc (JB : Nat) (gen : Int) (fp : OA) (fl fc : Nat) (en : Int) (D : Nat) (sz : Int) (br : Bool) (B14 B15 B16 : Nat) (steps3_p : OA) (steps3_l steps3_c : Nat) (restv8 : BA) (t513 t523 : Int) (m3_b3 : Nat) (m63 : Bool) (m03 m13 : BA) (F8 : SHeap)
 (H :
 Br (t523 < t513)
 ((0 ≤ t523 ∧ t523 < restv8.size) ∧
 Bn ((bat restv8 t523) = (0 : Int))
 (∃ (r101 : Int), (QCallB TP 44 ⟨[PP B14, IV 0]⟩ (jClean0H7 B14 gen fp fl fc en m3_b3 sz m63 B15 m03 m13 B16) S w0 (IV r101)) ∧
 ∃ (r111 : BA), (QCallB TP 70 ⟨[IV (restv8.size : Int)]⟩ (jClean0H7 B14 gen fp fl fc en m3_b3 sz m63 B15 m03 m13 B16) S w0 (.string r111)) ∧
 CallH TP 69 ⟨[PP B14, IV (IntKind.i64.wrap (r101 + en)), .string r111]⟩ (jClean0H3 B14 gen fp fl fc en m3_b3 sz m63 B15 m03 m13 B16 F8) S w0 (fun v L' => ∃ (kj3 : Nat) (ko3 : Nat) (ks3 : Nat), ∃ F13, v = (.func (.func 110) #[] (jClean0A6 kj3 ko3 ks3)) ∧ L' = ((B14, .cells (jClean0A1 gen fp fl fc en m3_b3 sz m63) 86) :: (B15, .cells #[.string m03, .string m13] 87) :: (B16, .cells #[IV en, IV 0] 139) :: F13) ∧
 ∀ B20 : Nat,
 AppN TP 1 92 92 (.slice steps3_p steps3_l steps3_c) (1) [.func (.func 110) #[] (jClean0A6 kj3 ko3 ks3)] ((B20, .cells #[.func (.func 110) #[] (jClean0A6 kj3 ko3 ks3)] 53) :: (B14, .cells (jClean0A1 gen fp fl fc en m3_b3 sz m63) 86) :: (B15, .cells #[.string m03, .string m13] 87) :: (B16, .cells #[IV en, IV 0] 139) :: F13) S w0 (fun v L' => ∃ (ap5 : OA) (ac5 : Nat), ∃ F14, v = (.slice ap5 (steps3_l + 1) ac5) ∧ L' = ((B14, .cells (jClean0A1 gen fp fl fc en m3_b3 sz m63) 86) :: (B15, .cells #[.string m03, .string m13] 87) :: (B16, .cells #[IV en, IV 0] 139) :: F14) ∧
 Br ((0 : Int) < ((steps3_l + 1) : Int))
 (∀ B21 : Nat,
 AppN TP 1 92 92 (.slice ap5 (steps3_l + 1) ac5) (1) [.func (.func 68) #[PP m3_b3] #[]] ((B21, .cells #[.func (.func 68) #[PP m3_b3] #[]] 53) :: (B14, .cells (jClean0A1 gen fp fl fc en m3_b3 sz m63) 86) :: (B15, .cells #[.string m03, .string m13] 87) :: (B16, .cells #[IV en, IV 0] 139) :: F14) S w0 (fun v L' => ∃ (ap6 : OA) (ac6 : Nat), ∃ F15, v = (.slice ap6 ((steps3_l + 1) + 1) ac6) ∧ L' = ((B14, .cells (jClean0A1 gen fp fl fc en m3_b3 sz m63) 86) :: (B15, .cells #[.string m03, .string m13] 87) :: (B16, .cells #[IV en, IV 0] 139) :: F15) ∧
 Fin R ((B14, .cells (jClean0A1 gen fp fl fc en m3_b3 sz m63) 86) :: (B15, .cells #[.string m03, .string m13] 87) :: (B16, .cells #[IV en, IV 0] 139) :: F15) S w0 (.slice ap6 ((steps3_l + 1) + 1) ac6)))
 (Fin R ((B14, .cells (jClean0A1 gen fp fl fc en m3_b3 sz m63) 86) :: (B15, .cells #[.string m03, .string m13] 87) :: (B16, .cells #[IV en, IV 0] 139) :: F14) S w0 (.slice ap5 (steps3_l + 1) ac5)))))
 (jClean0_c3 JB gen fp fl fc en D sz br B14 B15 B16 steps3_p steps3_l steps3_c restv8 t513 (IntKind.i64.wrap (t523 + (1 : Int))) m3_b3 m63 m03 m13 F8 S w0 R))
 (Br ((0 : Int) < (steps3_l : Int))
 (∀ B22 : Nat,
 AppN TP 1 92 92 (.slice steps3_p steps3_l steps3_c) (1) [.func (.func 68) #[PP m3_b3] #[]] ((B22, .cells #[.func (.func 68) #[PP m3_b3] #[]] 53) :: (B14, .cells (jClean0A1 gen fp fl fc en m3_b3 sz m63) 86) :: (B15, .cells #[.string m03, .string m13] 87) :: (B16, .cells #[IV en, IV 0] 139) :: F8) S w0 (fun v L' => ∃ (ap7 : OA) (ac7 : Nat), ∃ F16, v = (.slice ap7 (steps3_l + 1) ac7) ∧ L' = ((B14, .cells (jClean0A1 gen fp fl fc en m3_b3 sz m63) 86) :: (B15, .cells #[.string m03, .string m13] 87) :: (B16, .cells #[IV en, IV 0] 139) :: F16) ∧
 Fin R ((B14, .cells (jClean0A1 gen fp fl fc en m3_b3 sz m63) 86) :: (B15, .cells #[.string m03, .string m13] 87) :: (B16, .cells #[IV en, IV 0] 139) :: F16) S w0 (.slice ap7 (steps3_l + 1) ac7)))
 (Fin R (jClean0H3 B14 gen fp fl fc en m3_b3 sz m63 B15 m03 m13 B16 F8) S w0 (.slice steps3_p steps3_l steps3_c)))) :
 jClean0_c3 JB gen fp fl fc en D sz br B14 B15 B16 steps3_p steps3_l steps3_c restv8 t513 t523 m3_b3 m63 m03 m13 F8 S w0 R:= by
 unfold jClean0_c3
 refine .ru 5 (.sP 53 H (fun H => ?_) fun H => ?_)
 ·refine .ru 13 (.indexS (s := restv8) (kd := .i64) (i := t523) (by kernel_rfl) H.1 ?_)
  replace H := H.2
  refine .ru 2 (.sN 58 H (fun H => ?_) fun H => ?_)
  ·refine .ru 2 (.nm (KC Tryz.f46 938056908) [(0, PP B14), (3, PP B15), (5, PP B16), (7, .slice steps3_p steps3_l steps3_c), (9, IV 0), (10, .string restv8), (39, .agg #[IV 1, IV 0]), (40, IV 1)] (jClean0H3 B14 gen fp fl fc en m3_b3 sz m63 B15 m03 m13 B16 F8) (.dD (.ph 14 [0,1,2,3,4,5,6,7,8,9,10,11] [12,13] (jClean0H7 B14 gen fp fl fc en m3_b3 sz m63 B15 m03 m13 B16) (.pu (.pu (.pu (.pu ?_)))))))
   obtain ⟨r101, hq, H⟩ := H
   refine .cl hq (.pu (.pu (.ld 2 0 (.pu (.pu (.pu ?_))))))
   obtain ⟨r111, hq, H⟩ := H
   refine .cl hq (.dn (.cl H ?_))
   rintro _ _ ⟨kj3, ko3, ks3, F13, rfl, rfl, H⟩
   refine .new _ (fun B => .slice (SO B) 1 1) (.cells #[.func (.func 110) #[] (jClean0A6 kj3 ko3 ks3)] 53) rfl (fun W => by kernel_rfl) (by kernel_rfl) (fun B20 => ?_)
   replace H := H B20
   refine .dn (.front (.nm [(0, PP B14), (3, PP B15), (5, PP B16), (39, .agg #[IV 1, IV 0]), (40, IV 1), (59, .slice steps3_p steps3_l steps3_c), (72, .slice (SO B20) 1 1)] ((B20, .cells #[.func (.func 110) #[] (jClean0A6 kj3 ko3 ks3)] 53) :: (B14, .cells (jClean0A1 gen fp fl fc en m3_b3 sz m63) 86) :: (B15, .cells #[.string m03, .string m13] 87) :: (B16, .cells #[IV en, IV 0] 139) :: F13) (.tl (.appendT (sz := 1) (T := 92) (U := 92) (s := .slice steps3_p steps3_l steps3_c) (x := .slice (SO B20) 1 1) (1) [.func (.func 110) #[] (jClean0A6 kj3 ko3 ks3)] (by kernel_rfl) (srcRow (E' := 53) (t := 53) (fz := (0, 0)) (c := [.func (.func 110) #[] (jClean0A6 kj3 ko3 ks3)]) (by simp) (by kernel_rfl) (by simp) (by simp [Value.oneCell'])) H ?_))))
   rintro _ _ ⟨ap5, ac5, F14, rfl, rfl, H⟩
   refine .ru 22 (.sP 78 H (fun H => ?_) fun H => ?_)
   ·refine .ru 6 (.ld 0 3 (.ru 1 (.nw (fun B => .slice (SO B) 1 1) (.cells #[.func (.func 68) #[PP m3_b3] #[]] 53) fun B21 => ?_)))
    replace H := H B21
    refine .front (.appendT (sz := 1) (T := 92) (U := 92) (s := .slice ap5 (steps3_l + 1) ac5) (x := .slice (SO B21) 1 1) (1) [.func (.func 68) #[PP m3_b3] #[]] (by kernel_rfl) (srcRow (E' := 53) (t := 53) (fz := (0, 0)) (c := [.func (.func 68) #[PP m3_b3] #[]]) (by simp) (by kernel_rfl) (by simp) (by simp [Value.oneCell'])) H ?_)
    rintro _ _ ⟨ap6, ac6, F15, rfl, rfl, H⟩
    refine .ru 7 (.rt Tryz.func46 H)
   ·refine .ru 7 (.rt Tryz.func46 H)
  ·refine .ru 8 (.tT [0,1,2] 3 H)
 ·refine .ru 22 (.sP 78 H (fun H => ?_) fun H => ?_)
  ·refine .ru 6 (.ld 0 3 (.ru 1 (.nw (fun B => .slice (SO B) 1 1) (.cells #[.func (.func 68) #[PP m3_b3] #[]] 53) fun B22 => ?_)))
   replace H := H B22
   refine .front (.appendT (sz := 1) (T := 92) (U := 92) (s := .slice steps3_p steps3_l steps3_c) (x := .slice (SO B22) 1 1) (1) [.func (.func 68) #[PP m3_b3] #[]] (by kernel_rfl) (srcRow (E' := 53) (t := 53) (fz := (0, 0)) (c := [.func (.func 68) #[PP m3_b3] #[]]) (by simp) (by kernel_rfl) (by simp) (by simp [Value.oneCell'])) H ?_)
   rintro _ _ ⟨ap7, ac7, F16, rfl, rfl, H⟩
   refine .ru 7 (.rt Tryz.func46 H)
  ·refine .ru 7 (.rt Tryz.func46 H)
theorem jClean0_vc (JB : Nat) (i0 i1 : BA) (gen : Int) (fp : OA) (fl fc : Nat) (en : Int) (D : Nat) (sz : Int) (br : Bool) (F : SHeap) (hm : Mem ((JB, .cells (jClean0A2 gen fp fl fc en D sz br) 86) :: F) S w0 W)
 (H :
 ∀ B B1 B2 : Nat,
 Br (gen = 0)
 ((0 ≤ en ∧ en ≤ (i0.size : Int) ∧ (i0.size : Int) ≤ i0.size) ∧
 ∀ restv : BA, restv = (i0.extract (Int.toNat en) i0.size) →
 jClean0_c0 JB gen fp fl fc en D sz br JB B B1 none 0 0 restv (restv.size : Int) (0 : Int) D br i0 i1 F S w0 R)
 ((0 ≤ (0 : Int) ∧ (0 : Int) ≤ (i1.size : Int) ∧ (i1.size : Int) ≤ i1.size) ∧
 ∀ restv2 : BA, restv2 = (i1.extract (Int.toNat (0 : Int)) i1.size) →
 jClean0_c1 JB gen fp fl fc en D sz br JB B B1 none 0 0 restv2 (restv2.size : Int) (0 : Int) D br i0 i1 F S w0 R)) :
 Calls TP 46 ⟨[PP JB, .agg #[.string i0, .string i1]]⟩ W R:= by
 refine AtE.cs 88 Tryz.func46 hm (.ru 2 (.nH (.cells #[.string i0, .string i1] 87) H fun B H => (.front (.ru 5 (.nH (.cells #[IV 0, IV 0] 139) H fun B1 H => (.front (.ru 2 (.nm (KC Tryz.f46 26) [(0, PP JB), (3, PP B), (5, PP B1)] ((B1, .cells #[IV 0, IV 0] 139) :: (B, .cells #[.string i0, .string i1] 87) :: (JB, .cells (jClean0A2 gen fp fl fc en D sz br) 86) :: F) (.dr 10 (.pu (.pu (.pu (.ld 2 5 (.pu (.pu (.pu (.pu (.ld 2 2 (.pu (.dn (.st 0 0 (.ru 2 (.nm (KC Tryz.f46 54) [(0, PP JB), (3, PP B), (5, PP B1)] ((B1, .cells #[IV en, IV 0] 139) :: (B, .cells #[.string i0, .string i1] 87) :: (JB, .cells (jClean0A2 gen fp fl fc en D sz br) 86) :: F) (.dD (.ph 11 [0,1,2,3,4,5,6,7,8,9] [10] [(B1, .cells #[IV en, IV 0] 139), (B, .cells #[.string i0, .string i1] 87), (JB, .cells (jClean0A2 gen fp fl fc en D sz br) 86)] (.pu (.pu (.pu (.ld 2 5 (.pu (.pu (.pu (.pu (.ld 2 5 (.pu (.dn (.new _ (fun B => PP B) (.cells #[IV 0, IV 0] 139) rfl (fun W => by kernel_rfl) (by kernel_rfl) (fun B2 => ?_))))))))))))))))))))))))))))))))))))))
 replace H := H B2
 refine .dn (.front (.nm [(0, PP JB), (3, PP B), (5, PP B1), (6, PP B2), (31, .agg #[IV 1, IV 0])] ((B2, .cells #[IV 0, IV 0] 139) :: (B1, .cells #[IV en, IV 0] 139) :: (B, .cells #[.string i0, .string i1] 87) :: (JB, .cells (jClean0A2 gen fp fl fc en D sz br) 86) :: F) (.tl (.st 0 0 (.ru 8 (.ld 3 0 (.ru 2 (.sP 37 H (fun H => ?_) fun H => ?_))))))))
 ·refine .ru 3 (.st 0 0 (.ru 10 (.ld 0 0 (.ru 19 (.nm (KC Tryz.f46 458034) [(0, PP JB), (3, PP B), (5, PP B1), (7, .slice none 0 0), (9, IV 0), (39, .agg #[IV 0, IV 1]), (40, IV 0)] ((B2, .cells #[IV 0, IV 1] 139) :: (B1, .cells #[IV en, IV 0] 139) :: (B, .cells #[.string i0, .string i1] 87) :: (JB, .cells (jClean0A2 gen fp fl fc en D sz br) 86) :: F) (.dr 8 (.pu (.pu (.ld 2 0 (.pu (.pu (.ld 1 0 (.sliceS (s := i0) (lo := some (IV en)) (hi := none) (a := en) (b := (i0.size : Int)) (by kernel_rfl) (.inl ⟨.i64, rfl⟩) (.inr ⟨rfl, rfl⟩) H.1 ?_)))))))))))))
  replace H := H.2
  refine .pu (.letS 10 (n := (i0.extract (Int.toNat en) i0.size)) (by kernel_rfl) (fun restv hrestv => ?_))
  replace H := H restv hrestv
  refine .dn (.ru 9 (.tT [3,2,1] 4 H))
 ·refine .ru 11 (.ld 0 0 (.ru 19 (.nm (KC Tryz.f46 458034) [(0, PP JB), (3, PP B), (5, PP B1), (7, .slice none 0 0), (9, IV 1), (39, .agg #[IV 1, IV 0]), (40, IV 0)] ((B2, .cells #[IV 1, IV 0] 139) :: (B1, .cells #[IV en, IV 0] 139) :: (B, .cells #[.string i0, .string i1] 87) :: (JB, .cells (jClean0A2 gen fp fl fc en D sz br) 86) :: F) (.dr 8 (.pu (.pu (.ld 2 1 (.pu (.pu (.ld 1 1 (.sliceS (s := i1) (lo := some (IV 0)) (hi := none) (a := (0 : Int)) (b := (i1.size : Int)) (by kernel_rfl) (.inl ⟨.i64, rfl⟩) (.inr ⟨rfl, rfl⟩) H.1 ?_)))))))))))
  replace H := H.2
  refine .pu (.letS 10 (n := (i1.extract (Int.toNat (0 : Int)) i1.size)) (by kernel_rfl) (fun restv2 hrestv2 => ?_))
  replace H := H restv2 hrestv2
  refine .dn (.ru 9 (.tT [3,2,1] 4 H))
abbrev jClean1H0 (B3 : Nat) (gen : Int) (fp : OA) (fl fc : Nat) (en : Int) (m3_b : Nat) (sz : Int) (m6 : Bool) (B4 : Nat) (m0 m1 : BA) (B5 : Nat) (F1 : SHeap) : SHeap := ((B3, .cells #[IV gen, .slice fp fl fc, IV en, PP m3_b, IV sz, IV 1, .bool m6] 86) :: (B4, .cells #[.string m0, .string m1] 87) :: (B5, .cells #[IV 0, IV en] 139) :: F1)
abbrev jClean1H1 (B7 : Nat) (gen : Int) (fp : OA) (fl fc : Nat) (en : Int) (m3_b1 : Nat) (sz : Int) (m61 : Bool) (B8 : Nat) (m01 m11 : BA) (B9 : Nat) (F4 : SHeap) : SHeap := ((B7, .cells #[IV gen, .slice fp fl fc, IV en, PP m3_b1, IV sz, IV 1, .bool m61] 86) :: (B8, .cells #[.string m01, .string m11] 87) :: (B9, .cells #[IV 0, IV en] 139) :: F4)
abbrev jClean1H2 (B3 : Nat) (gen : Int) (fp : OA) (fl fc : Nat) (en : Int) (m3_b : Nat) (sz : Int) (m6 : Bool) (B4 : Nat) (m0 m1 : BA) (B5 : Nat) : SHeap := [(B3, .cells #[IV gen, .slice fp fl fc, IV en, PP m3_b, IV sz, IV 1, .bool m6] 86), (B4, .cells #[.string m0, .string m1] 87), (B5, .cells #[IV 0, IV en] 139)]
abbrev jClean1H3 (B7 : Nat) (gen : Int) (fp : OA) (fl fc : Nat) (en : Int) (m3_b1 : Nat) (sz : Int) (m61 : Bool) (B8 : Nat) (m01 m11 : BA) (B9 : Nat) : SHeap := [(B7, .cells #[IV gen, .slice fp fl fc, IV en, PP m3_b1, IV sz, IV 1, .bool m61] 86), (B8, .cells #[.string m01, .string m11] 87), (B9, .cells #[IV 0, IV en] 139)]
abbrev jClean1A0 (gen : Int) (fp : OA) (fl fc : Nat) (en : Int) (m3_b1 : Nat) (sz : Int) (m61 : Bool) : Array Value := #[IV gen, .slice fp fl fc, IV en, PP m3_b1, IV sz, IV 1, .bool m61]
abbrev jClean1A1 (gen : Int) (fp : OA) (fl fc : Nat) (en : Int) (D : Nat) (sz : Int) (br : Bool) : Array Value := #[IV gen, .slice fp fl fc, IV en, PP D, IV sz, IV 1, .bool br]
abbrev jClean1A2 (kj ko ks : Nat) : Array Value := #[PP kj, PP ko, PP ks]
abbrev jClean1A3 (kj1 ko1 ks1 : Nat) : Array Value := #[PP kj1, PP ko1, PP ks1]
abbrev jClean1A4 (gen : Int) (fp : OA) (fl fc : Nat) (en : Int) (m3_b : Nat) (sz : Int) (m6 : Bool) : Array Value := #[IV gen, .slice fp fl fc, IV en, PP m3_b, IV sz, IV 1, .bool m6]
def jClean1_c0 (JB : Nat) (gen : Int) (fp : OA) (fl fc : Nat) (en : Int) (D : Nat) (sz : Int) (br : Bool) (B3 B4 B5 : Nat) (steps_p : OA) (steps_l steps_c : Nat) (restv1 : BA) (t51 t52 : Int) (m3_b : Nat) (m6 : Bool) (m0 m1 : BA) (F1 : SHeap) (S : List Nat) (w0 : World) (R : Ending → World → Prop) : Prop :=
 AtE TP 46 88 (KC Tryz.f46 3664284) [(0, PP B3), (3, PP B4), (5, PP B5), (7, .slice steps_p steps_l steps_c), (9, IV 0), (10, .string restv1), (39, .agg #[IV 0, IV 1]), (40, IV 0), (51, IV t51), (52, IV t52)] (jClean1H0 B3 gen fp fl fc en m3_b sz m6 B4 m0 m1 B5 F1) S w0 (nrm R)
def jClean1_c1 (JB : Nat) (gen : Int) (fp : OA) (fl fc : Nat) (en : Int) (D : Nat) (sz : Int) (br : Bool) (B7 B8 B9 : Nat) (steps1_p : OA) (steps1_l steps1_c : Nat) (restv4 : BA) (t511 t521 : Int) (m3_b1 : Nat) (m61 : Bool) (m01 m11 : BA) (F4 : SHeap) (S : List Nat) (w0 : World) (R : Ending → World → Prop) : Prop :=
 AtE TP 46 88 (KC Tryz.f46 3664284) [(0, PP B7), (3, PP B8), (5, PP B9), (7, .slice steps1_p steps1_l steps1_c), (9, IV 1), (10, .string restv4), (39, .agg #[IV 0, IV 1]), (40, IV 1), (51, IV t511), (52, IV t521)] (jClean1H1 B7 gen fp fl fc en m3_b1 sz m61 B8 m01 m11 B9 F4) S w0 (nrm R)
theorem jClean1_c0_vc (JB : Nat) (gen : Int) (fp : OA) (fl fc : Nat) (en : Int) (D : Nat) (sz : Int) (br : Bool) (B3 B4 B5 : Nat) (steps_p : OA) (steps_l steps_c : Nat) (restv1 : BA) (t51 t52 : Int) (m3_b : Nat) (m6 : Bool) (m0 m1 : BA) (F1 : SHeap)
 (H :
 Br (t52 < t51)
 ((0 ≤ t52 ∧ t52 < restv1.size) ∧
 Bn ((bat restv1 t52) = (0 : Int))
 (∃ (r1 : Int), (QCallB TP 44 ⟨[PP B3, IV 0]⟩ (jClean1H2 B3 gen fp fl fc en m3_b sz m6 B4 m0 m1 B5) S w0 (IV r1)) ∧
 ∃ (r21 : BA), (QCallB TP 70 ⟨[IV (restv1.size : Int)]⟩ (jClean1H2 B3 gen fp fl fc en m3_b sz m6 B4 m0 m1 B5) S w0 (.string r21)) ∧
 CallH TP 69 ⟨[PP B3, IV (IntKind.i64.wrap (r1 + (0 : Int))), .string r21]⟩ (jClean1H0 B3 gen fp fl fc en m3_b sz m6 B4 m0 m1 B5 F1) S w0 (fun v L' => ∃ (kj : Nat) (ko : Nat) (ks : Nat), ∃ F2, v = (.func (.func 110) #[] (jClean1A2 kj ko ks)) ∧ L' = ((B3, .cells (jClean1A4 gen fp fl fc en m3_b sz m6) 86) :: (B4, .cells #[.string m0, .string m1] 87) :: (B5, .cells #[IV 0, IV en] 139) :: F2) ∧
 ∀ B6 : Nat,
 AppN TP 1 92 92 (.slice steps_p steps_l steps_c) (1) [.func (.func 110) #[] (jClean1A2 kj ko ks)] ((B6, .cells #[.func (.func 110) #[] (jClean1A2 kj ko ks)] 53) :: (B3, .cells (jClean1A4 gen fp fl fc en m3_b sz m6) 86) :: (B4, .cells #[.string m0, .string m1] 87) :: (B5, .cells #[IV 0, IV en] 139) :: F2) S w0 (fun v L' => ∃ (ap : OA) (ac : Nat), ∃ F3, v = (.slice ap (steps_l + 1) ac) ∧ L' = ((B3, .cells (jClean1A4 gen fp fl fc en m3_b sz m6) 86) :: (B4, .cells #[.string m0, .string m1] 87) :: (B5, .cells #[IV 0, IV en] 139) :: F3) ∧
 (0 ≤ en ∧ en ≤ (m1.size : Int) ∧ (m1.size : Int) ≤ m1.size) ∧
 ∀ restv3 : BA, restv3 = (m1.extract (Int.toNat en) m1.size) →
 jClean1_c1 JB gen fp fl fc en D sz br B3 B4 B5 ap (steps_l + 1) ac restv3 (restv3.size : Int) (0 : Int) m3_b m6 m0 m1 F3 S w0 R)))
 (jClean1_c0 JB gen fp fl fc en D sz br B3 B4 B5 steps_p steps_l steps_c restv1 t51 (IntKind.i64.wrap (t52 + (1 : Int))) m3_b m6 m0 m1 F1 S w0 R))
 ((0 ≤ en ∧ en ≤ (m1.size : Int) ∧ (m1.size : Int) ≤ m1.size) ∧
 ∀ restv5 : BA, restv5 = (m1.extract (Int.toNat en) m1.size) →
 jClean1_c1 JB gen fp fl fc en D sz br B3 B4 B5 steps_p steps_l steps_c restv5 (restv5.size : Int) (0 : Int) m3_b m6 m0 m1 F1 S w0 R)) :
 jClean1_c0 JB gen fp fl fc en D sz br B3 B4 B5 steps_p steps_l steps_c restv1 t51 t52 m3_b m6 m0 m1 F1 S w0 R:= by
 unfold jClean1_c0
 refine .ru 5 (.sP 53 H (fun H => ?_) fun H => ?_)
 ·refine .ru 13 (.indexS (s := restv1) (kd := .i64) (i := t52) (by kernel_rfl) H.1 ?_)
  replace H := H.2
  refine .ru 2 (.sN 58 H (fun H => ?_) fun H => ?_)
  ·refine .ru 2 (.nm (KC Tryz.f46 938056908) [(0, PP B3), (3, PP B4), (5, PP B5), (7, .slice steps_p steps_l steps_c), (9, IV 0), (10, .string restv1), (39, .agg #[IV 0, IV 1]), (40, IV 0)] (jClean1H0 B3 gen fp fl fc en m3_b sz m6 B4 m0 m1 B5 F1) (.dD (.ph 14 [0,1,2,3,4,5,6,7,8,9,10,11] [12,13] (jClean1H2 B3 gen fp fl fc en m3_b sz m6 B4 m0 m1 B5) (.pu (.pu (.pu (.pu ?_)))))))
   obtain ⟨r1, hq, H⟩ := H
   refine .cl hq (.pu (.pu (.ld 2 0 (.pu (.pu (.pu ?_))))))
   obtain ⟨r21, hq, H⟩ := H
   refine .cl hq (.dn (.cl H ?_))
   rintro _ _ ⟨kj, ko, ks, F2, rfl, rfl, H⟩
   refine .new _ (fun B => .slice (SO B) 1 1) (.cells #[.func (.func 110) #[] (jClean1A2 kj ko ks)] 53) rfl (fun W => by kernel_rfl) (by kernel_rfl) (fun B6 => ?_)
   replace H := H B6
   refine .dn (.front (.nm [(0, PP B3), (3, PP B4), (5, PP B5), (39, .agg #[IV 0, IV 1]), (40, IV 0), (59, .slice steps_p steps_l steps_c), (72, .slice (SO B6) 1 1)] ((B6, .cells #[.func (.func 110) #[] (jClean1A2 kj ko ks)] 53) :: (B3, .cells (jClean1A4 gen fp fl fc en m3_b sz m6) 86) :: (B4, .cells #[.string m0, .string m1] 87) :: (B5, .cells #[IV 0, IV en] 139) :: F2) (.tl (.appendT (sz := 1) (T := 92) (U := 92) (s := .slice steps_p steps_l steps_c) (x := .slice (SO B6) 1 1) (1) [.func (.func 110) #[] (jClean1A2 kj ko ks)] (by kernel_rfl) (srcRow (E' := 53) (t := 53) (fz := (0, 0)) (c := [.func (.func 110) #[] (jClean1A2 kj ko ks)]) (by simp) (by kernel_rfl) (by simp) (by simp [Value.oneCell'])) H ?_))))
   rintro _ _ ⟨ap, ac, F3, rfl, rfl, H⟩
   refine .ru 23 (.nm (KC Tryz.f46 458034) [(0, PP B3), (3, PP B4), (5, PP B5), (7, .slice ap (steps_l + 1) ac), (9, IV 1), (39, .agg #[IV 0, IV 1]), (40, IV 1)] ((B3, .cells (jClean1A4 gen fp fl fc en m3_b sz m6) 86) :: (B4, .cells #[.string m0, .string m1] 87) :: (B5, .cells #[IV 0, IV en] 139) :: F3) (.dr 8 (.pu (.pu (.ld 1 1 (.pu (.pu (.ld 2 1 (.sliceS (s := m1) (lo := some (IV en)) (hi := none) (a := en) (b := (m1.size : Int)) (by kernel_rfl) (.inl ⟨.i64, rfl⟩) (.inr ⟨rfl, rfl⟩) H.1 ?_)))))))))
   replace H := H.2
   refine .pu (.letS 10 (n := (m1.extract (Int.toNat en) m1.size)) (by kernel_rfl) (fun restv3 hrestv3 => ?_))
   replace H := H restv3 hrestv3
   refine .dn (.ru 9 (.tT [0,1,2] 3 H))
  ·refine .ru 8 (.tT [0,1,2] 3 H)
 ·refine .ru 23 (.nm (KC Tryz.f46 458034) [(0, PP B3), (3, PP B4), (5, PP B5), (7, .slice steps_p steps_l steps_c), (9, IV 1), (39, .agg #[IV 0, IV 1]), (40, IV 1)] (jClean1H0 B3 gen fp fl fc en m3_b sz m6 B4 m0 m1 B5 F1) (.dr 8 (.pu (.pu (.ld 1 1 (.pu (.pu (.ld 2 1 (.sliceS (s := m1) (lo := some (IV en)) (hi := none) (a := en) (b := (m1.size : Int)) (by kernel_rfl) (.inl ⟨.i64, rfl⟩) (.inr ⟨rfl, rfl⟩) H.1 ?_)))))))))
  replace H := H.2
  refine .pu (.letS 10 (n := (m1.extract (Int.toNat en) m1.size)) (by kernel_rfl) (fun restv5 hrestv5 => ?_))
  replace H := H restv5 hrestv5
  refine .dn (.ru 9 (.tT [0,1,2] 3 H))
theorem jClean1_c1_vc (JB : Nat) (gen : Int) (fp : OA) (fl fc : Nat) (en : Int) (D : Nat) (sz : Int) (br : Bool) (B7 B8 B9 : Nat) (steps1_p : OA) (steps1_l steps1_c : Nat) (restv4 : BA) (t511 t521 : Int) (m3_b1 : Nat) (m61 : Bool) (m01 m11 : BA) (F4 : SHeap)
 (H :
 Br (t521 < t511)
 ((0 ≤ t521 ∧ t521 < restv4.size) ∧
 Bn ((bat restv4 t521) = (0 : Int))
 (∃ (r41 : Int), (QCallB TP 44 ⟨[PP B7, IV 1]⟩ (jClean1H3 B7 gen fp fl fc en m3_b1 sz m61 B8 m01 m11 B9) S w0 (IV r41)) ∧
 ∃ (r51 : BA), (QCallB TP 70 ⟨[IV (restv4.size : Int)]⟩ (jClean1H3 B7 gen fp fl fc en m3_b1 sz m61 B8 m01 m11 B9) S w0 (.string r51)) ∧
 CallH TP 69 ⟨[PP B7, IV (IntKind.i64.wrap (r41 + en)), .string r51]⟩ (jClean1H1 B7 gen fp fl fc en m3_b1 sz m61 B8 m01 m11 B9 F4) S w0 (fun v L' => ∃ (kj1 : Nat) (ko1 : Nat) (ks1 : Nat), ∃ F5, v = (.func (.func 110) #[] (jClean1A3 kj1 ko1 ks1)) ∧ L' = ((B7, .cells (jClean1A0 gen fp fl fc en m3_b1 sz m61) 86) :: (B8, .cells #[.string m01, .string m11] 87) :: (B9, .cells #[IV 0, IV en] 139) :: F5) ∧
 ∀ B10 : Nat,
 AppN TP 1 92 92 (.slice steps1_p steps1_l steps1_c) (1) [.func (.func 110) #[] (jClean1A3 kj1 ko1 ks1)] ((B10, .cells #[.func (.func 110) #[] (jClean1A3 kj1 ko1 ks1)] 53) :: (B7, .cells (jClean1A0 gen fp fl fc en m3_b1 sz m61) 86) :: (B8, .cells #[.string m01, .string m11] 87) :: (B9, .cells #[IV 0, IV en] 139) :: F5) S w0 (fun v L' => ∃ (ap1 : OA) (ac1 : Nat), ∃ F6, v = (.slice ap1 (steps1_l + 1) ac1) ∧ L' = ((B7, .cells (jClean1A0 gen fp fl fc en m3_b1 sz m61) 86) :: (B8, .cells #[.string m01, .string m11] 87) :: (B9, .cells #[IV 0, IV en] 139) :: F6) ∧
 Br ((0 : Int) < ((steps1_l + 1) : Int))
 (∀ B11 : Nat,
 AppN TP 1 92 92 (.slice ap1 (steps1_l + 1) ac1) (1) [.func (.func 68) #[PP m3_b1] #[]] ((B11, .cells #[.func (.func 68) #[PP m3_b1] #[]] 53) :: (B7, .cells (jClean1A0 gen fp fl fc en m3_b1 sz m61) 86) :: (B8, .cells #[.string m01, .string m11] 87) :: (B9, .cells #[IV 0, IV en] 139) :: F6) S w0 (fun v L' => ∃ (ap2 : OA) (ac2 : Nat), ∃ F7, v = (.slice ap2 ((steps1_l + 1) + 1) ac2) ∧ L' = ((B7, .cells (jClean1A0 gen fp fl fc en m3_b1 sz m61) 86) :: (B8, .cells #[.string m01, .string m11] 87) :: (B9, .cells #[IV 0, IV en] 139) :: F7) ∧
 Fin R ((B7, .cells (jClean1A0 gen fp fl fc en m3_b1 sz m61) 86) :: (B8, .cells #[.string m01, .string m11] 87) :: (B9, .cells #[IV 0, IV en] 139) :: F7) S w0 (.slice ap2 ((steps1_l + 1) + 1) ac2)))
 (Fin R ((B7, .cells (jClean1A0 gen fp fl fc en m3_b1 sz m61) 86) :: (B8, .cells #[.string m01, .string m11] 87) :: (B9, .cells #[IV 0, IV en] 139) :: F6) S w0 (.slice ap1 (steps1_l + 1) ac1)))))
 (jClean1_c1 JB gen fp fl fc en D sz br B7 B8 B9 steps1_p steps1_l steps1_c restv4 t511 (IntKind.i64.wrap (t521 + (1 : Int))) m3_b1 m61 m01 m11 F4 S w0 R))
 (Br ((0 : Int) < (steps1_l : Int))
 (∀ B12 : Nat,
 AppN TP 1 92 92 (.slice steps1_p steps1_l steps1_c) (1) [.func (.func 68) #[PP m3_b1] #[]] ((B12, .cells #[.func (.func 68) #[PP m3_b1] #[]] 53) :: (B7, .cells (jClean1A0 gen fp fl fc en m3_b1 sz m61) 86) :: (B8, .cells #[.string m01, .string m11] 87) :: (B9, .cells #[IV 0, IV en] 139) :: F4) S w0 (fun v L' => ∃ (ap3 : OA) (ac3 : Nat), ∃ F8, v = (.slice ap3 (steps1_l + 1) ac3) ∧ L' = ((B7, .cells (jClean1A0 gen fp fl fc en m3_b1 sz m61) 86) :: (B8, .cells #[.string m01, .string m11] 87) :: (B9, .cells #[IV 0, IV en] 139) :: F8) ∧
 Fin R ((B7, .cells (jClean1A0 gen fp fl fc en m3_b1 sz m61) 86) :: (B8, .cells #[.string m01, .string m11] 87) :: (B9, .cells #[IV 0, IV en] 139) :: F8) S w0 (.slice ap3 (steps1_l + 1) ac3)))
 (Fin R (jClean1H1 B7 gen fp fl fc en m3_b1 sz m61 B8 m01 m11 B9 F4) S w0 (.slice steps1_p steps1_l steps1_c)))) :
 jClean1_c1 JB gen fp fl fc en D sz br B7 B8 B9 steps1_p steps1_l steps1_c restv4 t511 t521 m3_b1 m61 m01 m11 F4 S w0 R:= by
 unfold jClean1_c1
 refine .ru 5 (.sP 53 H (fun H => ?_) fun H => ?_)
 ·refine .ru 13 (.indexS (s := restv4) (kd := .i64) (i := t521) (by kernel_rfl) H.1 ?_)
  replace H := H.2
  refine .ru 2 (.sN 58 H (fun H => ?_) fun H => ?_)
  ·refine .ru 2 (.nm (KC Tryz.f46 938056908) [(0, PP B7), (3, PP B8), (5, PP B9), (7, .slice steps1_p steps1_l steps1_c), (9, IV 1), (10, .string restv4), (39, .agg #[IV 0, IV 1]), (40, IV 1)] (jClean1H1 B7 gen fp fl fc en m3_b1 sz m61 B8 m01 m11 B9 F4) (.dD (.ph 14 [0,1,2,3,4,5,6,7,8,9,10,11] [12,13] (jClean1H3 B7 gen fp fl fc en m3_b1 sz m61 B8 m01 m11 B9) (.pu (.pu (.pu (.pu ?_)))))))
   obtain ⟨r41, hq, H⟩ := H
   refine .cl hq (.pu (.pu (.ld 2 1 (.pu (.pu (.pu ?_))))))
   obtain ⟨r51, hq, H⟩ := H
   refine .cl hq (.dn (.cl H ?_))
   rintro _ _ ⟨kj1, ko1, ks1, F5, rfl, rfl, H⟩
   refine .new _ (fun B => .slice (SO B) 1 1) (.cells #[.func (.func 110) #[] (jClean1A3 kj1 ko1 ks1)] 53) rfl (fun W => by kernel_rfl) (by kernel_rfl) (fun B10 => ?_)
   replace H := H B10
   refine .dn (.front (.nm [(0, PP B7), (3, PP B8), (5, PP B9), (39, .agg #[IV 0, IV 1]), (40, IV 1), (59, .slice steps1_p steps1_l steps1_c), (72, .slice (SO B10) 1 1)] ((B10, .cells #[.func (.func 110) #[] (jClean1A3 kj1 ko1 ks1)] 53) :: (B7, .cells (jClean1A0 gen fp fl fc en m3_b1 sz m61) 86) :: (B8, .cells #[.string m01, .string m11] 87) :: (B9, .cells #[IV 0, IV en] 139) :: F5) (.tl (.appendT (sz := 1) (T := 92) (U := 92) (s := .slice steps1_p steps1_l steps1_c) (x := .slice (SO B10) 1 1) (1) [.func (.func 110) #[] (jClean1A3 kj1 ko1 ks1)] (by kernel_rfl) (srcRow (E' := 53) (t := 53) (fz := (0, 0)) (c := [.func (.func 110) #[] (jClean1A3 kj1 ko1 ks1)]) (by simp) (by kernel_rfl) (by simp) (by simp [Value.oneCell'])) H ?_))))
   rintro _ _ ⟨ap1, ac1, F6, rfl, rfl, H⟩
   refine .ru 22 (.sP 78 H (fun H => ?_) fun H => ?_)
   ·refine .ru 6 (.ld 0 3 (.ru 1 (.nw (fun B => .slice (SO B) 1 1) (.cells #[.func (.func 68) #[PP m3_b1] #[]] 53) fun B11 => ?_)))
    replace H := H B11
    refine .front (.appendT (sz := 1) (T := 92) (U := 92) (s := .slice ap1 (steps1_l + 1) ac1) (x := .slice (SO B11) 1 1) (1) [.func (.func 68) #[PP m3_b1] #[]] (by kernel_rfl) (srcRow (E' := 53) (t := 53) (fz := (0, 0)) (c := [.func (.func 68) #[PP m3_b1] #[]]) (by simp) (by kernel_rfl) (by simp) (by simp [Value.oneCell'])) H ?_)
    rintro _ _ ⟨ap2, ac2, F7, rfl, rfl, H⟩
    refine .ru 7 (.rt Tryz.func46 H)
   ·refine .ru 7 (.rt Tryz.func46 H)
  ·refine .ru 8 (.tT [0,1,2] 3 H)
 ·refine .ru 22 (.sP 78 H (fun H => ?_) fun H => ?_)
  ·refine .ru 6 (.ld 0 3 (.ru 1 (.nw (fun B => .slice (SO B) 1 1) (.cells #[.func (.func 68) #[PP m3_b1] #[]] 53) fun B12 => ?_)))
   replace H := H B12
   refine .front (.appendT (sz := 1) (T := 92) (U := 92) (s := .slice steps1_p steps1_l steps1_c) (x := .slice (SO B12) 1 1) (1) [.func (.func 68) #[PP m3_b1] #[]] (by kernel_rfl) (srcRow (E' := 53) (t := 53) (fz := (0, 0)) (c := [.func (.func 68) #[PP m3_b1] #[]]) (by simp) (by kernel_rfl) (by simp) (by simp [Value.oneCell'])) H ?_)
   rintro _ _ ⟨ap3, ac3, F8, rfl, rfl, H⟩
   refine .ru 7 (.rt Tryz.func46 H)
  ·refine .ru 7 (.rt Tryz.func46 H)
theorem jClean1_vc (JB : Nat) (i0 i1 : BA) (gen : Int) (fp : OA) (fl fc : Nat) (en : Int) (D : Nat) (sz : Int) (br : Bool) (F : SHeap) (hm : Mem ((JB, .cells (jClean1A1 gen fp fl fc en D sz br) 86) :: F) S w0 W)
 (H :
 ∀ B B1 B2 : Nat,
 Br (gen = 0)
 ((0 ≤ (0 : Int) ∧ (0 : Int) ≤ (i0.size : Int) ∧ (i0.size : Int) ≤ i0.size) ∧
 ∀ restv : BA, restv = (i0.extract (Int.toNat (0 : Int)) i0.size) →
 jClean1_c0 JB gen fp fl fc en D sz br JB B B1 none 0 0 restv (restv.size : Int) (0 : Int) D br i0 i1 F S w0 R)
 ((0 ≤ (0 : Int) ∧ (0 : Int) ≤ (i0.size : Int) ∧ (i0.size : Int) ≤ i0.size) ∧
 ∀ restv2 : BA, restv2 = (i0.extract (Int.toNat (0 : Int)) i0.size) →
 jClean1_c0 JB gen fp fl fc en D sz br JB B B1 none 0 0 restv2 (restv2.size : Int) (0 : Int) D br i0 i1 F S w0 R)) :
 Calls TP 46 ⟨[PP JB, .agg #[.string i0, .string i1]]⟩ W R:= by
 refine AtE.cs 88 Tryz.func46 hm (.ru 2 (.nH (.cells #[.string i0, .string i1] 87) H fun B H => (.front (.ru 5 (.nH (.cells #[IV 0, IV 0] 139) H fun B1 H => (.front (.ru 2 (.nm (KC Tryz.f46 26) [(0, PP JB), (3, PP B), (5, PP B1)] ((B1, .cells #[IV 0, IV 0] 139) :: (B, .cells #[.string i0, .string i1] 87) :: (JB, .cells (jClean1A1 gen fp fl fc en D sz br) 86) :: F) (.dr 10 (.pu (.pu (.pu (.ld 2 5 (.pu (.pu (.pu (.pu (.ld 2 2 (.pu (.dn (.st 0 1 (.ru 2 (.nm (KC Tryz.f46 54) [(0, PP JB), (3, PP B), (5, PP B1)] ((B1, .cells #[IV 0, IV en] 139) :: (B, .cells #[.string i0, .string i1] 87) :: (JB, .cells (jClean1A1 gen fp fl fc en D sz br) 86) :: F) (.dD (.ph 11 [0,1,2,3,4,5,6,7,8,9] [10] [(B1, .cells #[IV 0, IV en] 139), (B, .cells #[.string i0, .string i1] 87), (JB, .cells (jClean1A1 gen fp fl fc en D sz br) 86)] (.pu (.pu (.pu (.ld 2 5 (.pu (.pu (.pu (.pu (.ld 2 5 (.pu (.dn (.new _ (fun B => PP B) (.cells #[IV 0, IV 0] 139) rfl (fun W => by kernel_rfl) (by kernel_rfl) (fun B2 => ?_))))))))))))))))))))))))))))))))))))))
 replace H := H B2
 refine .dn (.front (.nm [(0, PP JB), (3, PP B), (5, PP B1), (6, PP B2), (31, .agg #[IV 0, IV 1])] ((B2, .cells #[IV 0, IV 0] 139) :: (B1, .cells #[IV 0, IV en] 139) :: (B, .cells #[.string i0, .string i1] 87) :: (JB, .cells (jClean1A1 gen fp fl fc en D sz br) 86) :: F) (.tl (.st 0 0 (.ru 8 (.ld 3 0 (.ru 2 (.sP 37 H (fun H => ?_) fun H => ?_))))))))
 ·refine .ru 3 (.st 0 0 (.ru 10 (.ld 0 0 (.ru 19 (.nm (KC Tryz.f46 458034) [(0, PP JB), (3, PP B), (5, PP B1), (7, .slice none 0 0), (9, IV 0), (39, .agg #[IV 0, IV 1]), (40, IV 0)] ((B2, .cells #[IV 0, IV 1] 139) :: (B1, .cells #[IV 0, IV en] 139) :: (B, .cells #[.string i0, .string i1] 87) :: (JB, .cells (jClean1A1 gen fp fl fc en D sz br) 86) :: F) (.dr 8 (.pu (.pu (.ld 2 0 (.pu (.pu (.ld 1 0 (.sliceS (s := i0) (lo := some (IV 0)) (hi := none) (a := (0 : Int)) (b := (i0.size : Int)) (by kernel_rfl) (.inl ⟨.i64, rfl⟩) (.inr ⟨rfl, rfl⟩) H.1 ?_)))))))))))))
  replace H := H.2
  refine .pu (.letS 10 (n := (i0.extract (Int.toNat (0 : Int)) i0.size)) (by kernel_rfl) (fun restv hrestv => ?_))
  replace H := H restv hrestv
  refine .dn (.ru 9 (.tT [3,2,1] 4 H))
 ·refine .ru 11 (.ld 0 0 (.ru 19 (.nm (KC Tryz.f46 458034) [(0, PP JB), (3, PP B), (5, PP B1), (7, .slice none 0 0), (9, IV 0), (39, .agg #[IV 0, IV 1]), (40, IV 0)] ((B2, .cells #[IV 0, IV 1] 139) :: (B1, .cells #[IV 0, IV en] 139) :: (B, .cells #[.string i0, .string i1] 87) :: (JB, .cells (jClean1A1 gen fp fl fc en D sz br) 86) :: F) (.dr 8 (.pu (.pu (.ld 2 0 (.pu (.pu (.ld 1 0 (.sliceS (s := i0) (lo := some (IV 0)) (hi := none) (a := (0 : Int)) (b := (i0.size : Int)) (by kernel_rfl) (.inl ⟨.i64, rfl⟩) (.inr ⟨rfl, rfl⟩) H.1 ?_)))))))))))
  replace H := H.2
  refine .pu (.letS 10 (n := (i0.extract (Int.toNat (0 : Int)) i0.size)) (by kernel_rfl) (fun restv2 hrestv2 => ?_))
  replace H := H restv2 hrestv2
  refine .dn (.ru 9 (.tT [3,2,1] 4 H))
end Go.Eng
