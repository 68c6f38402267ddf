/- Verification conditions of the functions, written by a program of the prover, checked here. -/
import Derived.Test.YtgplckfjbdnedaaDoorEngInl

import Derived.Test.YtgplckfjbdnedaaDoorEngEq

import Derived.Test.YtgplckfjbdnedaaDoorChecked

namespace Go.Eng

open Go Go.RowKit Go.Proofs

set_option linter.unusedVariables false

set_option maxRecDepth 100000

def rPutInt_c0 (z : Int) (w0 : World) (R : Ending → World → Prop) : Prop :=
  AtE Tryd.prog 24 31 [.code (sub (Eng.body Tryd.f24) [1, 1, 1, 1, 0, 0, 0]), .inLoop (sub (Eng.body Tryd.f24) [1, 1, 1, 1, 0, 0, 0]), .inBlock 0, .code (sub (Eng.body Tryd.f24) [1, 1, 1, 1, 1])] [(4, .int .u64 z), (5, .slice none 0 0)] [] [] w0 (nrm R)

def rPutInt_c1 (B2 : Nat) (z2 : Int) (out_l : Nat) (out_c : Nat) (cs : List Value) (w0 : World) (R : Ending → World → Prop) : Prop :=
  AtE Tryd.prog 24 31 [.code (sub (Eng.body Tryd.f24) [1, 1, 1, 1, 0, 0, 0]), .inLoop (sub (Eng.body Tryd.f24) [1, 1, 1, 1, 0, 0, 0]), .inBlock 0, .code (sub (Eng.body Tryd.f24) [1, 1, 1, 1, 1])] [(4, .int .u64 z2), (5, .slice (some ⟨B2, 0, none⟩) out_l out_c)] [(B2, .cells ⟨cs⟩ 5)] [] w0 (nrm R)

theorem rPutInt_c0_vc (z : Int) {R : Ending → World → Prop} {w0 : World}
    (H :
      (((128 : Int) ≤ z) →
        ∀ B : Nat,
        ∀ (B1 cap : Nat) (r2 : List Value), 1 ≤ cap → (([.int .u8 (IntKind.u8.wrap (IntKind.u64.wrap ((z.tmod (128 : Int)) + (128 : Int))))] : List Value) ++ r2).length = cap * 1 →
        ∀ z1 : Int, z1 = (IntKind.u64.wrap (z.tdiv (128 : Int))) →
        rPutInt_c1 B1 z1 1 cap (([.int .u8 (IntKind.u8.wrap (IntKind.u64.wrap ((z.tmod (128 : Int)) + (128 : Int))))] : List Value) ++ r2) w0 R) ∧
       ((¬ ((128 : Int) ≤ z)) →
        ∀ B3 : Nat,
        ∀ (B4 cap1 : Nat) (r3 : List Value), 1 ≤ cap1 → (([.int .u8 (IntKind.u8.wrap z)] : List Value) ++ r3).length = cap1 * 1 →
        ∃ bs : List UInt8, ((((([.int .u8 (IntKind.u8.wrap z)] : List Value) ++ r3)).drop 0).take 1 = bytesL bs ∧ bs.length = 1) ∧
        ∀ t2 : ByteArray, t2 = ⟨bs.toArray⟩ →
        Fin R [(B3, .cells #[.int .u8 (IntKind.u8.wrap z)] 5), (B4, .cells ⟨(([.int .u8 (IntKind.u8.wrap z)] : List Value) ++ r3)⟩ 5)] [] w0 (.tuple #[.string t2, .int .i64 (0 : Int)]))) :
    rPutInt_c0 z w0 R := by
  unfold rPutInt_c0
  refine AtE.run 6 (fun W => by kernel_rfl) ?_
  refine AtE.splitP 15 (p := (128 : Int) ≤ z) (by kernel_rfl) (fun h3' => ?_) (fun h3' => ?_)
  · replace H := H.1 h3'
    refine AtE.run 10 (fun W => by kernel_rfl) ?_
    refine AtE.new (fun B => .slice (some ⟨B, 0, none⟩) 1 1) (.cells #[.int .u8 (IntKind.u8.wrap (IntKind.u64.wrap ((z.tmod (128 : Int)) + (128 : Int))))] 5) (fun W => by kernel_rfl) (by kernel_rfl) (fun B => ?_)
    replace H := H B
    refine AtE.appendN (T := 38) (E := 5) (z := .int .u8 (0 : Int)) (sz := 1) (bytes := 1) (a := ⟨B, 0, none⟩) (m := 1) (c := 1) ([.int .u8 (IntKind.u8.wrap (IntKind.u64.wrap ((z.tmod (128 : Int)) + (128 : Int))))] : List Value) (by kernel_rfl) (show Src _ _ _ _ ([.int .u8 (IntKind.u8.wrap (IntKind.u64.wrap ((z.tmod (128 : Int)) + (128 : Int))))] : List Value) from Src.own (j := 0) (o := 0) (n := 1) (c := ([.int .u8 (IntKind.u8.wrap (IntKind.u64.wrap ((z.tmod (128 : Int)) + (128 : Int))))] : List Value)) (by kernel_rfl)) (by simp) (by omega) (by omega) (fun B1 cap r2 h1 h2 => ?_)
    replace H := H B1 cap r2 h1 h2
    refine AtE.run 6 (fun W => by kernel_rfl) ?_
    refine AtE.letI 4 (kd := .u64) (n := (IntKind.u64.wrap (z.tdiv (128 : Int)))) (by kernel_rfl) (fun z1 hz1 => ?_)
    replace H := H z1 hz1
    refine AtE.run 3 (fun W => by kernel_rfl) ?_
    exact AtE.cut [1] H (by kernel_rfl)
  · replace H := H.2 h3'
    refine AtE.run 7 (fun W => by kernel_rfl) ?_
    refine AtE.new (fun B => .slice (some ⟨B, 0, none⟩) 1 1) (.cells #[.int .u8 (IntKind.u8.wrap z)] 5) (fun W => by kernel_rfl) (by kernel_rfl) (fun B3 => ?_)
    replace H := H B3
    refine AtE.appendN (T := 38) (E := 5) (z := .int .u8 (0 : Int)) (sz := 1) (bytes := 1) (a := ⟨B3, 0, none⟩) (m := 1) (c := 1) ([.int .u8 (IntKind.u8.wrap z)] : List Value) (by kernel_rfl) (show Src _ _ _ _ ([.int .u8 (IntKind.u8.wrap z)] : List Value) from Src.own (j := 0) (o := 0) (n := 1) (c := ([.int .u8 (IntKind.u8.wrap z)] : List Value)) (by kernel_rfl)) (by simp) (by omega) (by omega) (fun B4 cap1 r3 h1 h2 => ?_)
    replace H := H B4 cap1 r3 h1 h2
    obtain ⟨bs, hb, H⟩ := H
    refine AtE.toString 1 (E := 5) (o := 0) (len := 1) (cap := cap1) (c := (([.int .u8 (IntKind.u8.wrap z)] : List Value) ++ r3)) (l := bs) (by kernel_rfl) hb ?_
    refine AtE.run 1 (fun W => by kernel_rfl) ?_
    refine AtE.letS 2 (n := ⟨bs.toArray⟩) (by kernel_rfl) (fun t2 ht2 => ?_)
    replace H := H t2 ht2
    refine AtE.run 2 (fun W => by kernel_rfl) ?_
    exact AtE.ret Tryd.func24 (by kernel_rfl) H

theorem rPutInt_c1_vc (B2 : Nat) (z2 : Int) (out_l : Nat) (out_c : Nat) (cs : List Value) {R : Ending → World → Prop} {w0 : World}
    (H :
      (((128 : Int) ≤ z2) →
        ∀ B5 : Nat,
        (out_l ≤ out_c ∧ (cs).length = out_c * 1) ∧ ((out_l + 1) ≤ 9223372036854775807 ∧ (out_l + 1) * 1 ≤ 140737488355328) ∧
        ∀ (B6 cap2 : Nat) (r4 : List Value), (out_l + 1) ≤ cap2 → ((cs).take (out_l * 1) ++ ([.int .u8 (IntKind.u8.wrap (IntKind.u64.wrap ((z2.tmod (128 : Int)) + (128 : Int))))] : List Value) ++ r4).length = cap2 * 1 →
        ∀ z3 : Int, z3 = (IntKind.u64.wrap (z2.tdiv (128 : Int))) →
        rPutInt_c1 B6 z3 (out_l + 1) cap2 ((cs).take (out_l * 1) ++ ([.int .u8 (IntKind.u8.wrap (IntKind.u64.wrap ((z2.tmod (128 : Int)) + (128 : Int))))] : List Value) ++ r4) w0 R) ∧
       ((¬ ((128 : Int) ≤ z2)) →
        ∀ B7 : Nat,
        (out_l ≤ out_c ∧ (cs).length = out_c * 1) ∧ ((out_l + 1) ≤ 9223372036854775807 ∧ (out_l + 1) * 1 ≤ 140737488355328) ∧
        ∀ (B8 cap3 : Nat) (r5 : List Value), (out_l + 1) ≤ cap3 → ((cs).take (out_l * 1) ++ ([.int .u8 (IntKind.u8.wrap z2)] : List Value) ++ r5).length = cap3 * 1 →
        ∃ bs1 : List UInt8, (((((cs).take (out_l * 1) ++ ([.int .u8 (IntKind.u8.wrap z2)] : List Value) ++ r5)).drop 0).take (out_l + 1) = bytesL bs1 ∧ bs1.length = (out_l + 1)) ∧
        ∀ t21 : ByteArray, t21 = ⟨bs1.toArray⟩ →
        Fin R [(B7, .cells #[.int .u8 (IntKind.u8.wrap z2)] 5), (B8, .cells ⟨((cs).take (out_l * 1) ++ ([.int .u8 (IntKind.u8.wrap z2)] : List Value) ++ r5)⟩ 5)] [] w0 (.tuple #[.string t21, .int .i64 (0 : Int)]))) :
    rPutInt_c1 B2 z2 out_l out_c cs w0 R := by
  unfold rPutInt_c1
  refine AtE.run 6 (fun W => by kernel_rfl) ?_
  refine AtE.splitP 15 (p := (128 : Int) ≤ z2) (by kernel_rfl) (fun h4' => ?_) (fun h4' => ?_)
  · replace H := H.1 h4'
    refine AtE.run 10 (fun W => by kernel_rfl) ?_
    refine AtE.new (fun B => .slice (some ⟨B, 0, none⟩) 1 1) (.cells #[.int .u8 (IntKind.u8.wrap (IntKind.u64.wrap ((z2.tmod (128 : Int)) + (128 : Int))))] 5) (fun W => by kernel_rfl) (by kernel_rfl) (fun B5 => ?_)
    replace H := H B5
    refine AtE.appendO 0 (T := 38) (E := 5) (z := .int .u8 (0 : Int)) (sz := 1) (bytes := 1) (n := out_l) (cap := out_c) (a := ⟨B5, 0, none⟩) (m := 1) (c := 1) (cs := cs) ([.int .u8 (IntKind.u8.wrap (IntKind.u64.wrap ((z2.tmod (128 : Int)) + (128 : Int))))] : List Value) (by kernel_rfl) (show Src _ _ _ _ ([.int .u8 (IntKind.u8.wrap (IntKind.u64.wrap ((z2.tmod (128 : Int)) + (128 : Int))))] : List Value) from Src.own (j := 1) (o := 0) (n := 1) (c := ([.int .u8 (IntKind.u8.wrap (IntKind.u64.wrap ((z2.tmod (128 : Int)) + (128 : Int))))] : List Value)) (by kernel_rfl)) (by simp) (by simp [Value.oneCell']) H.1 H.2.1 (fun B6 cap2 r4 h1 h2 => ?_)
    replace H := H.2.2 B6 cap2 r4 h1 h2
    refine AtE.run 6 (fun W => by kernel_rfl) ?_
    refine AtE.letI 4 (kd := .u64) (n := (IntKind.u64.wrap (z2.tdiv (128 : Int)))) (by kernel_rfl) (fun z3 hz3 => ?_)
    replace H := H z3 hz3
    refine AtE.run 3 (fun W => by kernel_rfl) ?_
    exact AtE.cut [1] H (by kernel_rfl)
  · replace H := H.2 h4'
    refine AtE.run 7 (fun W => by kernel_rfl) ?_
    refine AtE.new (fun B => .slice (some ⟨B, 0, none⟩) 1 1) (.cells #[.int .u8 (IntKind.u8.wrap z2)] 5) (fun W => by kernel_rfl) (by kernel_rfl) (fun B7 => ?_)
    replace H := H B7
    refine AtE.appendO 0 (T := 38) (E := 5) (z := .int .u8 (0 : Int)) (sz := 1) (bytes := 1) (n := out_l) (cap := out_c) (a := ⟨B7, 0, none⟩) (m := 1) (c := 1) (cs := cs) ([.int .u8 (IntKind.u8.wrap z2)] : List Value) (by kernel_rfl) (show Src _ _ _ _ ([.int .u8 (IntKind.u8.wrap z2)] : List Value) from Src.own (j := 1) (o := 0) (n := 1) (c := ([.int .u8 (IntKind.u8.wrap z2)] : List Value)) (by kernel_rfl)) (by simp) (by simp [Value.oneCell']) H.1 H.2.1 (fun B8 cap3 r5 h1 h2 => ?_)
    replace H := H.2.2 B8 cap3 r5 h1 h2
    obtain ⟨bs1, hb, H⟩ := H
    refine AtE.toString 1 (E := 5) (o := 0) (len := (out_l + 1)) (cap := cap3) (c := ((cs).take (out_l * 1) ++ ([.int .u8 (IntKind.u8.wrap z2)] : List Value) ++ r5)) (l := bs1) (by kernel_rfl) hb ?_
    refine AtE.run 1 (fun W => by kernel_rfl) ?_
    refine AtE.letS 2 (n := ⟨bs1.toArray⟩) (by kernel_rfl) (fun t21 ht21 => ?_)
    replace H := H t21 ht21
    refine AtE.run 2 (fun W => by kernel_rfl) ?_
    exact AtE.ret Tryd.func24 (by kernel_rfl) H

theorem rPutInt_vc (n : Int) {R : Ending → World → Prop} {w0 W : World} (hm : Mem [] [] w0 W)
    (H :
      ((n < (-4611686018427387903 : Int)) →
        Fin R [] [] w0 (.tuple #[.string (⟨#[]⟩), .int .i64 (10 : Int)])) ∧
       ((¬ (n < (-4611686018427387903 : Int))) →
        (((4611686018427387903 : Int) < n) →
          Fin R [] [] w0 (.tuple #[.string (⟨#[]⟩), .int .i64 (10 : Int)])) ∧
         ((¬ ((4611686018427387903 : Int) < n)) →
          CallH Tryd.prog 35 ⟨[.int .i64 n]⟩ [] [] w0 (fun v L' => ∃ (r1 : Int), v = (.int .u64 r1) ∧ L' = [] ∧
            rPutInt_c0 r1 w0 R)))) :
    Calls Tryd.prog 24 ⟨[.int .i64 n]⟩ W R := by
  refine AtE.calls (nt := 31) Tryd.func24 (by kernel_rfl) hm ?_
  refine AtE.run 11 (fun W => by kernel_rfl) ?_
  refine AtE.splitP 8 (p := n < (-4611686018427387903 : Int)) (by kernel_rfl) (fun h1' => ?_) (fun h1' => ?_)
  · replace H := H.1 h1'
    refine AtE.run 10 (fun W => by kernel_rfl) ?_
    exact AtE.ret Tryd.func24 (by kernel_rfl) H
  · replace H := H.2 h1'
    refine AtE.run 4 (fun W => by kernel_rfl) ?_
    refine AtE.splitP 11 (p := (4611686018427387903 : Int) < n) (by kernel_rfl) (fun h2' => ?_) (fun h2' => ?_)
    · replace H := H.1 h2'
      refine AtE.run 6 (fun W => by kernel_rfl) ?_
      exact AtE.ret Tryd.func24 (by kernel_rfl) H
    · replace H := H.2 h2'
      refine AtE.run 5 (fun W => by kernel_rfl) ?_
      refine AtE.call 35 ⟨[.int .i64 n]⟩ (fun W => by kernel_rfl) (by kernel_rfl) H ?_
      clear H
      rintro _ _ ⟨r1, rfl, rfl, H⟩
      refine AtE.run 9 (fun W => by kernel_rfl) ?_
      exact AtE.cut [] H (by kernel_rfl)

def Sum_c0 (s1 : ByteArray) (register : Int) (i : Int) (w0 : World) (R : Ending → World → Prop) : Prop :=
  AtE Tryd.prog 19 34 [.code (sub (Eng.body Tryd.f19) [1, 1, 0, 1, 0, 0]), .inLoop (sub (Eng.body Tryd.f19) [1, 1, 0, 1, 0, 0]), .inBlock 0, .code (sub (Eng.body Tryd.f19) [1, 1, 1])] [(0, .string s1), (3, .int .u32 register), (4, .int .i64 i)] [] [] w0 (nrm R)

theorem Sum_c0_vc (s1 : ByteArray) (register : Int) (i : Int) {R : Ending → World → Prop} {w0 : World}
    (H :
      ((i < (s1.size : Int)) →
        (0 ≤ i ∧ i < s1.size) ∧
        ∀ register1 : Int, register1 = (ixor .u32 register (IntKind.u32.wrap (bat s1 i))) →
        (0 ≤ (register1.tmod (16 : Int)) ∧ (register1.tmod (16 : Int)) < 16) ∧
        ∃ (cw : List Value) (m1 : Int), blkW w0 0 = some cw ∧ cw[(Int.toNat (register1.tmod (16 : Int)))]? = some (.int .u32 m1) ∧
        ∀ register2 : Int, register2 = (ixor .u32 (register1.fdiv (2 ^ 4)) m1) →
        (0 ≤ (register2.tmod (16 : Int)) ∧ (register2.tmod (16 : Int)) < 16) ∧
        ∃ (cw1 : List Value) (m21 : Int), blkW w0 0 = some cw1 ∧ cw1[(Int.toNat (register2.tmod (16 : Int)))]? = some (.int .u32 m21) ∧
        ∀ register3 : Int, register3 = (ixor .u32 (register2.fdiv (2 ^ 4)) m21) →
        ∀ i1 : Int, i1 = (IntKind.i64.wrap (i + (1 : Int))) →
        Sum_c0 s1 register3 i1 w0 R) ∧
       ((¬ (i < (s1.size : Int))) →
        ∀ t2 : Int, t2 = (IntKind.i64.wrap (inot .u32 register)) →
        Fin R [] [] w0 (.int .i64 t2))) :
    Sum_c0 s1 register i w0 R := by
  unfold Sum_c0
  refine AtE.run 8 (fun W => by kernel_rfl) ?_
  refine AtE.splitP 8 (p := i < (s1.size : Int)) (by kernel_rfl) (fun h1' => ?_) (fun h1' => ?_)
  · replace H := H.1 h1'
    refine AtE.run 9 (fun W => by kernel_rfl) ?_
    refine AtE.indexS (s := s1) (kd := .i64) (i := i) (by kernel_rfl) H.1 ?_
    replace H := H.2
    refine AtE.run 3 (fun W => by kernel_rfl) ?_
    refine AtE.letI 3 (kd := .u32) (n := (ixor .u32 register (IntKind.u32.wrap (bat s1 i)))) (by kernel_rfl) (fun register1 hregister1 => ?_)
    replace H := H register1 hregister1
    refine AtE.run 7 (fun W => by kernel_rfl) ?_
    refine AtE.indexAddrA (E := 61) (n := 16) (b := 0) (o := 0) (sz := 1) (o' := (Int.toNat (register1.tmod (16 : Int)))) (kd := .u32) (i := (register1.tmod (16 : Int))) (by kernel_rfl) H.1 (by omega) ?_
    replace H := H.2
    obtain ⟨cw, m1, hw, hx, H⟩ := H
    refine AtE.loadW (b := 0) (off := (Int.toNat (register1.tmod (16 : Int)))) (T := 61) (v := .int .u32 m1) (by kernel_rfl) List.not_mem_nil hw (valAt_one hx (by kernel_rfl)) ?_
    refine AtE.run 2 (fun W => by kernel_rfl) ?_
    refine AtE.letI 3 (kd := .u32) (n := (ixor .u32 (register1.fdiv (2 ^ 4)) m1)) (by kernel_rfl) (fun register2 hregister2 => ?_)
    replace H := H register2 hregister2
    refine AtE.run 6 (fun W => by kernel_rfl) ?_
    refine AtE.indexAddrA (E := 61) (n := 16) (b := 0) (o := 0) (sz := 1) (o' := (Int.toNat (register2.tmod (16 : Int)))) (kd := .u32) (i := (register2.tmod (16 : Int))) (by kernel_rfl) H.1 (by omega) ?_
    replace H := H.2
    refine AtE.norm (k' := [.inRegion (regOps [.code (sub (Eng.body Tryd.f19) [1, 1, 0, 1, 0, 0, 1, 0, 0, 1, 1])]) [5, 6, 7], .inBlock 1, .code (sub (Eng.body Tryd.f19) [1, 1, 0, 1, 0, 0, 1, 1]), .inLoop (sub (Eng.body Tryd.f19) [1, 1, 0, 1, 0, 0]), .inBlock 0, .code (sub (Eng.body Tryd.f19) [1, 1, 1])]) (e' := [(0, .string s1), (4, .int .i64 i), (25, .int .u32 (register2.fdiv (2 ^ 4))), (28, .pointer (some ⟨0, (Int.toNat (register2.tmod (16 : Int))), none⟩))]) (L' := []) ?_ (by kernel_rfl)
    obtain ⟨cw1, m21, hw, hx, H⟩ := H
    refine AtE.loadW (b := 0) (off := (Int.toNat (register2.tmod (16 : Int)))) (T := 61) (v := .int .u32 m21) (by kernel_rfl) List.not_mem_nil hw (valAt_one hx (by kernel_rfl)) ?_
    refine AtE.run 2 (fun W => by kernel_rfl) ?_
    refine AtE.letI 3 (kd := .u32) (n := (ixor .u32 (register2.fdiv (2 ^ 4)) m21)) (by kernel_rfl) (fun register3 hregister3 => ?_)
    replace H := H register3 hregister3
    refine AtE.run 6 (fun W => by kernel_rfl) ?_
    refine AtE.letI 4 (kd := .i64) (n := (IntKind.i64.wrap (i + (1 : Int)))) (by kernel_rfl) (fun i1 hi1 => ?_)
    replace H := H i1 hi1
    refine AtE.run 2 (fun W => by kernel_rfl) ?_
    exact AtE.cut [] H (by kernel_rfl)
  · replace H := H.2 h1'
    refine AtE.run 8 (fun W => by kernel_rfl) ?_
    refine AtE.letI 2 (kd := .i64) (n := (IntKind.i64.wrap (inot .u32 register))) (by kernel_rfl) (fun t2 ht2 => ?_)
    replace H := H t2 ht2
    refine AtE.run 1 (fun W => by kernel_rfl) ?_
    exact AtE.ret Tryd.func19 (by kernel_rfl) H

theorem Sum_vc (s : ByteArray) {R : Ending → World → Prop} {w0 W : World} (hm : Mem [] [] w0 W)
    (H :
      Sum_c0 s (4294967295 : Int) (0 : Int) w0 R) :
    Calls Tryd.prog 19 ⟨[.string s]⟩ W R := by
  refine AtE.calls (nt := 34) Tryd.func19 (by kernel_rfl) hm ?_
  refine AtE.run 15 (fun W => by kernel_rfl) ?_
  exact AtE.cut [] H (by kernel_rfl)

def rSum_c0 (s1 : ByteArray) (r : Int) (i : Int) (w0 : World) (R : Ending → World → Prop) : Prop :=
  AtE Tryd.prog 25 34 [.code (sub (Eng.body Tryd.f25) [1, 1, 0, 1, 0, 0]), .inLoop (sub (Eng.body Tryd.f25) [1, 1, 0, 1, 0, 0]), .inBlock 0, .code (sub (Eng.body Tryd.f25) [1, 1, 1])] [(0, .string s1), (3, .int .u32 r), (4, .int .i64 i)] [] [] w0 (nrm R)

def rSum_c1 (s2 : ByteArray) (r2 : Int) (i1 : Int) (kv : Int) (w0 : World) (R : Ending → World → Prop) : Prop :=
  AtE Tryd.prog 25 34 [.code (sub (Eng.body Tryd.f25) [1, 1, 0, 1, 0, 0, 1, 0, 0, 1, 1, 0, 0]), .inLoop (sub (Eng.body Tryd.f25) [1, 1, 0, 1, 0, 0, 1, 0, 0, 1, 1, 0, 0]), .inBlock 2, .inBlock 1, .code (sub (Eng.body Tryd.f25) [1, 1, 0, 1, 0, 0, 1, 1]), .inLoop (sub (Eng.body Tryd.f25) [1, 1, 0, 1, 0, 0]), .inBlock 0, .code (sub (Eng.body Tryd.f25) [1, 1, 1])] [(0, .string s2), (3, .int .u32 r2), (4, .int .i64 i1), (5, .int .i64 kv)] [] [] w0 (nrm R)

theorem rSum_c0_vc (s1 : ByteArray) (r : Int) (i : Int) {R : Ending → World → Prop} {w0 : World}
    (H :
      ((i < (s1.size : Int)) →
        (0 ≤ i ∧ i < s1.size) ∧
        ∀ r1 : Int, r1 = (ixor .u32 r (IntKind.u32.wrap (bat s1 i))) →
        rSum_c1 s1 r1 i (0 : Int) w0 R) ∧
       ((¬ (i < (s1.size : Int))) →
        ∀ t2 : Int, t2 = (IntKind.i64.wrap (inot .u32 r)) →
        Fin R [] [] w0 (.int .i64 t2))) :
    rSum_c0 s1 r i w0 R := by
  unfold rSum_c0
  refine AtE.run 8 (fun W => by kernel_rfl) ?_
  refine AtE.splitP 10 (p := i < (s1.size : Int)) (by kernel_rfl) (fun h1' => ?_) (fun h1' => ?_)
  · replace H := H.1 h1'
    refine AtE.run 9 (fun W => by kernel_rfl) ?_
    refine AtE.indexS (s := s1) (kd := .i64) (i := i) (by kernel_rfl) H.1 ?_
    replace H := H.2
    refine AtE.run 3 (fun W => by kernel_rfl) ?_
    refine AtE.letI 3 (kd := .u32) (n := (ixor .u32 r (IntKind.u32.wrap (bat s1 i)))) (by kernel_rfl) (fun r1 hr1 => ?_)
    replace H := H r1 hr1
    refine AtE.run 7 (fun W => by kernel_rfl) ?_
    exact AtE.cut [] H (by kernel_rfl)
  · replace H := H.2 h1'
    refine AtE.run 8 (fun W => by kernel_rfl) ?_
    refine AtE.letI 2 (kd := .i64) (n := (IntKind.i64.wrap (inot .u32 r))) (by kernel_rfl) (fun t2 ht2 => ?_)
    replace H := H t2 ht2
    refine AtE.run 1 (fun W => by kernel_rfl) ?_
    exact AtE.ret Tryd.func25 (by kernel_rfl) H

theorem rSum_c1_vc (s2 : ByteArray) (r2 : Int) (i1 : Int) (kv : Int) {R : Ending → World → Prop} {w0 : World}
    (H :
      ((kv < (8 : Int)) →
        ∀ r3 : Int, r3 = (IntKind.u32.wrap (r2.tdiv (2 : Int))) →
        (((r2.tmod (2 : Int)) = (1 : Int)) →
          ∀ r4 : Int, r4 = (ixor .u32 r3 (2197175160 : Int)) →
          ∀ kv1 : Int, kv1 = (IntKind.i64.wrap (kv + (1 : Int))) →
          rSum_c1 s2 r4 i1 kv1 w0 R) ∧
         ((¬ ((r2.tmod (2 : Int)) = (1 : Int))) →
          ∀ kv2 : Int, kv2 = (IntKind.i64.wrap (kv + (1 : Int))) →
          rSum_c1 s2 r3 i1 kv2 w0 R)) ∧
       ((¬ (kv < (8 : Int))) →
        ∀ i2 : Int, i2 = (IntKind.i64.wrap (i1 + (1 : Int))) →
        rSum_c0 s2 r2 i2 w0 R)) :
    rSum_c1 s2 r2 i1 kv w0 R := by
  unfold rSum_c1
  refine AtE.run 6 (fun W => by kernel_rfl) ?_
  refine AtE.splitP 20 (p := kv < (8 : Int)) (by kernel_rfl) (fun h2' => ?_) (fun h2' => ?_)
  · replace H := H.1 h2'
    refine AtE.run 16 (fun W => by kernel_rfl) ?_
    refine AtE.letI 3 (kd := .u32) (n := (IntKind.u32.wrap (r2.tdiv (2 : Int)))) (by kernel_rfl) (fun r3 hr3 => ?_)
    replace H := H r3 hr3
    refine AtE.run 5 (fun W => by kernel_rfl) ?_
    refine AtE.splitP 28 (p := (r2.tmod (2 : Int)) = (1 : Int)) (by kernel_rfl) (fun h3' => ?_) (fun h3' => ?_)
    · replace H := H.1 h3'
      refine AtE.run 5 (fun W => by kernel_rfl) ?_
      refine AtE.letI 3 (kd := .u32) (n := (ixor .u32 r3 (2197175160 : Int))) (by kernel_rfl) (fun r4 hr4 => ?_)
      replace H := H r4 hr4
      refine AtE.run 6 (fun W => by kernel_rfl) ?_
      refine AtE.letI 5 (kd := .i64) (n := (IntKind.i64.wrap (kv + (1 : Int)))) (by kernel_rfl) (fun kv1 hkv1 => ?_)
      replace H := H kv1 hkv1
      refine AtE.run 2 (fun W => by kernel_rfl) ?_
      exact AtE.cut [] H (by kernel_rfl)
    · replace H := H.2 h3'
      refine AtE.run 7 (fun W => by kernel_rfl) ?_
      refine AtE.letI 5 (kd := .i64) (n := (IntKind.i64.wrap (kv + (1 : Int)))) (by kernel_rfl) (fun kv2 hkv2 => ?_)
      replace H := H kv2 hkv2
      refine AtE.run 2 (fun W => by kernel_rfl) ?_
      exact AtE.cut [] H (by kernel_rfl)
  · replace H := H.2 h2'
    refine AtE.run 7 (fun W => by kernel_rfl) ?_
    refine AtE.letI 4 (kd := .i64) (n := (IntKind.i64.wrap (i1 + (1 : Int)))) (by kernel_rfl) (fun i2 hi2 => ?_)
    replace H := H i2 hi2
    refine AtE.run 2 (fun W => by kernel_rfl) ?_
    exact AtE.cut [] H (by kernel_rfl)

theorem rSum_vc (s : ByteArray) {R : Ending → World → Prop} {w0 W : World} (hm : Mem [] [] w0 W)
    (H :
      rSum_c0 s (4294967295 : Int) (0 : Int) w0 R) :
    Calls Tryd.prog 25 ⟨[.string s]⟩ W R := by
  refine AtE.calls (nt := 34) Tryd.func25 (by kernel_rfl) hm ?_
  refine AtE.run 15 (fun W => by kernel_rfl) ?_
  exact AtE.cut [] H (by kernel_rfl)

end Go.Eng
