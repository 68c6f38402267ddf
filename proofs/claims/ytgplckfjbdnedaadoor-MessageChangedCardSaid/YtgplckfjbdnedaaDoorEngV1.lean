/- Verification conditions of the functions, written by a program of the prover, checked here. -/
import Derived.Test.YtgplckfjbdnedaaDoorEngInl

import Derived.Test.YtgplckfjbdnedaaDoorEngEq

import Derived.Test.YtgplckfjbdnedaaDoorChecked

namespace Go.Eng

open Go Go.RowKit Go.Proofs

set_option linter.unusedVariables false

set_option maxRecDepth 100000

theorem String_vc (s : ByteArray) (atv : Int) {R : Ending → World → Prop} {w0 W : World} (hm : Mem [] [] w0 W)
    (H :
      CallH Tryd.prog 20 ⟨[.string s, .int .i64 atv]⟩ [] [] w0 (fun v L' => ∃ (r1 : Int) (r21 : Int) (r31 : Int), v = (.tuple #[.int .i64 r1, .int .i64 r21, .int .i64 r31]) ∧ L' = [] ∧
        ((¬ (r31 = (0 : Int))) →
          Fin R [] [] w0 (.tuple #[.string (⟨#[]⟩), .int .i64 (0 : Int), .int .i64 r31])) ∧
         ((r31 = (0 : Int)) →
          ((r1 < (0 : Int)) →
            Fin R [] [] w0 (.tuple #[.string (⟨#[]⟩), .int .i64 (0 : Int), .int .i64 (10 : Int)])) ∧
           ((¬ (r1 < (0 : Int))) →
            (((65536 : Int) < r1) →
              Fin R [] [] w0 (.tuple #[.string (⟨#[]⟩), .int .i64 (0 : Int), .int .i64 (10 : Int)])) ∧
             ((¬ ((65536 : Int) < r1)) →
              (((IntKind.i64.wrap ((s.size : Int) - r21)) < r1) →
                Fin R [] [] w0 (.tuple #[.string (⟨#[]⟩), .int .i64 (0 : Int), .int .i64 (10 : Int)])) ∧
               ((¬ ((IntKind.i64.wrap ((s.size : Int) - r21)) < r1)) →
                (0 ≤ r21 ∧ r21 ≤ (IntKind.i64.wrap (r21 + r1)) ∧ (IntKind.i64.wrap (r21 + r1)) ≤ s.size) ∧
                ∀ t4 : ByteArray, t4 = (s.extract (Int.toNat r21) (Int.toNat (IntKind.i64.wrap (r21 + r1)))) →
                ∀ t5 : Int, t5 = (IntKind.i64.wrap (r21 + r1)) →
                Fin R [] [] w0 (.tuple #[.string t4, .int .i64 t5, .int .i64 (0 : Int)]))))))) :
    Calls Tryd.prog 30 ⟨[.string s, .int .i64 atv]⟩ W R := by
  refine AtE.calls (nt := 43) Tryd.func30 (by kernel_rfl) hm ?_
  refine AtE.run 10 (fun W => by kernel_rfl) ?_
  refine AtE.call 20 ⟨[.string s, .int .i64 atv]⟩ (fun W => by kernel_rfl) (by kernel_rfl) H ?_
  clear H
  rintro _ _ ⟨r1, r21, r31, rfl, rfl, H⟩
  refine AtE.run 14 (fun W => by kernel_rfl) ?_
  refine AtE.splitN 18 (p := r31 = (0 : Int)) (by kernel_rfl) (fun h1' => ?_) (fun h1' => ?_)
  · replace H := H.1 h1'
    refine AtE.run 8 (fun W => by kernel_rfl) ?_
    exact AtE.ret Tryd.func30 (by kernel_rfl) H
  · replace H := H.2 h1'
    refine AtE.run 8 (fun W => by kernel_rfl) ?_
    refine AtE.splitP 22 (p := r1 < (0 : Int)) (by kernel_rfl) (fun h2' => ?_) (fun h2' => ?_)
    · replace H := H.1 h2'
      refine AtE.run 19 (fun W => by kernel_rfl) ?_
      exact AtE.ret Tryd.func30 (by kernel_rfl) H
    · replace H := H.2 h2'
      refine AtE.run 4 (fun W => by kernel_rfl) ?_
      refine AtE.splitP 26 (p := (65536 : Int) < r1) (by kernel_rfl) (fun h3' => ?_) (fun h3' => ?_)
      · replace H := H.1 h3'
        refine AtE.run 15 (fun W => by kernel_rfl) ?_
        exact AtE.ret Tryd.func30 (by kernel_rfl) H
      · replace H := H.2 h3'
        refine AtE.run 8 (fun W => by kernel_rfl) ?_
        refine AtE.splitP 33 (p := (IntKind.i64.wrap ((s.size : Int) - r21)) < r1) (by kernel_rfl) (fun h4' => ?_) (fun h4' => ?_)
        · replace H := H.1 h4'
          refine AtE.run 7 (fun W => by kernel_rfl) ?_
          exact AtE.ret Tryd.func30 (by kernel_rfl) H
        · replace H := H.2 h4'
          refine AtE.run 9 (fun W => by kernel_rfl) ?_
          refine AtE.sliceS (s := s) (lo := some (.int .i64 r21)) (hi := some (.int .i64 (IntKind.i64.wrap (r21 + r1)))) (a := r21) (b := (IntKind.i64.wrap (r21 + r1))) (by kernel_rfl) (.inl ⟨.i64, rfl⟩) (.inl ⟨.i64, rfl⟩) H.1 ?_
          replace H := H.2
          refine AtE.run 4 (fun W => by kernel_rfl) ?_
          refine AtE.letS 4 (n := (s.extract (Int.toNat r21) (Int.toNat (IntKind.i64.wrap (r21 + r1))))) (by kernel_rfl) (fun t4 ht4 => ?_)
          replace H := H t4 ht4
          refine AtE.norm (k' := [.inRegion (regOps [.code (sub (Eng.body Tryd.f30) [1, 1, 1, 1, 0])]) [10, 11], .code (sub (Eng.body Tryd.f30) [1, 1, 1, 1, 1])]) (e' := [(4, .string t4), (42, .int .i64 (IntKind.i64.wrap (r21 + r1)))]) (L' := []) ?_ (by kernel_rfl)
          refine AtE.run 1 (fun W => by kernel_rfl) ?_
          refine AtE.letI 5 (kd := .i64) (n := (IntKind.i64.wrap (r21 + r1))) (by kernel_rfl) (fun t5 ht5 => ?_)
          replace H := H t5 ht5
          refine AtE.run 2 (fun W => by kernel_rfl) ?_
          exact AtE.ret Tryd.func30 (by kernel_rfl) H

def Int_c0 (s1 : ByteArray) (atv1 : Int) (z : Int) (shift : Int) (w0 : World) (R : Ending → World → Prop) : Prop :=
  AtE Tryd.prog 20 62 [.code (sub (Eng.body Tryd.f20) [1, 1, 1, 0, 1, 0, 0]), .inLoop (sub (Eng.body Tryd.f20) [1, 1, 1, 0, 1, 0, 0]), .inBlock 0, .code (sub (Eng.body Tryd.f20) [1, 1, 1, 1])] [(0, .string s1), (1, .int .i64 atv1), (7, .int .u64 z), (8, .int .i64 shift)] [] [] w0 (nrm R)

theorem Int_c0_vc (s1 : ByteArray) (atv1 : Int) (z : Int) (shift : Int) {R : Ending → World → Prop} {w0 : World}
    (H :
      ((shift < (63 : Int)) →
        ((atv1 = (s1.size : Int)) →
          Fin R [] [] w0 (.tuple #[.int .i64 (0 : Int), .int .i64 (0 : Int), .int .i64 (10 : Int)])) ∧
         ((¬ (atv1 = (s1.size : Int))) →
          (0 ≤ atv1 ∧ atv1 < s1.size) ∧
          ∀ b : Int, b = (bat s1 atv1) →
          ∀ atv2 : Int, atv2 = (IntKind.i64.wrap (atv1 + (1 : Int))) →
          (0 ≤ shift) ∧
          ∀ z1 : Int, z1 = (ior .u64 z (IntKind.u64.wrap ((IntKind.u64.wrap (b.tmod (128 : Int))) * 2 ^ (min (Int.toNat shift) 64)))) →
          (((128 : Int) ≤ b) →
            ∀ shift1 : Int, shift1 = (IntKind.i64.wrap (shift + (7 : Int))) →
            Int_c0 s1 atv2 z1 shift1 w0 R) ∧
           ((¬ ((128 : Int) ≤ b)) →
            ∀ n : Int, n = (IntKind.i64.wrap (IntKind.u64.wrap (z1.tdiv (2 : Int)))) →
            (((z1.tmod (2 : Int)) = (1 : Int)) →
              ∀ n1 : Int, n1 = (IntKind.i64.wrap ((IntKind.i64.wrap (0 - n)) - (1 : Int))) →
              ((b = (0 : Int)) →
                (((0 : Int) < shift) →
                  Fin R [] [] w0 (.tuple #[.int .i64 (0 : Int), .int .i64 (0 : Int), .int .i64 (10 : Int)])) ∧
                 ((¬ ((0 : Int) < shift)) →
                  ((n1 < (-4611686018427387903 : Int)) →
                    Fin R [] [] w0 (.tuple #[.int .i64 (0 : Int), .int .i64 (0 : Int), .int .i64 (10 : Int)])) ∧
                   ((¬ (n1 < (-4611686018427387903 : Int))) →
                    Fin R [] [] w0 (.tuple #[.int .i64 n1, .int .i64 atv2, .int .i64 (0 : Int)])))) ∧
               ((¬ (b = (0 : Int))) →
                ((n1 < (-4611686018427387903 : Int)) →
                  Fin R [] [] w0 (.tuple #[.int .i64 (0 : Int), .int .i64 (0 : Int), .int .i64 (10 : Int)])) ∧
                 ((¬ (n1 < (-4611686018427387903 : Int))) →
                  Fin R [] [] w0 (.tuple #[.int .i64 n1, .int .i64 atv2, .int .i64 (0 : Int)])))) ∧
             ((¬ ((z1.tmod (2 : Int)) = (1 : Int))) →
              ((b = (0 : Int)) →
                (((0 : Int) < shift) →
                  Fin R [] [] w0 (.tuple #[.int .i64 (0 : Int), .int .i64 (0 : Int), .int .i64 (10 : Int)])) ∧
                 ((¬ ((0 : Int) < shift)) →
                  ((n < (-4611686018427387903 : Int)) →
                    Fin R [] [] w0 (.tuple #[.int .i64 (0 : Int), .int .i64 (0 : Int), .int .i64 (10 : Int)])) ∧
                   ((¬ (n < (-4611686018427387903 : Int))) →
                    Fin R [] [] w0 (.tuple #[.int .i64 n, .int .i64 atv2, .int .i64 (0 : Int)])))) ∧
               ((¬ (b = (0 : Int))) →
                ((n < (-4611686018427387903 : Int)) →
                  Fin R [] [] w0 (.tuple #[.int .i64 (0 : Int), .int .i64 (0 : Int), .int .i64 (10 : Int)])) ∧
                 ((¬ (n < (-4611686018427387903 : Int))) →
                  Fin R [] [] w0 (.tuple #[.int .i64 n, .int .i64 atv2, .int .i64 (0 : Int)]))))))) ∧
       ((¬ (shift < (63 : Int))) →
        Fin R [] [] w0 (.tuple #[.int .i64 (0 : Int), .int .i64 (0 : Int), .int .i64 (10 : Int)]))) :
    Int_c0 s1 atv1 z shift w0 R := by
  unfold Int_c0
  refine AtE.run 6 (fun W => by kernel_rfl) ?_
  refine AtE.splitP 20 (p := shift < (63 : Int)) (by kernel_rfl) (fun h3' => ?_) (fun h3' => ?_)
  · replace H := H.1 h3'
    refine AtE.run 12 (fun W => by kernel_rfl) ?_
    refine AtE.splitP 26 (p := atv1 = (s1.size : Int)) (by kernel_rfl) (fun h4' => ?_) (fun h4' => ?_)
    · replace H := H.1 h4'
      refine AtE.run 7 (fun W => by kernel_rfl) ?_
      exact AtE.ret Tryd.func20 (by kernel_rfl) H
    · replace H := H.2 h4'
      refine AtE.run 6 (fun W => by kernel_rfl) ?_
      refine AtE.indexS (s := s1) (kd := .i64) (i := atv1) (by kernel_rfl) H.1 ?_
      replace H := H.2
      refine AtE.run 1 (fun W => by kernel_rfl) ?_
      refine AtE.letI 9 (kd := .u8) (n := (bat s1 atv1)) (by kernel_rfl) (fun b hb => ?_)
      replace H := H b hb
      refine AtE.run 6 (fun W => by kernel_rfl) ?_
      refine AtE.letI 1 (kd := .i64) (n := (IntKind.i64.wrap (atv1 + (1 : Int)))) (by kernel_rfl) (fun atv2 hatv2 => ?_)
      replace H := H atv2 hatv2
      refine AtE.run 8 (fun W => by kernel_rfl) ?_
      refine AtE.shl (kd := .u64) (kc := .i64) (x := (IntKind.u64.wrap (b.tmod (128 : Int)))) (y := shift) (by kernel_rfl) H.1 ?_
      replace H := H.2
      refine AtE.run 2 (fun W => by kernel_rfl) ?_
      refine AtE.letI 7 (kd := .u64) (n := (ior .u64 z (IntKind.u64.wrap ((IntKind.u64.wrap (b.tmod (128 : Int))) * 2 ^ (min (Int.toNat shift) 64))))) (by kernel_rfl) (fun z1 hz1 => ?_)
      replace H := H z1 hz1
      refine AtE.norm (k' := [.inRegion (regOps [.code (sub (Eng.body Tryd.f20) [1, 1, 1, 0, 1, 0, 0, 1, 0, 0, 1, 1, 1, 0])]) [], .code (sub (Eng.body Tryd.f20) [1, 1, 1, 0, 1, 0, 0, 1, 0, 0, 1, 1, 1, 1]), .inBlock 1, .code (sub (Eng.body Tryd.f20) [1, 1, 1, 0, 1, 0, 0, 1, 1]), .inLoop (sub (Eng.body Tryd.f20) [1, 1, 1, 0, 1, 0, 0]), .inBlock 0, .code (sub (Eng.body Tryd.f20) [1, 1, 1, 1])]) (e' := [(0, .string s1), (1, .int .i64 atv2), (7, .int .u64 z1), (8, .int .i64 shift), (9, .int .u8 b)]) (L' := []) ?_ (by kernel_rfl)
      refine AtE.run 7 (fun W => by kernel_rfl) ?_
      refine AtE.splitP 40 (p := (128 : Int) ≤ b) (by kernel_rfl) (fun h5' => ?_) (fun h5' => ?_)
      · replace H := H.1 h5'
        refine AtE.run 6 (fun W => by kernel_rfl) ?_
        refine AtE.letI 8 (kd := .i64) (n := (IntKind.i64.wrap (shift + (7 : Int)))) (by kernel_rfl) (fun shift1 hshift1 => ?_)
        replace H := H shift1 hshift1
        refine AtE.run 2 (fun W => by kernel_rfl) ?_
        exact AtE.cut [] H (by kernel_rfl)
      · replace H := H.2 h5'
        refine AtE.run 8 (fun W => by kernel_rfl) ?_
        refine AtE.letI 10 (kd := .i64) (n := (IntKind.i64.wrap (IntKind.u64.wrap (z1.tdiv (2 : Int))))) (by kernel_rfl) (fun n hn => ?_)
        replace H := H n hn
        refine AtE.run 8 (fun W => by kernel_rfl) ?_
        refine AtE.splitP 46 (p := (z1.tmod (2 : Int)) = (1 : Int)) (by kernel_rfl) (fun h6' => ?_) (fun h6' => ?_)
        · replace H := H.1 h6'
          refine AtE.run 6 (fun W => by kernel_rfl) ?_
          refine AtE.letI 10 (kd := .i64) (n := (IntKind.i64.wrap ((IntKind.i64.wrap (0 - n)) - (1 : Int)))) (by kernel_rfl) (fun n1 hn1 => ?_)
          replace H := H n1 hn1
          refine AtE.run 7 (fun W => by kernel_rfl) ?_
          refine AtE.splitP 52 (p := b = (0 : Int)) (by kernel_rfl) (fun h7' => ?_) (fun h7' => ?_)
          · replace H := H.1 h7'
            refine AtE.run 4 (fun W => by kernel_rfl) ?_
            refine AtE.splitP 56 (p := (0 : Int) < shift) (by kernel_rfl) (fun h8' => ?_) (fun h8' => ?_)
            · replace H := H.1 h8'
              refine AtE.run 11 (fun W => by kernel_rfl) ?_
              exact AtE.ret Tryd.func20 (by kernel_rfl) H
            · replace H := H.2 h8'
              refine AtE.run 4 (fun W => by kernel_rfl) ?_
              refine AtE.splitP 59 (p := n1 < (-4611686018427387903 : Int)) (by kernel_rfl) (fun h9' => ?_) (fun h9' => ?_)
              · replace H := H.1 h9'
                refine AtE.norm (k' := [.code (sub (Eng.body Tryd.f20) [1, 1, 1, 0, 1, 0, 0, 1, 0, 0, 1, 1, 1, 1, 1, 1, 1, 0, 1]), .code (sub (Eng.body Tryd.f20) [1, 1, 1, 0, 1, 0, 0, 1, 0, 0, 1, 1, 1, 1, 1, 1, 1, 1]), .inBlock 1, .code (sub (Eng.body Tryd.f20) [1, 1, 1, 0, 1, 0, 0, 1, 1]), .inLoop (sub (Eng.body Tryd.f20) [1, 1, 1, 0, 1, 0, 0]), .inBlock 0, .code (sub (Eng.body Tryd.f20) [1, 1, 1, 1])]) (e' := [(1, .int .i64 atv2), (10, .int .i64 n1), (59, .bool true)]) (L' := []) ?_ (by kernel_rfl)
                refine AtE.run 7 (fun W => by kernel_rfl) ?_
                exact AtE.ret Tryd.func20 (by kernel_rfl) H
              · replace H := H.2 h9'
                refine AtE.norm (k' := [.code (sub (Eng.body Tryd.f20) [1, 1, 1, 0, 1, 0, 0, 1, 0, 0, 1, 1, 1, 1, 1, 1, 1, 0, 1]), .code (sub (Eng.body Tryd.f20) [1, 1, 1, 0, 1, 0, 0, 1, 0, 0, 1, 1, 1, 1, 1, 1, 1, 1]), .inBlock 1, .code (sub (Eng.body Tryd.f20) [1, 1, 1, 0, 1, 0, 0, 1, 1]), .inLoop (sub (Eng.body Tryd.f20) [1, 1, 1, 0, 1, 0, 0]), .inBlock 0, .code (sub (Eng.body Tryd.f20) [1, 1, 1, 1])]) (e' := [(1, .int .i64 atv2), (10, .int .i64 n1), (59, .bool false)]) (L' := []) ?_ (by kernel_rfl)
                refine AtE.run 10 (fun W => by kernel_rfl) ?_
                exact AtE.ret Tryd.func20 (by kernel_rfl) H
          · replace H := H.2 h7'
            refine AtE.run 8 (fun W => by kernel_rfl) ?_
            refine AtE.splitP 59 (p := n1 < (-4611686018427387903 : Int)) (by kernel_rfl) (fun h10' => ?_) (fun h10' => ?_)
            · replace H := H.1 h10'
              refine AtE.run 7 (fun W => by kernel_rfl) ?_
              exact AtE.ret Tryd.func20 (by kernel_rfl) H
            · replace H := H.2 h10'
              refine AtE.run 10 (fun W => by kernel_rfl) ?_
              exact AtE.ret Tryd.func20 (by kernel_rfl) H
        · replace H := H.2 h6'
          refine AtE.run 8 (fun W => by kernel_rfl) ?_
          refine AtE.splitP 52 (p := b = (0 : Int)) (by kernel_rfl) (fun h11' => ?_) (fun h11' => ?_)
          · replace H := H.1 h11'
            refine AtE.run 4 (fun W => by kernel_rfl) ?_
            refine AtE.splitP 56 (p := (0 : Int) < shift) (by kernel_rfl) (fun h12' => ?_) (fun h12' => ?_)
            · replace H := H.1 h12'
              refine AtE.run 11 (fun W => by kernel_rfl) ?_
              exact AtE.ret Tryd.func20 (by kernel_rfl) H
            · replace H := H.2 h12'
              refine AtE.run 4 (fun W => by kernel_rfl) ?_
              refine AtE.splitP 59 (p := n < (-4611686018427387903 : Int)) (by kernel_rfl) (fun h13' => ?_) (fun h13' => ?_)
              · replace H := H.1 h13'
                refine AtE.run 7 (fun W => by kernel_rfl) ?_
                exact AtE.ret Tryd.func20 (by kernel_rfl) H
              · replace H := H.2 h13'
                refine AtE.run 10 (fun W => by kernel_rfl) ?_
                exact AtE.ret Tryd.func20 (by kernel_rfl) H
          · replace H := H.2 h11'
            refine AtE.run 8 (fun W => by kernel_rfl) ?_
            refine AtE.splitP 59 (p := n < (-4611686018427387903 : Int)) (by kernel_rfl) (fun h14' => ?_) (fun h14' => ?_)
            · replace H := H.1 h14'
              refine AtE.run 7 (fun W => by kernel_rfl) ?_
              exact AtE.ret Tryd.func20 (by kernel_rfl) H
            · replace H := H.2 h14'
              refine AtE.run 10 (fun W => by kernel_rfl) ?_
              exact AtE.ret Tryd.func20 (by kernel_rfl) H
  · replace H := H.2 h3'
    refine AtE.run 8 (fun W => by kernel_rfl) ?_
    exact AtE.ret Tryd.func20 (by kernel_rfl) H

theorem Int_vc (s : ByteArray) (atv : Int) {R : Ending → World → Prop} {w0 W : World} (hm : Mem [] [] w0 W)
    (H :
      ((atv < (0 : Int)) →
        Fin R [] [] w0 (.tuple #[.int .i64 (0 : Int), .int .i64 (0 : Int), .int .i64 (2 : Int)])) ∧
       ((¬ (atv < (0 : Int))) →
        (((s.size : Int) < atv) →
          Fin R [] [] w0 (.tuple #[.int .i64 (0 : Int), .int .i64 (0 : Int), .int .i64 (2 : Int)])) ∧
         ((¬ ((s.size : Int) < atv)) →
          Int_c0 s atv (0 : Int) (0 : Int) w0 R))) :
    Calls Tryd.prog 20 ⟨[.string s, .int .i64 atv]⟩ W R := by
  refine AtE.calls (nt := 62) Tryd.func20 (by kernel_rfl) hm ?_
  refine AtE.run 12 (fun W => by kernel_rfl) ?_
  refine AtE.splitP 13 (p := atv < (0 : Int)) (by kernel_rfl) (fun h1' => ?_) (fun h1' => ?_)
  · replace H := H.1 h1'
    refine AtE.run 13 (fun W => by kernel_rfl) ?_
    exact AtE.ret Tryd.func20 (by kernel_rfl) H
  · replace H := H.2 h1'
    refine AtE.run 6 (fun W => by kernel_rfl) ?_
    refine AtE.splitP 18 (p := (s.size : Int) < atv) (by kernel_rfl) (fun h2' => ?_) (fun h2' => ?_)
    · replace H := H.1 h2'
      refine AtE.run 7 (fun W => by kernel_rfl) ?_
      exact AtE.ret Tryd.func20 (by kernel_rfl) H
    · replace H := H.2 h2'
      refine AtE.run 13 (fun W => by kernel_rfl) ?_
      exact AtE.cut [] H (by kernel_rfl)

theorem PutString_vc (s : ByteArray) {R : Ending → World → Prop} {w0 W : World} (hm : Mem [] [] w0 W)
    (H :
      (((65536 : Int) < (s.size : Int)) →
        Fin R [] [] w0 (.tuple #[.string (⟨#[]⟩), .int .i64 (10 : Int)])) ∧
       ((¬ ((65536 : Int) < (s.size : Int))) →
        CallH Tryd.prog 18 ⟨[.int .i64 (s.size : Int)]⟩ [] [] w0 (fun v L' => ∃ (r1 : ByteArray) (r21 : Int), v = (.tuple #[.string r1, .int .i64 r21]) ∧ L' = [] ∧
          ((¬ (r21 = (0 : Int))) →
            Fin R [] [] w0 (.tuple #[.string (⟨#[]⟩), .int .i64 r21])) ∧
           ((r21 = (0 : Int)) →
            (r1.size + s.size ≤ 9223372036854775807) ∧
            ∀ t2 : ByteArray, t2 = (r1 ++ s) →
            Fin R [] [] w0 (.tuple #[.string t2, .int .i64 (0 : Int)]))))) :
    Calls Tryd.prog 22 ⟨[.string s]⟩ W R := by
  refine AtE.calls (nt := 21) Tryd.func22 (by kernel_rfl) hm ?_
  refine AtE.run 12 (fun W => by kernel_rfl) ?_
  refine AtE.splitP 8 (p := (65536 : Int) < (s.size : Int)) (by kernel_rfl) (fun h1' => ?_) (fun h1' => ?_)
  · replace H := H.1 h1'
    refine AtE.run 6 (fun W => by kernel_rfl) ?_
    exact AtE.ret Tryd.func22 (by kernel_rfl) H
  · replace H := H.2 h1'
    refine AtE.run 6 (fun W => by kernel_rfl) ?_
    refine AtE.call 18 ⟨[.int .i64 (s.size : Int)]⟩ (fun W => by kernel_rfl) (by kernel_rfl) H ?_
    clear H
    rintro _ _ ⟨r1, r21, rfl, rfl, H⟩
    refine AtE.run 12 (fun W => by kernel_rfl) ?_
    refine AtE.splitN 16 (p := r21 = (0 : Int)) (by kernel_rfl) (fun h2' => ?_) (fun h2' => ?_)
    · replace H := H.1 h2'
      refine AtE.run 7 (fun W => by kernel_rfl) ?_
      exact AtE.ret Tryd.func22 (by kernel_rfl) H
    · replace H := H.2 h2'
      refine AtE.run 6 (fun W => by kernel_rfl) ?_
      refine AtE.concat (x := r1) (y := s) (by kernel_rfl) H.1 ?_
      replace H := H.2
      refine AtE.run 1 (fun W => by kernel_rfl) ?_
      refine AtE.letS 2 (n := (r1 ++ s)) (by kernel_rfl) (fun t2 ht2 => ?_)
      replace H := H t2 ht2
      refine AtE.run 2 (fun W => by kernel_rfl) ?_
      exact AtE.ret Tryd.func22 (by kernel_rfl) H

theorem pick_vc (cv : Int) (n : Int) {R : Ending → World → Prop} {w0 W : World} (hm : Mem [] [] w0 W)
    (H :
      ((cv < (0 : Int)) →
        ∀ cv1 : Int, cv1 = (IntKind.i64.wrap (0 - (IntKind.i64.wrap (cv + (1 : Int))))) →
        (n ≠ 0) ∧
        ∀ t4 : Int, t4 = (cv1.tmod n) →
        Fin R [] [] w0 (.int .i64 t4)) ∧
       ((¬ (cv < (0 : Int))) →
        (n ≠ 0) ∧
        ∀ t41 : Int, t41 = (cv.tmod n) →
        Fin R [] [] w0 (.int .i64 t41))) :
    Calls Tryd.prog 21 ⟨[.int .i64 cv, .int .i64 n]⟩ W R := by
  refine AtE.calls (nt := 13) Tryd.func21 (by kernel_rfl) hm ?_
  refine AtE.run 10 (fun W => by kernel_rfl) ?_
  refine AtE.splitP 6 (p := cv < (0 : Int)) (by kernel_rfl) (fun h1' => ?_) (fun h1' => ?_)
  · replace H := H.1 h1'
    refine AtE.run 6 (fun W => by kernel_rfl) ?_
    refine AtE.letI 0 (kd := .i64) (n := (IntKind.i64.wrap (0 - (IntKind.i64.wrap (cv + (1 : Int)))))) (by kernel_rfl) (fun cv1 hcv1 => ?_)
    replace H := H cv1 hcv1
    refine AtE.run 5 (fun W => by kernel_rfl) ?_
    refine AtE.rem (kd := .i64) (x := cv1) (y := n) (by kernel_rfl) H.1 ?_
    replace H := H.2
    refine AtE.run 1 (fun W => by kernel_rfl) ?_
    refine AtE.letI 4 (kd := .i64) (n := (cv1.tmod n)) (by kernel_rfl) (fun t4 ht4 => ?_)
    replace H := H t4 ht4
    refine AtE.run 1 (fun W => by kernel_rfl) ?_
    exact AtE.ret Tryd.func21 (by kernel_rfl) H
  · replace H := H.2 h1'
    refine AtE.run 6 (fun W => by kernel_rfl) ?_
    refine AtE.rem (kd := .i64) (x := cv) (y := n) (by kernel_rfl) H.1 ?_
    replace H := H.2
    refine AtE.run 1 (fun W => by kernel_rfl) ?_
    refine AtE.letI 4 (kd := .i64) (n := (cv.tmod n)) (by kernel_rfl) (fun t41 ht41 => ?_)
    replace H := H t41 ht41
    refine AtE.run 1 (fun W => by kernel_rfl) ?_
    exact AtE.ret Tryd.func21 (by kernel_rfl) H

theorem rString_vc (s : ByteArray) (atv : Int) {R : Ending → World → Prop} {w0 W : World} (hm : Mem [] [] w0 W)
    (H :
      CallH Tryd.prog 31 ⟨[.string s, .int .i64 atv]⟩ [] [] w0 (fun v L' => ∃ (r1 : Int) (r21 : Int) (r31 : Int), v = (.tuple #[.int .i64 r1, .int .i64 r21, .int .i64 r31]) ∧ L' = [] ∧
        ((¬ (r31 = (0 : Int))) →
          Fin R [] [] w0 (.tuple #[.string (⟨#[]⟩), .int .i64 (0 : Int), .int .i64 r31])) ∧
         ((r31 = (0 : Int)) →
          ((r1 < (0 : Int)) →
            Fin R [] [] w0 (.tuple #[.string (⟨#[]⟩), .int .i64 (0 : Int), .int .i64 (10 : Int)])) ∧
           ((¬ (r1 < (0 : Int))) →
            (((65536 : Int) < r1) →
              Fin R [] [] w0 (.tuple #[.string (⟨#[]⟩), .int .i64 (0 : Int), .int .i64 (10 : Int)])) ∧
             ((¬ ((65536 : Int) < r1)) →
              (((IntKind.i64.wrap ((s.size : Int) - r21)) < r1) →
                Fin R [] [] w0 (.tuple #[.string (⟨#[]⟩), .int .i64 (0 : Int), .int .i64 (10 : Int)])) ∧
               ((¬ ((IntKind.i64.wrap ((s.size : Int) - r21)) < r1)) →
                (0 ≤ r21 ∧ r21 ≤ (IntKind.i64.wrap (r21 + r1)) ∧ (IntKind.i64.wrap (r21 + r1)) ≤ s.size) ∧
                ∀ t4 : ByteArray, t4 = (s.extract (Int.toNat r21) (Int.toNat (IntKind.i64.wrap (r21 + r1)))) →
                ∀ t5 : Int, t5 = (IntKind.i64.wrap (r21 + r1)) →
                Fin R [] [] w0 (.tuple #[.string t4, .int .i64 t5, .int .i64 (0 : Int)]))))))) :
    Calls Tryd.prog 32 ⟨[.string s, .int .i64 atv]⟩ W R := by
  refine AtE.calls (nt := 43) Tryd.func32 (by kernel_rfl) hm ?_
  refine AtE.run 10 (fun W => by kernel_rfl) ?_
  refine AtE.call 31 ⟨[.string s, .int .i64 atv]⟩ (fun W => by kernel_rfl) (by kernel_rfl) H ?_
  clear H
  rintro _ _ ⟨r1, r21, r31, rfl, rfl, H⟩
  refine AtE.run 14 (fun W => by kernel_rfl) ?_
  refine AtE.splitN 18 (p := r31 = (0 : Int)) (by kernel_rfl) (fun h1' => ?_) (fun h1' => ?_)
  · replace H := H.1 h1'
    refine AtE.run 8 (fun W => by kernel_rfl) ?_
    exact AtE.ret Tryd.func32 (by kernel_rfl) H
  · replace H := H.2 h1'
    refine AtE.run 8 (fun W => by kernel_rfl) ?_
    refine AtE.splitP 22 (p := r1 < (0 : Int)) (by kernel_rfl) (fun h2' => ?_) (fun h2' => ?_)
    · replace H := H.1 h2'
      refine AtE.run 19 (fun W => by kernel_rfl) ?_
      exact AtE.ret Tryd.func32 (by kernel_rfl) H
    · replace H := H.2 h2'
      refine AtE.run 4 (fun W => by kernel_rfl) ?_
      refine AtE.splitP 26 (p := (65536 : Int) < r1) (by kernel_rfl) (fun h3' => ?_) (fun h3' => ?_)
      · replace H := H.1 h3'
        refine AtE.run 15 (fun W => by kernel_rfl) ?_
        exact AtE.ret Tryd.func32 (by kernel_rfl) H
      · replace H := H.2 h3'
        refine AtE.run 8 (fun W => by kernel_rfl) ?_
        refine AtE.splitP 33 (p := (IntKind.i64.wrap ((s.size : Int) - r21)) < r1) (by kernel_rfl) (fun h4' => ?_) (fun h4' => ?_)
        · replace H := H.1 h4'
          refine AtE.run 7 (fun W => by kernel_rfl) ?_
          exact AtE.ret Tryd.func32 (by kernel_rfl) H
        · replace H := H.2 h4'
          refine AtE.run 9 (fun W => by kernel_rfl) ?_
          refine AtE.sliceS (s := s) (lo := some (.int .i64 r21)) (hi := some (.int .i64 (IntKind.i64.wrap (r21 + r1)))) (a := r21) (b := (IntKind.i64.wrap (r21 + r1))) (by kernel_rfl) (.inl ⟨.i64, rfl⟩) (.inl ⟨.i64, rfl⟩) H.1 ?_
          replace H := H.2
          refine AtE.run 4 (fun W => by kernel_rfl) ?_
          refine AtE.letS 4 (n := (s.extract (Int.toNat r21) (Int.toNat (IntKind.i64.wrap (r21 + r1))))) (by kernel_rfl) (fun t4 ht4 => ?_)
          replace H := H t4 ht4
          refine AtE.norm (k' := [.inRegion (regOps [.code (sub (Eng.body Tryd.f32) [1, 1, 1, 1, 0])]) [10, 11], .code (sub (Eng.body Tryd.f32) [1, 1, 1, 1, 1])]) (e' := [(4, .string t4), (42, .int .i64 (IntKind.i64.wrap (r21 + r1)))]) (L' := []) ?_ (by kernel_rfl)
          refine AtE.run 1 (fun W => by kernel_rfl) ?_
          refine AtE.letI 5 (kd := .i64) (n := (IntKind.i64.wrap (r21 + r1))) (by kernel_rfl) (fun t5 ht5 => ?_)
          replace H := H t5 ht5
          refine AtE.run 2 (fun W => by kernel_rfl) ?_
          exact AtE.ret Tryd.func32 (by kernel_rfl) H

def rInt_c0 (s1 : ByteArray) (atv1 : Int) (z : Int) (i : Int) (w0 : World) (R : Ending → World → Prop) : Prop :=
  AtE Tryd.prog 31 80 [.code (sub (Eng.body Tryd.f31) [1, 1, 1, 0, 1, 0, 0]), .inLoop (sub (Eng.body Tryd.f31) [1, 1, 1, 0, 1, 0, 0]), .inBlock 0, .code (sub (Eng.body Tryd.f31) [1, 1, 1, 1])] [(0, .string s1), (1, .int .i64 atv1), (7, .int .u64 z), (8, .int .i64 i)] [] [] w0 (nrm R)

theorem rInt_c0_vc (s1 : ByteArray) (atv1 : Int) (z : Int) (i : Int) {R : Ending → World → Prop} {w0 : World}
    (H :
      ((i < (9 : Int)) →
        (((IntKind.i64.wrap (atv1 + i)) < (s1.size : Int)) →
          (0 ≤ (IntKind.i64.wrap (atv1 + i)) ∧ (IntKind.i64.wrap (atv1 + i)) < s1.size) ∧
          ∀ b : Int, b = (IntKind.u64.wrap (bat s1 (IntKind.i64.wrap (atv1 + i)))) →
          (0 ≤ (IntKind.i64.wrap ((7 : Int) * i))) ∧
          ∀ z1 : Int, z1 = (IntKind.u64.wrap (z + (IntKind.u64.wrap ((b.tmod (128 : Int)) * 2 ^ (min (Int.toNat (IntKind.i64.wrap ((7 : Int) * i))) 64))))) →
          (((128 : Int) ≤ b) →
            ∀ i1 : Int, i1 = (IntKind.i64.wrap (i + (1 : Int))) →
            rInt_c0 s1 atv1 z1 i1 w0 R) ∧
           ((¬ ((128 : Int) ≤ b)) →
            ∀ n : Int, n = (IntKind.i64.wrap (IntKind.u64.wrap (z1.tdiv (2 : Int)))) →
            (((z1.tmod (2 : Int)) = (1 : Int)) →
              ∀ n1 : Int, n1 = (IntKind.i64.wrap ((IntKind.i64.wrap (0 - n)) - (1 : Int))) →
              CallH Tryd.prog 24 ⟨[.int .i64 n1]⟩ [] [] w0 (fun v L' => ∃ (r1 : ByteArray) (r21 : Int), v = (.tuple #[.string r1, .int .i64 r21]) ∧ L' = [] ∧
                ((¬ (r21 = (0 : Int))) →
                  Fin R [] [] w0 (.tuple #[.int .i64 (0 : Int), .int .i64 (0 : Int), .int .i64 (10 : Int)])) ∧
                 ((r21 = (0 : Int)) →
                  (0 ≤ atv1 ∧ atv1 ≤ (IntKind.i64.wrap ((IntKind.i64.wrap (atv1 + i)) + (1 : Int))) ∧ (IntKind.i64.wrap ((IntKind.i64.wrap (atv1 + i)) + (1 : Int))) ≤ s1.size) ∧
                  ((¬ r1 = (s1.extract (Int.toNat atv1) (Int.toNat (IntKind.i64.wrap ((IntKind.i64.wrap (atv1 + i)) + (1 : Int)))))) →
                    Fin R [] [] w0 (.tuple #[.int .i64 (0 : Int), .int .i64 (0 : Int), .int .i64 (10 : Int)])) ∧
                   ((r1 = (s1.extract (Int.toNat atv1) (Int.toNat (IntKind.i64.wrap ((IntKind.i64.wrap (atv1 + i)) + (1 : Int)))))) →
                    ∀ t5 : Int, t5 = (IntKind.i64.wrap ((IntKind.i64.wrap (atv1 + i)) + (1 : Int))) →
                    Fin R [] [] w0 (.tuple #[.int .i64 n1, .int .i64 t5, .int .i64 (0 : Int)]))))) ∧
             ((¬ ((z1.tmod (2 : Int)) = (1 : Int))) →
              CallH Tryd.prog 24 ⟨[.int .i64 n]⟩ [] [] w0 (fun v L' => ∃ (r31 : ByteArray) (r41 : Int), v = (.tuple #[.string r31, .int .i64 r41]) ∧ L' = [] ∧
                ((¬ (r41 = (0 : Int))) →
                  Fin R [] [] w0 (.tuple #[.int .i64 (0 : Int), .int .i64 (0 : Int), .int .i64 (10 : Int)])) ∧
                 ((r41 = (0 : Int)) →
                  (0 ≤ atv1 ∧ atv1 ≤ (IntKind.i64.wrap ((IntKind.i64.wrap (atv1 + i)) + (1 : Int))) ∧ (IntKind.i64.wrap ((IntKind.i64.wrap (atv1 + i)) + (1 : Int))) ≤ s1.size) ∧
                  ((¬ r31 = (s1.extract (Int.toNat atv1) (Int.toNat (IntKind.i64.wrap ((IntKind.i64.wrap (atv1 + i)) + (1 : Int)))))) →
                    Fin R [] [] w0 (.tuple #[.int .i64 (0 : Int), .int .i64 (0 : Int), .int .i64 (10 : Int)])) ∧
                   ((r31 = (s1.extract (Int.toNat atv1) (Int.toNat (IntKind.i64.wrap ((IntKind.i64.wrap (atv1 + i)) + (1 : Int)))))) →
                    ∀ t51 : Int, t51 = (IntKind.i64.wrap ((IntKind.i64.wrap (atv1 + i)) + (1 : Int))) →
                    Fin R [] [] w0 (.tuple #[.int .i64 n, .int .i64 t51, .int .i64 (0 : Int)]))))))) ∧
         ((¬ ((IntKind.i64.wrap (atv1 + i)) < (s1.size : Int))) →
          Fin R [] [] w0 (.tuple #[.int .i64 (0 : Int), .int .i64 (0 : Int), .int .i64 (10 : Int)]))) ∧
       ((¬ (i < (9 : Int))) →
        Fin R [] [] w0 (.tuple #[.int .i64 (0 : Int), .int .i64 (0 : Int), .int .i64 (10 : Int)]))) :
    rInt_c0 s1 atv1 z i w0 R := by
  unfold rInt_c0
  refine AtE.run 6 (fun W => by kernel_rfl) ?_
  refine AtE.splitP 23 (p := i < (9 : Int)) (by kernel_rfl) (fun h3' => ?_) (fun h3' => ?_)
  · replace H := H.1 h3'
    refine AtE.run 8 (fun W => by kernel_rfl) ?_
    refine AtE.splitP 30 (p := (IntKind.i64.wrap (atv1 + i)) < (s1.size : Int)) (by kernel_rfl) (fun h4' => ?_) (fun h4' => ?_)
    · replace H := H.1 h4'
      refine AtE.run 10 (fun W => by kernel_rfl) ?_
      refine AtE.indexS (s := s1) (kd := .i64) (i := (IntKind.i64.wrap (atv1 + i))) (by kernel_rfl) H.1 ?_
      replace H := H.2
      refine AtE.run 2 (fun W => by kernel_rfl) ?_
      refine AtE.letI 9 (kd := .u64) (n := (IntKind.u64.wrap (bat s1 (IntKind.i64.wrap (atv1 + i))))) (by kernel_rfl) (fun b hb => ?_)
      replace H := H b hb
      refine AtE.run 8 (fun W => by kernel_rfl) ?_
      refine AtE.shl (kd := .u64) (kc := .i64) (x := (b.tmod (128 : Int))) (y := (IntKind.i64.wrap ((7 : Int) * i))) (by kernel_rfl) H.1 ?_
      replace H := H.2
      refine AtE.run 2 (fun W => by kernel_rfl) ?_
      refine AtE.letI 7 (kd := .u64) (n := (IntKind.u64.wrap (z + (IntKind.u64.wrap ((b.tmod (128 : Int)) * 2 ^ (min (Int.toNat (IntKind.i64.wrap ((7 : Int) * i))) 64)))))) (by kernel_rfl) (fun z1 hz1 => ?_)
      replace H := H z1 hz1
      refine AtE.run 7 (fun W => by kernel_rfl) ?_
      refine AtE.splitP 47 (p := (128 : Int) ≤ b) (by kernel_rfl) (fun h5' => ?_) (fun h5' => ?_)
      · replace H := H.1 h5'
        refine AtE.norm (k' := [.code (sub (Eng.body Tryd.f31) [1, 1, 1, 0, 1, 0, 0, 1, 0, 0, 1, 1, 0, 1]), .code (sub (Eng.body Tryd.f31) [1, 1, 1, 0, 1, 0, 0, 1, 0, 0, 1, 1, 1]), .inBlock 1, .code (sub (Eng.body Tryd.f31) [1, 1, 1, 0, 1, 0, 0, 1, 1]), .inLoop (sub (Eng.body Tryd.f31) [1, 1, 1, 0, 1, 0, 0]), .inBlock 0, .code (sub (Eng.body Tryd.f31) [1, 1, 1, 1])]) (e' := [(0, .string s1), (1, .int .i64 atv1), (7, .int .u64 z1), (8, .int .i64 i), (47, .bool true)]) (L' := []) ?_ (by kernel_rfl)
        refine AtE.run 6 (fun W => by kernel_rfl) ?_
        refine AtE.letI 8 (kd := .i64) (n := (IntKind.i64.wrap (i + (1 : Int)))) (by kernel_rfl) (fun i1 hi1 => ?_)
        replace H := H i1 hi1
        refine AtE.run 2 (fun W => by kernel_rfl) ?_
        exact AtE.cut [] H (by kernel_rfl)
      · replace H := H.2 h5'
        refine AtE.norm (k' := [.code (sub (Eng.body Tryd.f31) [1, 1, 1, 0, 1, 0, 0, 1, 0, 0, 1, 1, 0, 1]), .code (sub (Eng.body Tryd.f31) [1, 1, 1, 0, 1, 0, 0, 1, 0, 0, 1, 1, 1]), .inBlock 1, .code (sub (Eng.body Tryd.f31) [1, 1, 1, 0, 1, 0, 0, 1, 1]), .inLoop (sub (Eng.body Tryd.f31) [1, 1, 1, 0, 1, 0, 0]), .inBlock 0, .code (sub (Eng.body Tryd.f31) [1, 1, 1, 1])]) (e' := [(0, .string s1), (1, .int .i64 atv1), (7, .int .u64 z1), (8, .int .i64 i), (47, .bool false)]) (L' := []) ?_ (by kernel_rfl)
        refine AtE.run 8 (fun W => by kernel_rfl) ?_
        refine AtE.letI 10 (kd := .i64) (n := (IntKind.i64.wrap (IntKind.u64.wrap (z1.tdiv (2 : Int))))) (by kernel_rfl) (fun n hn => ?_)
        replace H := H n hn
        refine AtE.run 8 (fun W => by kernel_rfl) ?_
        refine AtE.splitP 53 (p := (z1.tmod (2 : Int)) = (1 : Int)) (by kernel_rfl) (fun h6' => ?_) (fun h6' => ?_)
        · replace H := H.1 h6'
          refine AtE.run 6 (fun W => by kernel_rfl) ?_
          refine AtE.letI 10 (kd := .i64) (n := (IntKind.i64.wrap ((IntKind.i64.wrap (0 - n)) - (1 : Int)))) (by kernel_rfl) (fun n1 hn1 => ?_)
          replace H := H n1 hn1
          refine AtE.run 4 (fun W => by kernel_rfl) ?_
          refine AtE.call 24 ⟨[.int .i64 n1]⟩ (fun W => by kernel_rfl) (by kernel_rfl) H ?_
          clear H
          rintro _ _ ⟨r1, r21, rfl, rfl, H⟩
          refine AtE.run 12 (fun W => by kernel_rfl) ?_
          refine AtE.splitN 64 (p := r21 = (0 : Int)) (by kernel_rfl) (fun h7' => ?_) (fun h7' => ?_)
          · replace H := H.1 h7'
            refine AtE.run 18 (fun W => by kernel_rfl) ?_
            exact AtE.ret Tryd.func31 (by kernel_rfl) H
          · replace H := H.2 h7'
            refine AtE.run 7 (fun W => by kernel_rfl) ?_
            refine AtE.sliceS (s := s1) (lo := some (.int .i64 atv1)) (hi := some (.int .i64 (IntKind.i64.wrap ((IntKind.i64.wrap (atv1 + i)) + (1 : Int))))) (a := atv1) (b := (IntKind.i64.wrap ((IntKind.i64.wrap (atv1 + i)) + (1 : Int)))) (by kernel_rfl) (.inl ⟨.i64, rfl⟩) (.inl ⟨.i64, rfl⟩) H.1 ?_
            replace H := H.2
            refine AtE.run 3 (fun W => by kernel_rfl) ?_
            refine AtE.splitT 74 (x := r1) (y := (s1.extract (Int.toNat atv1) (Int.toNat (IntKind.i64.wrap ((IntKind.i64.wrap (atv1 + i)) + (1 : Int)))))) (by kernel_rfl) (fun h8' => ?_) (fun h8' => ?_)
            · replace H := H.1 h8'
              refine AtE.norm (k' := [.code (sub (Eng.body Tryd.f31) [1, 1, 1, 0, 1, 0, 0, 1, 0, 0, 1, 1, 1, 1, 1, 1, 0, 1]), .code (sub (Eng.body Tryd.f31) [1, 1, 1, 0, 1, 0, 0, 1, 0, 0, 1, 1, 1, 1, 1, 1, 1]), .inBlock 1, .code (sub (Eng.body Tryd.f31) [1, 1, 1, 0, 1, 0, 0, 1, 1]), .inLoop (sub (Eng.body Tryd.f31) [1, 1, 1, 0, 1, 0, 0]), .inBlock 0, .code (sub (Eng.body Tryd.f31) [1, 1, 1, 1])]) (e' := [(1, .int .i64 atv1), (8, .int .i64 i), (10, .int .i64 n1), (74, .bool true)]) (L' := []) ?_ (by kernel_rfl)
              refine AtE.run 7 (fun W => by kernel_rfl) ?_
              exact AtE.ret Tryd.func31 (by kernel_rfl) H
            · replace H := H.2 h8'
              refine AtE.norm (k' := [.code (sub (Eng.body Tryd.f31) [1, 1, 1, 0, 1, 0, 0, 1, 0, 0, 1, 1, 1, 1, 1, 1, 0, 1]), .code (sub (Eng.body Tryd.f31) [1, 1, 1, 0, 1, 0, 0, 1, 0, 0, 1, 1, 1, 1, 1, 1, 1]), .inBlock 1, .code (sub (Eng.body Tryd.f31) [1, 1, 1, 0, 1, 0, 0, 1, 1]), .inLoop (sub (Eng.body Tryd.f31) [1, 1, 1, 0, 1, 0, 0]), .inBlock 0, .code (sub (Eng.body Tryd.f31) [1, 1, 1, 1])]) (e' := [(1, .int .i64 atv1), (8, .int .i64 i), (10, .int .i64 n1), (74, .bool false)]) (L' := []) ?_ (by kernel_rfl)
              refine AtE.run 11 (fun W => by kernel_rfl) ?_
              refine AtE.letI 5 (kd := .i64) (n := (IntKind.i64.wrap ((IntKind.i64.wrap (atv1 + i)) + (1 : Int)))) (by kernel_rfl) (fun t5 ht5 => ?_)
              replace H := H t5 ht5
              refine AtE.run 2 (fun W => by kernel_rfl) ?_
              exact AtE.ret Tryd.func31 (by kernel_rfl) H
        · replace H := H.2 h6'
          refine AtE.run 5 (fun W => by kernel_rfl) ?_
          refine AtE.call 24 ⟨[.int .i64 n]⟩ (fun W => by kernel_rfl) (by kernel_rfl) H ?_
          clear H
          rintro _ _ ⟨r31, r41, rfl, rfl, H⟩
          refine AtE.run 12 (fun W => by kernel_rfl) ?_
          refine AtE.splitN 64 (p := r41 = (0 : Int)) (by kernel_rfl) (fun h9' => ?_) (fun h9' => ?_)
          · replace H := H.1 h9'
            refine AtE.run 18 (fun W => by kernel_rfl) ?_
            exact AtE.ret Tryd.func31 (by kernel_rfl) H
          · replace H := H.2 h9'
            refine AtE.run 7 (fun W => by kernel_rfl) ?_
            refine AtE.sliceS (s := s1) (lo := some (.int .i64 atv1)) (hi := some (.int .i64 (IntKind.i64.wrap ((IntKind.i64.wrap (atv1 + i)) + (1 : Int))))) (a := atv1) (b := (IntKind.i64.wrap ((IntKind.i64.wrap (atv1 + i)) + (1 : Int)))) (by kernel_rfl) (.inl ⟨.i64, rfl⟩) (.inl ⟨.i64, rfl⟩) H.1 ?_
            replace H := H.2
            refine AtE.run 3 (fun W => by kernel_rfl) ?_
            refine AtE.splitT 74 (x := r31) (y := (s1.extract (Int.toNat atv1) (Int.toNat (IntKind.i64.wrap ((IntKind.i64.wrap (atv1 + i)) + (1 : Int)))))) (by kernel_rfl) (fun h10' => ?_) (fun h10' => ?_)
            · replace H := H.1 h10'
              refine AtE.run 7 (fun W => by kernel_rfl) ?_
              exact AtE.ret Tryd.func31 (by kernel_rfl) H
            · replace H := H.2 h10'
              refine AtE.run 11 (fun W => by kernel_rfl) ?_
              refine AtE.letI 5 (kd := .i64) (n := (IntKind.i64.wrap ((IntKind.i64.wrap (atv1 + i)) + (1 : Int)))) (by kernel_rfl) (fun t51 ht51 => ?_)
              replace H := H t51 ht51
              refine AtE.norm (k' := [.inRegion (regOps [.code (sub (Eng.body Tryd.f31) [1, 1, 1, 0, 1, 0, 0, 1, 0, 0, 1, 1, 1, 1, 1, 1, 1, 0])]) [7], .code (sub (Eng.body Tryd.f31) [1, 1, 1, 0, 1, 0, 0, 1, 0, 0, 1, 1, 1, 1, 1, 1, 1, 1]), .inBlock 1, .code (sub (Eng.body Tryd.f31) [1, 1, 1, 0, 1, 0, 0, 1, 1]), .inLoop (sub (Eng.body Tryd.f31) [1, 1, 1, 0, 1, 0, 0]), .inBlock 0, .code (sub (Eng.body Tryd.f31) [1, 1, 1, 1])]) (e' := [(4, .int .i64 n), (5, .int .i64 t51)]) (L' := []) ?_ (by kernel_rfl)
              refine AtE.run 2 (fun W => by kernel_rfl) ?_
              exact AtE.ret Tryd.func31 (by kernel_rfl) H
    · replace H := H.2 h4'
      refine AtE.run 8 (fun W => by kernel_rfl) ?_
      exact AtE.ret Tryd.func31 (by kernel_rfl) H
  · replace H := H.2 h3'
    refine AtE.run 16 (fun W => by kernel_rfl) ?_
    exact AtE.ret Tryd.func31 (by kernel_rfl) H

theorem rInt_vc (s : ByteArray) (atv : Int) {R : Ending → World → Prop} {w0 W : World} (hm : Mem [] [] w0 W)
    (H :
      ((atv < (0 : Int)) →
        Fin R [] [] w0 (.tuple #[.int .i64 (0 : Int), .int .i64 (0 : Int), .int .i64 (2 : Int)])) ∧
       ((¬ (atv < (0 : Int))) →
        (((s.size : Int) < atv) →
          Fin R [] [] w0 (.tuple #[.int .i64 (0 : Int), .int .i64 (0 : Int), .int .i64 (2 : Int)])) ∧
         ((¬ ((s.size : Int) < atv)) →
          rInt_c0 s atv (0 : Int) (0 : Int) w0 R))) :
    Calls Tryd.prog 31 ⟨[.string s, .int .i64 atv]⟩ W R := by
  refine AtE.calls (nt := 80) Tryd.func31 (by kernel_rfl) hm ?_
  refine AtE.run 12 (fun W => by kernel_rfl) ?_
  refine AtE.splitP 15 (p := atv < (0 : Int)) (by kernel_rfl) (fun h1' => ?_) (fun h1' => ?_)
  · replace H := H.1 h1'
    refine AtE.run 13 (fun W => by kernel_rfl) ?_
    exact AtE.ret Tryd.func31 (by kernel_rfl) H
  · replace H := H.2 h1'
    refine AtE.run 6 (fun W => by kernel_rfl) ?_
    refine AtE.splitP 20 (p := (s.size : Int) < atv) (by kernel_rfl) (fun h2' => ?_) (fun h2' => ?_)
    · replace H := H.1 h2'
      refine AtE.run 7 (fun W => by kernel_rfl) ?_
      exact AtE.ret Tryd.func31 (by kernel_rfl) H
    · replace H := H.2 h2'
      refine AtE.run 13 (fun W => by kernel_rfl) ?_
      exact AtE.cut [] H (by kernel_rfl)

theorem rPutString_vc (s : ByteArray) {R : Ending → World → Prop} {w0 W : World} (hm : Mem [] [] w0 W)
    (H :
      (((65536 : Int) < (s.size : Int)) →
        Fin R [] [] w0 (.tuple #[.string (⟨#[]⟩), .int .i64 (10 : Int)])) ∧
       ((¬ ((65536 : Int) < (s.size : Int))) →
        CallH Tryd.prog 24 ⟨[.int .i64 (s.size : Int)]⟩ [] [] w0 (fun v L' => ∃ (r1 : ByteArray) (r21 : Int), v = (.tuple #[.string r1, .int .i64 r21]) ∧ L' = [] ∧
          (r1.size + s.size ≤ 9223372036854775807) ∧
          ∀ t2 : ByteArray, t2 = (r1 ++ s) →
          Fin R [] [] w0 (.tuple #[.string t2, .int .i64 (0 : Int)])))) :
    Calls Tryd.prog 34 ⟨[.string s]⟩ W R := by
  refine AtE.calls (nt := 18) Tryd.func34 (by kernel_rfl) hm ?_
  refine AtE.run 12 (fun W => by kernel_rfl) ?_
  refine AtE.splitP 8 (p := (65536 : Int) < (s.size : Int)) (by kernel_rfl) (fun h1' => ?_) (fun h1' => ?_)
  · replace H := H.1 h1'
    refine AtE.run 6 (fun W => by kernel_rfl) ?_
    exact AtE.ret Tryd.func34 (by kernel_rfl) H
  · replace H := H.2 h1'
    refine AtE.run 6 (fun W => by kernel_rfl) ?_
    refine AtE.call 24 ⟨[.int .i64 (s.size : Int)]⟩ (fun W => by kernel_rfl) (by kernel_rfl) H ?_
    clear H
    rintro _ _ ⟨r1, r21, rfl, rfl, H⟩
    refine AtE.run 10 (fun W => by kernel_rfl) ?_
    refine AtE.concat (x := r1) (y := s) (by kernel_rfl) H.1 ?_
    replace H := H.2
    refine AtE.run 1 (fun W => by kernel_rfl) ?_
    refine AtE.letS 2 (n := (r1 ++ s)) (by kernel_rfl) (fun t2 ht2 => ?_)
    replace H := H t2 ht2
    refine AtE.run 2 (fun W => by kernel_rfl) ?_
    exact AtE.ret Tryd.func34 (by kernel_rfl) H

theorem rzigzag_vc (n : Int) {R : Ending → World → Prop} {w0 W : World} (hm : Mem [] [] w0 W)
    (H :
      ((n < (0 : Int)) →
        ∀ t2 : Int, t2 = (IntKind.u64.wrap ((IntKind.u64.wrap ((IntKind.u64.wrap (IntKind.i64.wrap (0 - n))) * (2 : Int))) - (1 : Int))) →
        Fin R [] [] w0 (.int .u64 t2)) ∧
       ((¬ (n < (0 : Int))) →
        ∀ t21 : Int, t21 = (IntKind.u64.wrap ((IntKind.u64.wrap n) * (2 : Int))) →
        Fin R [] [] w0 (.int .u64 t21))) :
    Calls Tryd.prog 35 ⟨[.int .i64 n]⟩ W R := by
  refine AtE.calls (nt := 13) Tryd.func35 (by kernel_rfl) hm ?_
  refine AtE.run 10 (fun W => by kernel_rfl) ?_
  refine AtE.splitP 4 (p := n < (0 : Int)) (by kernel_rfl) (fun h1' => ?_) (fun h1' => ?_)
  · replace H := H.1 h1'
    refine AtE.run 9 (fun W => by kernel_rfl) ?_
    refine AtE.letI 2 (kd := .u64) (n := (IntKind.u64.wrap ((IntKind.u64.wrap ((IntKind.u64.wrap (IntKind.i64.wrap (0 - n))) * (2 : Int))) - (1 : Int)))) (by kernel_rfl) (fun t2 ht2 => ?_)
    replace H := H t2 ht2
    refine AtE.run 1 (fun W => by kernel_rfl) ?_
    exact AtE.ret Tryd.func35 (by kernel_rfl) H
  · replace H := H.2 h1'
    refine AtE.run 8 (fun W => by kernel_rfl) ?_
    refine AtE.letI 2 (kd := .u64) (n := (IntKind.u64.wrap ((IntKind.u64.wrap n) * (2 : Int)))) (by kernel_rfl) (fun t21 ht21 => ?_)
    replace H := H t21 ht21
    refine AtE.run 1 (fun W => by kernel_rfl) ?_
    exact AtE.ret Tryd.func35 (by kernel_rfl) H

theorem groups_vc (z : Int) {R : Ending → World → Prop} {w0 W : World} (hm : Mem [] [] w0 W)
    (H :
      ∀ B : Nat,
      Fin R [(B, .cells #[.int .u64 z] 56)] [] w0 (.func (.func 40) #[] #[.pointer (some ⟨B, 0, none⟩)])) :
    Calls Tryd.prog 33 ⟨[.int .u64 z]⟩ W R := by
  refine AtE.calls (nt := 4) Tryd.func33 (by kernel_rfl) hm ?_
  refine AtE.run 2 (fun W => by kernel_rfl) ?_
  refine AtE.new (fun B => .pointer (some ⟨B, 0, none⟩)) (.cells #[.int .u64 z] 56) (fun W => by kernel_rfl) (by kernel_rfl) (fun B => ?_)
  replace H := H B
  refine AtE.run 7 (fun W => by kernel_rfl) ?_
  exact AtE.ret Tryd.func33 (by kernel_rfl) H

theorem PutInt_vc (n : Int) {R : Ending → World → Prop} {w0 W : World} (hm : Mem [] [] w0 W)
    (H :
      ((n < (-4611686018427387903 : Int)) →
        Fin R [] [] w0 (.tuple #[.string (⟨#[]⟩), .int .i64 (10 : Int)])) ∧
       ((¬ (n < (-4611686018427387903 : Int))) →
        (((4611686018427387903 : Int) < n) →
          Fin R [] [] w0 (.tuple #[.string (⟨#[]⟩), .int .i64 (10 : Int)])) ∧
         ((¬ ((4611686018427387903 : Int) < n)) →
          ∀ z : Int, z = (IntKind.u64.wrap ((2 : Int) * (IntKind.u64.wrap n))) →
          ((n < (0 : Int)) →
            ∀ z1 : Int, z1 = (IntKind.u64.wrap ((IntKind.u64.wrap ((2 : Int) * (IntKind.u64.wrap (IntKind.i64.wrap (0 - n))))) - (1 : Int))) →
            ∀ B : Nat,
            ∀ B1 : Nat,
            CallH Tryd.prog 33 ⟨[.int .u64 z1]⟩ [(B, .cells #[.int .u8 (0 : Int), .int .u8 (0 : Int), .int .u8 (0 : Int), .int .u8 (0 : Int), .int .u8 (0 : Int), .int .u8 (0 : Int), .int .u8 (0 : Int), .int .u8 (0 : Int), .int .u8 (0 : Int), .int .u8 (0 : Int)] 57), (B1, .cells #[.int .i64 (0 : Int)] 3)] [] w0 (fun v L' => ∃ (r1 : Value), v = (r1) ∧ L' = [(B, .cells #[.int .u8 (0 : Int), .int .u8 (0 : Int), .int .u8 (0 : Int), .int .u8 (0 : Int), .int .u8 (0 : Int), .int .u8 (0 : Int), .int .u8 (0 : Int), .int .u8 (0 : Int), .int .u8 (0 : Int), .int .u8 (0 : Int)] 57), (B1, .cells #[.int .i64 (0 : Int)] 3)] ∧
              False)) ∧
           ((¬ (n < (0 : Int))) →
            ∀ B2 : Nat,
            ∀ B3 : Nat,
            CallH Tryd.prog 33 ⟨[.int .u64 z]⟩ [(B2, .cells #[.int .u8 (0 : Int), .int .u8 (0 : Int), .int .u8 (0 : Int), .int .u8 (0 : Int), .int .u8 (0 : Int), .int .u8 (0 : Int), .int .u8 (0 : Int), .int .u8 (0 : Int), .int .u8 (0 : Int), .int .u8 (0 : Int)] 57), (B3, .cells #[.int .i64 (0 : Int)] 3)] [] w0 (fun v L' => ∃ (r21 : Value), v = (r21) ∧ L' = [(B2, .cells #[.int .u8 (0 : Int), .int .u8 (0 : Int), .int .u8 (0 : Int), .int .u8 (0 : Int), .int .u8 (0 : Int), .int .u8 (0 : Int), .int .u8 (0 : Int), .int .u8 (0 : Int), .int .u8 (0 : Int), .int .u8 (0 : Int)] 57), (B3, .cells #[.int .i64 (0 : Int)] 3)] ∧
              False))))) :
    Calls Tryd.prog 18 ⟨[.int .i64 n]⟩ W R := by
  refine AtE.calls (nt := 35) Tryd.func18 (by kernel_rfl) hm ?_
  refine AtE.run 11 (fun W => by kernel_rfl) ?_
  refine AtE.splitP 10 (p := n < (-4611686018427387903 : Int)) (by kernel_rfl) (fun h1' => ?_) (fun h1' => ?_)
  · replace H := H.1 h1'
    refine AtE.run 10 (fun W => by kernel_rfl) ?_
    exact AtE.ret Tryd.func18 (by kernel_rfl) H
  · replace H := H.2 h1'
    refine AtE.run 4 (fun W => by kernel_rfl) ?_
    refine AtE.splitP 13 (p := (4611686018427387903 : Int) < n) (by kernel_rfl) (fun h2' => ?_) (fun h2' => ?_)
    · replace H := H.1 h2'
      refine AtE.run 6 (fun W => by kernel_rfl) ?_
      exact AtE.ret Tryd.func18 (by kernel_rfl) H
    · replace H := H.2 h2'
      refine AtE.run 8 (fun W => by kernel_rfl) ?_
      refine AtE.letI 4 (kd := .u64) (n := (IntKind.u64.wrap ((2 : Int) * (IntKind.u64.wrap n)))) (by kernel_rfl) (fun z hz => ?_)
      replace H := H z hz
      refine AtE.run 7 (fun W => by kernel_rfl) ?_
      refine AtE.splitP 18 (p := n < (0 : Int)) (by kernel_rfl) (fun h3' => ?_) (fun h3' => ?_)
      · replace H := H.1 h3'
        refine AtE.run 8 (fun W => by kernel_rfl) ?_
        refine AtE.letI 4 (kd := .u64) (n := (IntKind.u64.wrap ((IntKind.u64.wrap ((2 : Int) * (IntKind.u64.wrap (IntKind.i64.wrap (0 - n))))) - (1 : Int)))) (by kernel_rfl) (fun z1 hz1 => ?_)
        replace H := H z1 hz1
        refine AtE.run 3 (fun W => by kernel_rfl) ?_
        refine AtE.new (fun B => .pointer (some ⟨B, 0, none⟩)) (.cells #[.int .u8 (0 : Int), .int .u8 (0 : Int), .int .u8 (0 : Int), .int .u8 (0 : Int), .int .u8 (0 : Int), .int .u8 (0 : Int), .int .u8 (0 : Int), .int .u8 (0 : Int), .int .u8 (0 : Int), .int .u8 (0 : Int)] 57) (fun W => by kernel_rfl) (by kernel_rfl) (fun B => ?_)
        replace H := H B
        refine AtE.run 3 (fun W => by kernel_rfl) ?_
        refine AtE.new (fun B => .pointer (some ⟨B, 0, none⟩)) (.cells #[.int .i64 (0 : Int)] 3) (fun W => by kernel_rfl) (by kernel_rfl) (fun B1 => ?_)
        replace H := H B1
        refine AtE.norm (k' := [.inRegion (regOps [.code (sub (Eng.body Tryd.f18) [1, 1, 1, 1, 1, 0])]) [1], .code (sub (Eng.body Tryd.f18) [1, 1, 1, 1, 1, 1])]) (e' := [(4, .int .u64 z1), (5, .pointer (some ⟨B, 0, none⟩)), (6, .pointer (some ⟨B1, 0, none⟩))]) (L' := [(B, .cells #[.int .u8 (0 : Int), .int .u8 (0 : Int), .int .u8 (0 : Int), .int .u8 (0 : Int), .int .u8 (0 : Int), .int .u8 (0 : Int), .int .u8 (0 : Int), .int .u8 (0 : Int), .int .u8 (0 : Int), .int .u8 (0 : Int)] 57), (B1, .cells #[.int .i64 (0 : Int)] 3)]) ?_ (by kernel_rfl)
        refine AtE.store 1 0 (T := 3) (v := .int .i64 (0 : Int)) (by kernel_rfl) ?_
        refine AtE.run 5 (fun W => by kernel_rfl) ?_
        refine AtE.call 33 ⟨[.int .u64 z1]⟩ (fun W => by kernel_rfl) (by kernel_rfl) H ?_
        clear H
        rintro _ _ ⟨r1, rfl, rfl, H⟩
        exact H.elim
      · replace H := H.2 h3'
        refine AtE.run 4 (fun W => by kernel_rfl) ?_
        refine AtE.new (fun B => .pointer (some ⟨B, 0, none⟩)) (.cells #[.int .u8 (0 : Int), .int .u8 (0 : Int), .int .u8 (0 : Int), .int .u8 (0 : Int), .int .u8 (0 : Int), .int .u8 (0 : Int), .int .u8 (0 : Int), .int .u8 (0 : Int), .int .u8 (0 : Int), .int .u8 (0 : Int)] 57) (fun W => by kernel_rfl) (by kernel_rfl) (fun B2 => ?_)
        replace H := H B2
        refine AtE.run 3 (fun W => by kernel_rfl) ?_
        refine AtE.new (fun B => .pointer (some ⟨B, 0, none⟩)) (.cells #[.int .i64 (0 : Int)] 3) (fun W => by kernel_rfl) (by kernel_rfl) (fun B3 => ?_)
        replace H := H B3
        refine AtE.store 1 0 (T := 3) (v := .int .i64 (0 : Int)) (by kernel_rfl) ?_
        refine AtE.norm (k' := [.inRegion (regOps [.code (sub (Eng.body Tryd.f18) [1, 1, 1, 1, 1, 0])]) [], .code (sub (Eng.body Tryd.f18) [1, 1, 1, 1, 1, 1])]) (e' := [(4, .int .u64 z), (5, .pointer (some ⟨B2, 0, none⟩)), (6, .pointer (some ⟨B3, 0, none⟩))]) (L' := [(B2, .cells #[.int .u8 (0 : Int), .int .u8 (0 : Int), .int .u8 (0 : Int), .int .u8 (0 : Int), .int .u8 (0 : Int), .int .u8 (0 : Int), .int .u8 (0 : Int), .int .u8 (0 : Int), .int .u8 (0 : Int), .int .u8 (0 : Int)] 57), (B3, .cells #[.int .i64 (0 : Int)] 3)]) ?_ (by kernel_rfl)
        refine AtE.run 5 (fun W => by kernel_rfl) ?_
        refine AtE.call 33 ⟨[.int .u64 z]⟩ (fun W => by kernel_rfl) (by kernel_rfl) H ?_
        clear H
        rintro _ _ ⟨r21, rfl, rfl, H⟩
        exact H.elim

end Go.Eng
