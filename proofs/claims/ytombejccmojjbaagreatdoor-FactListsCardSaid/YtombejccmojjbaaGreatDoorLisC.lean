/- A part of the proof: the engine by which functions are walked, verification conditions that a program of the prover wrote, contracts and plain laws; no claim of its own. -/
import Derived.Test.YtombejccmojjbaaGreatDoorChecked
import Derived.RangeFuncNested
import Derived.RangeFuncFrom
import Derived.RangeFuncBound
import Derived.RangeFuncCalls
import Derived.RangeFuncLeaves
import Derived.Shelf.Abstract
import Derived.Shelf.RegionOpen
import Derived.WalkKit
import Derived.OwnWalkIn
import Derived.TacticsInMore
import Derived.LoopNIn
import Derived.LoopIn
import Derived.Outline
import Derived.Laws.BytesString
import Derived.Lib.Hide
import Derived.Handed
import Derived.ChangeSame
import Derived.Carry
import Derived.OpenShut
import Derived.LaidLaws
import Derived.JoinedOf
import Derived.RowKit
import Derived.RowKit2
import Derived.ChangeSlices
import Derived.SliceStrings
import Derived.Test.YtombejccmojjbaaGreatDoorLisB
namespace Go.Eng
open Go Go.RowKit Go.Proofs
set_option linter.unusedVariables false
set_option maxRecDepth 100000
theorem String_vc (s : ByteArray) (atv : Int) {R : Ending → World → Prop} {w0 W : World} (hm : Mem [] [] w0 W)
  (H :
   CallH Tryz.prog 111 ⟨[.string s, .int .i64 atv]⟩ [] [] w0 (fun v L' => ∃ (r1 : Int) (r21 : Int) (r31 : Int), v = (.tuple #[.int .i64 r1, .int .i64 r21, .int .i64 r31]) ∧ L' = [] ∧
    ((¬ (r31 = (0 : Int))) →
     Fin R [] [] w0 (.tuple #[.string (⟨#[]⟩), .int .i64 (0 : Int), .int .i64 r31])) ∧
     ((r31 = (0 : Int)) →
     ((r1 < (0 : Int)) →
      Fin R [] [] w0 (.tuple #[.string (⟨#[]⟩), .int .i64 (0 : Int), .int .i64 (10 : Int)])) ∧
      ((¬ (r1 < (0 : Int))) →
      (((65536 : Int) < r1) →
       Fin R [] [] w0 (.tuple #[.string (⟨#[]⟩), .int .i64 (0 : Int), .int .i64 (10 : Int)])) ∧
       ((¬ ((65536 : Int) < r1)) →
       (((IntKind.i64.wrap ((s.size : Int) - r21)) < r1) →
        Fin R [] [] w0 (.tuple #[.string (⟨#[]⟩), .int .i64 (0 : Int), .int .i64 (10 : Int)])) ∧
        ((¬ ((IntKind.i64.wrap ((s.size : Int) - r21)) < r1)) →
        (0 ≤ r21 ∧ r21 ≤ (IntKind.i64.wrap (r21 + r1)) ∧ (IntKind.i64.wrap (r21 + r1)) ≤ s.size) ∧
        ∀ t4 : ByteArray, t4 = (s.extract (Int.toNat r21) (Int.toNat (IntKind.i64.wrap (r21 + r1)))) →
        ∀ t5 : Int, t5 = (IntKind.i64.wrap (r21 + r1)) →
        Fin R [] [] w0 (.tuple #[.string t4, .int .i64 t5, .int .i64 (0 : Int)]))))))) :
  Calls Tryz.prog 156 ⟨[.string s, .int .i64 atv]⟩ W R := by
 refine AtE.calls (nt := 43) Tryz.func156 (by kernel_rfl) hm ?_
 refine AtE.ru 10 ?_
 refine AtE.call 111 ⟨[.string s, .int .i64 atv]⟩ (fun W => by kernel_rfl) (by kernel_rfl) H ?_
 clear H
 rintro _ _ ⟨r1, r21, r31, rfl, rfl, H⟩
 refine AtE.ru 14 ?_
 refine AtE.splitN 18 (p := r31 = (0 : Int)) (by kernel_rfl) (fun h1' => ?_) (fun h1' => ?_)
 ·replace H := H.1 h1'
  refine AtE.ru 8 ?_
  exact AtE.ret Tryz.func156 (by kernel_rfl) H
 ·replace H := H.2 h1'
  refine AtE.ru 8 ?_
  refine AtE.splitP 22 (p := r1 < (0 : Int)) (by kernel_rfl) (fun h2' => ?_) (fun h2' => ?_)
  ·replace H := H.1 h2'
   refine AtE.ru 19 ?_
   exact AtE.ret Tryz.func156 (by kernel_rfl) H
  ·replace H := H.2 h2'
   refine AtE.ru 4 ?_
   refine AtE.splitP 26 (p := (65536 : Int) < r1) (by kernel_rfl) (fun h3' => ?_) (fun h3' => ?_)
   ·replace H := H.1 h3'
    refine AtE.ru 15 ?_
    exact AtE.ret Tryz.func156 (by kernel_rfl) H
   ·replace H := H.2 h3'
    refine AtE.ru 8 ?_
    refine AtE.splitP 33 (p := (IntKind.i64.wrap ((s.size : Int) - r21)) < r1) (by kernel_rfl) (fun h4' => ?_) (fun h4' => ?_)
    ·replace H := H.1 h4'
     refine AtE.ru 7 ?_
     exact AtE.ret Tryz.func156 (by kernel_rfl) H
    ·replace H := H.2 h4'
     refine AtE.ru 9 ?_
     refine AtE.sliceS (s := s) (lo := some (.int .i64 r21)) (hi := some (.int .i64 (IntKind.i64.wrap (r21 + r1)))) (a := r21) (b := (IntKind.i64.wrap (r21 + r1))) (by kernel_rfl) (.inl ⟨.i64, rfl⟩) (.inl ⟨.i64, rfl⟩) H.1 ?_
     replace H := H.2
     refine AtE.ru 4 ?_
     refine AtE.letS 4 (n := (s.extract (Int.toNat r21) (Int.toNat (IntKind.i64.wrap (r21 + r1))))) (by kernel_rfl) (fun t4 ht4 => ?_)
     replace H := H t4 ht4
     refine AtE.norm (k' := [.inRegion (regOps [.code (sub (Eng.body Tryz.f156) [1,1,1,1,0])]) [10,11], .code (sub (Eng.body Tryz.f156) [1,1,1,1,1])]) (e' := [(4, .string t4), (42, .int .i64 (IntKind.i64.wrap (r21 + r1)))]) (L' := []) ?_ (by kernel_rfl)
     refine AtE.ru 1 ?_
     refine AtE.letI 5 (kd := .i64) (n := (IntKind.i64.wrap (r21 + r1))) (by kernel_rfl) (fun t5 ht5 => ?_)
     replace H := H t5 ht5
     refine AtE.ru 2 ?_
     exact AtE.ret Tryz.func156 (by kernel_rfl) H
def Int_c0 (s1 : ByteArray) (atv1 : Int) (z : Int) (shift : Int) (w0 : World) (R : Ending → World → Prop) : Prop :=
 AtE Tryz.prog 111 62 [.code (sub (Eng.body Tryz.f111) [1,1,1,0,1,0,0]), .inLoop (sub (Eng.body Tryz.f111) [1,1,1,0,1,0,0]), .inBlock 0, .code (sub (Eng.body Tryz.f111) [1,1,1,1])] [(0, .string s1), (1, .int .i64 atv1), (7, .int .u64 z), (8, .int .i64 shift)] [] [] w0 (nrm R)
theorem Int_c0_vc (s1 : ByteArray) (atv1 : Int) (z : Int) (shift : Int) {R : Ending → World → Prop} {w0 : World}
  (H :
   ((shift < (63 : Int)) →
    ((atv1 = (s1.size : Int)) →
     Fin R [] [] w0 (.tuple #[.int .i64 (0 : Int), .int .i64 (0 : Int), .int .i64 (10 : Int)])) ∧
     ((¬ (atv1 = (s1.size : Int))) →
     (0 ≤ atv1 ∧ atv1 < s1.size) ∧
     ∀ b : Int, b = (bat s1 atv1) →
     ∀ atv2 : Int, atv2 = (IntKind.i64.wrap (atv1 + (1 : Int))) →
     (0 ≤ shift) ∧
     ∀ z1 : Int, z1 = (ior .u64 z (IntKind.u64.wrap ((IntKind.u64.wrap (b.tmod (128 : Int))) * 2 ^ (min (Int.toNat shift) 64)))) →
     (((128 : Int) ≤ b) →
      ∀ shift1 : Int, shift1 = (IntKind.i64.wrap (shift + (7 : Int))) →
      Int_c0 s1 atv2 z1 shift1 w0 R) ∧
      ((¬ ((128 : Int) ≤ b)) →
      ∀ n : Int, n = (IntKind.i64.wrap (IntKind.u64.wrap (z1.tdiv (2 : Int)))) →
      (((z1.tmod (2 : Int)) = (1 : Int)) →
       ∀ n1 : Int, n1 = (IntKind.i64.wrap ((IntKind.i64.wrap (0 - n)) - (1 : Int))) →
       ((b = (0 : Int)) →
        (((0 : Int) < shift) →
         Fin R [] [] w0 (.tuple #[.int .i64 (0 : Int), .int .i64 (0 : Int), .int .i64 (10 : Int)])) ∧
         ((¬ ((0 : Int) < shift)) →
         ((n1 < (-4611686018427387903 : Int)) →
          Fin R [] [] w0 (.tuple #[.int .i64 (0 : Int), .int .i64 (0 : Int), .int .i64 (10 : Int)])) ∧
          ((¬ (n1 < (-4611686018427387903 : Int))) →
          Fin R [] [] w0 (.tuple #[.int .i64 n1, .int .i64 atv2, .int .i64 (0 : Int)])))) ∧
        ((¬ (b = (0 : Int))) →
        ((n1 < (-4611686018427387903 : Int)) →
         Fin R [] [] w0 (.tuple #[.int .i64 (0 : Int), .int .i64 (0 : Int), .int .i64 (10 : Int)])) ∧
         ((¬ (n1 < (-4611686018427387903 : Int))) →
         Fin R [] [] w0 (.tuple #[.int .i64 n1, .int .i64 atv2, .int .i64 (0 : Int)])))) ∧
       ((¬ ((z1.tmod (2 : Int)) = (1 : Int))) →
       ((b = (0 : Int)) →
        (((0 : Int) < shift) →
         Fin R [] [] w0 (.tuple #[.int .i64 (0 : Int), .int .i64 (0 : Int), .int .i64 (10 : Int)])) ∧
         ((¬ ((0 : Int) < shift)) →
         ((n < (-4611686018427387903 : Int)) →
          Fin R [] [] w0 (.tuple #[.int .i64 (0 : Int), .int .i64 (0 : Int), .int .i64 (10 : Int)])) ∧
          ((¬ (n < (-4611686018427387903 : Int))) →
          Fin R [] [] w0 (.tuple #[.int .i64 n, .int .i64 atv2, .int .i64 (0 : Int)])))) ∧
        ((¬ (b = (0 : Int))) →
        ((n < (-4611686018427387903 : Int)) →
         Fin R [] [] w0 (.tuple #[.int .i64 (0 : Int), .int .i64 (0 : Int), .int .i64 (10 : Int)])) ∧
         ((¬ (n < (-4611686018427387903 : Int))) →
         Fin R [] [] w0 (.tuple #[.int .i64 n, .int .i64 atv2, .int .i64 (0 : Int)]))))))) ∧
    ((¬ (shift < (63 : Int))) →
    Fin R [] [] w0 (.tuple #[.int .i64 (0 : Int), .int .i64 (0 : Int), .int .i64 (10 : Int)]))) :
  Int_c0 s1 atv1 z shift w0 R := by
 unfold Int_c0
 refine AtE.ru 6 ?_
 refine AtE.splitP 20 (p := shift < (63 : Int)) (by kernel_rfl) (fun h3' => ?_) (fun h3' => ?_)
 ·replace H := H.1 h3'
  refine AtE.ru 12 ?_
  refine AtE.splitP 26 (p := atv1 = (s1.size : Int)) (by kernel_rfl) (fun h4' => ?_) (fun h4' => ?_)
  ·replace H := H.1 h4'
   refine AtE.ru 7 ?_
   exact AtE.ret Tryz.func111 (by kernel_rfl) H
  ·replace H := H.2 h4'
   refine AtE.ru 6 ?_
   refine AtE.indexS (s := s1) (kd := .i64) (i := atv1) (by kernel_rfl) H.1 ?_
   replace H := H.2
   refine AtE.ru 1 ?_
   refine AtE.letI 9 (kd := .u8) (n := (bat s1 atv1)) (by kernel_rfl) (fun b hb => ?_)
   replace H := H b hb
   refine AtE.ru 6 ?_
   refine AtE.letI 1 (kd := .i64) (n := (IntKind.i64.wrap (atv1 + (1 : Int)))) (by kernel_rfl) (fun atv2 hatv2 => ?_)
   replace H := H atv2 hatv2
   refine AtE.ru 8 ?_
   refine AtE.shl (kd := .u64) (kc := .i64) (x := (IntKind.u64.wrap (b.tmod (128 : Int)))) (y := shift) (by kernel_rfl) H.1 ?_
   replace H := H.2
   refine AtE.ru 2 ?_
   refine AtE.letI 7 (kd := .u64) (n := (ior .u64 z (IntKind.u64.wrap ((IntKind.u64.wrap (b.tmod (128 : Int))) * 2 ^ (min (Int.toNat shift) 64))))) (by kernel_rfl) (fun z1 hz1 => ?_)
   replace H := H z1 hz1
   refine AtE.norm (k' := [.inRegion (regOps [.code (sub (Eng.body Tryz.f111) [1,1,1,0,1,0,0,1,0,0,1,1,1,0])]) [], .code (sub (Eng.body Tryz.f111) [1,1,1,0,1,0,0,1,0,0,1,1,1,1]), .inBlock 1, .code (sub (Eng.body Tryz.f111) [1,1,1,0,1,0,0,1,1]), .inLoop (sub (Eng.body Tryz.f111) [1,1,1,0,1,0,0]), .inBlock 0, .code (sub (Eng.body Tryz.f111) [1,1,1,1])]) (e' := [(0, .string s1), (1, .int .i64 atv2), (7, .int .u64 z1), (8, .int .i64 shift), (9, .int .u8 b)]) (L' := []) ?_ (by kernel_rfl)
   refine AtE.ru 7 ?_
   refine AtE.splitP 40 (p := (128 : Int) ≤ b) (by kernel_rfl) (fun h5' => ?_) (fun h5' => ?_)
   ·replace H := H.1 h5'
    refine AtE.ru 6 ?_
    refine AtE.letI 8 (kd := .i64) (n := (IntKind.i64.wrap (shift + (7 : Int)))) (by kernel_rfl) (fun shift1 hshift1 => ?_)
    replace H := H shift1 hshift1
    refine AtE.ru 2 ?_
    exact AtE.cut [] H (by kernel_rfl)
   ·replace H := H.2 h5'
    refine AtE.ru 8 ?_
    refine AtE.letI 10 (kd := .i64) (n := (IntKind.i64.wrap (IntKind.u64.wrap (z1.tdiv (2 : Int))))) (by kernel_rfl) (fun n hn => ?_)
    replace H := H n hn
    refine AtE.ru 8 ?_
    refine AtE.splitP 46 (p := (z1.tmod (2 : Int)) = (1 : Int)) (by kernel_rfl) (fun h6' => ?_) (fun h6' => ?_)
    ·replace H := H.1 h6'
     refine AtE.ru 6 ?_
     refine AtE.letI 10 (kd := .i64) (n := (IntKind.i64.wrap ((IntKind.i64.wrap (0 - n)) - (1 : Int)))) (by kernel_rfl) (fun n1 hn1 => ?_)
     replace H := H n1 hn1
     refine AtE.ru 7 ?_
     refine AtE.splitP 52 (p := b = (0 : Int)) (by kernel_rfl) (fun h7' => ?_) (fun h7' => ?_)
     ·replace H := H.1 h7'
      refine AtE.ru 4 ?_
      refine AtE.splitP 56 (p := (0 : Int) < shift) (by kernel_rfl) (fun h8' => ?_) (fun h8' => ?_)
      ·replace H := H.1 h8'
       refine AtE.ru 11 ?_
       exact AtE.ret Tryz.func111 (by kernel_rfl) H
      ·replace H := H.2 h8'
       refine AtE.ru 4 ?_
       refine AtE.splitP 59 (p := n1 < (-4611686018427387903 : Int)) (by kernel_rfl) (fun h9' => ?_) (fun h9' => ?_)
       ·replace H := H.1 h9'
        refine AtE.norm (k' := [.code (sub (Eng.body Tryz.f111) [1,1,1,0,1,0,0,1,0,0,1,1,1,1,1,1,1,0,1]), .code (sub (Eng.body Tryz.f111) [1,1,1,0,1,0,0,1,0,0,1,1,1,1,1,1,1,1]), .inBlock 1, .code (sub (Eng.body Tryz.f111) [1,1,1,0,1,0,0,1,1]), .inLoop (sub (Eng.body Tryz.f111) [1,1,1,0,1,0,0]), .inBlock 0, .code (sub (Eng.body Tryz.f111) [1,1,1,1])]) (e' := [(1, .int .i64 atv2), (10, .int .i64 n1), (59, .bool true)]) (L' := []) ?_ (by kernel_rfl)
        refine AtE.ru 7 ?_
        exact AtE.ret Tryz.func111 (by kernel_rfl) H
       ·replace H := H.2 h9'
        refine AtE.norm (k' := [.code (sub (Eng.body Tryz.f111) [1,1,1,0,1,0,0,1,0,0,1,1,1,1,1,1,1,0,1]), .code (sub (Eng.body Tryz.f111) [1,1,1,0,1,0,0,1,0,0,1,1,1,1,1,1,1,1]), .inBlock 1, .code (sub (Eng.body Tryz.f111) [1,1,1,0,1,0,0,1,1]), .inLoop (sub (Eng.body Tryz.f111) [1,1,1,0,1,0,0]), .inBlock 0, .code (sub (Eng.body Tryz.f111) [1,1,1,1])]) (e' := [(1, .int .i64 atv2), (10, .int .i64 n1), (59, .bool false)]) (L' := []) ?_ (by kernel_rfl)
        refine AtE.ru 10 ?_
        exact AtE.ret Tryz.func111 (by kernel_rfl) H
     ·replace H := H.2 h7'
      refine AtE.ru 8 ?_
      refine AtE.splitP 59 (p := n1 < (-4611686018427387903 : Int)) (by kernel_rfl) (fun h10' => ?_) (fun h10' => ?_)
      ·replace H := H.1 h10'
       refine AtE.ru 7 ?_
       exact AtE.ret Tryz.func111 (by kernel_rfl) H
      ·replace H := H.2 h10'
       refine AtE.ru 10 ?_
       exact AtE.ret Tryz.func111 (by kernel_rfl) H
    ·replace H := H.2 h6'
     refine AtE.ru 8 ?_
     refine AtE.splitP 52 (p := b = (0 : Int)) (by kernel_rfl) (fun h11' => ?_) (fun h11' => ?_)
     ·replace H := H.1 h11'
      refine AtE.ru 4 ?_
      refine AtE.splitP 56 (p := (0 : Int) < shift) (by kernel_rfl) (fun h12' => ?_) (fun h12' => ?_)
      ·replace H := H.1 h12'
       refine AtE.ru 11 ?_
       exact AtE.ret Tryz.func111 (by kernel_rfl) H
      ·replace H := H.2 h12'
       refine AtE.ru 4 ?_
       refine AtE.splitP 59 (p := n < (-4611686018427387903 : Int)) (by kernel_rfl) (fun h13' => ?_) (fun h13' => ?_)
       ·replace H := H.1 h13'
        refine AtE.ru 7 ?_
        exact AtE.ret Tryz.func111 (by kernel_rfl) H
       ·replace H := H.2 h13'
        refine AtE.ru 10 ?_
        exact AtE.ret Tryz.func111 (by kernel_rfl) H
     ·replace H := H.2 h11'
      refine AtE.ru 8 ?_
      refine AtE.splitP 59 (p := n < (-4611686018427387903 : Int)) (by kernel_rfl) (fun h14' => ?_) (fun h14' => ?_)
      ·replace H := H.1 h14'
       refine AtE.ru 7 ?_
       exact AtE.ret Tryz.func111 (by kernel_rfl) H
      ·replace H := H.2 h14'
       refine AtE.ru 10 ?_
       exact AtE.ret Tryz.func111 (by kernel_rfl) H
 ·replace H := H.2 h3'
  refine AtE.ru 8 ?_
  exact AtE.ret Tryz.func111 (by kernel_rfl) H
theorem Int_vc (s : ByteArray) (atv : Int) {R : Ending → World → Prop} {w0 W : World} (hm : Mem [] [] w0 W)
  (H :
   ((atv < (0 : Int)) →
    Fin R [] [] w0 (.tuple #[.int .i64 (0 : Int), .int .i64 (0 : Int), .int .i64 (2 : Int)])) ∧
    ((¬ (atv < (0 : Int))) →
    (((s.size : Int) < atv) →
     Fin R [] [] w0 (.tuple #[.int .i64 (0 : Int), .int .i64 (0 : Int), .int .i64 (2 : Int)])) ∧
     ((¬ ((s.size : Int) < atv)) →
     Int_c0 s atv (0 : Int) (0 : Int) w0 R))) :
  Calls Tryz.prog 111 ⟨[.string s, .int .i64 atv]⟩ W R := by
 refine AtE.calls (nt := 62) Tryz.func111 (by kernel_rfl) hm ?_
 refine AtE.ru 12 ?_
 refine AtE.splitP 13 (p := atv < (0 : Int)) (by kernel_rfl) (fun h1' => ?_) (fun h1' => ?_)
 ·replace H := H.1 h1'
  refine AtE.ru 13 ?_
  exact AtE.ret Tryz.func111 (by kernel_rfl) H
 ·replace H := H.2 h1'
  refine AtE.ru 6 ?_
  refine AtE.splitP 18 (p := (s.size : Int) < atv) (by kernel_rfl) (fun h2' => ?_) (fun h2' => ?_)
  ·replace H := H.1 h2'
   refine AtE.ru 7 ?_
   exact AtE.ret Tryz.func111 (by kernel_rfl) H
  ·replace H := H.2 h2'
   refine AtE.ru 13 ?_
   exact AtE.cut [] H (by kernel_rfl)
theorem PutString_vc (s : ByteArray) {R : Ending → World → Prop} {w0 W : World} (hm : Mem [] [] w0 W)
  (H :
   (((65536 : Int) < (s.size : Int)) →
    Fin R [] [] w0 (.tuple #[.string (⟨#[]⟩), .int .i64 (10 : Int)])) ∧
    ((¬ ((65536 : Int) < (s.size : Int))) →
    CallH Tryz.prog 72 ⟨[.int .i64 (s.size : Int)]⟩ [] [] w0 (fun v L' => ∃ (r1 : ByteArray) (r21 : Int), v = (.tuple #[.string r1, .int .i64 r21]) ∧ L' = [] ∧
     ((¬ (r21 = (0 : Int))) →
      Fin R [] [] w0 (.tuple #[.string (⟨#[]⟩), .int .i64 r21])) ∧
      ((r21 = (0 : Int)) →
      (r1.size + s.size ≤ 9223372036854775807) ∧
      ∀ t2 : ByteArray, t2 = (r1 ++ s) →
      Fin R [] [] w0 (.tuple #[.string t2, .int .i64 (0 : Int)]))))) :
  Calls Tryz.prog 118 ⟨[.string s]⟩ W R := by
 refine AtE.calls (nt := 21) Tryz.func118 (by kernel_rfl) hm ?_
 refine AtE.ru 12 ?_
 refine AtE.splitP 8 (p := (65536 : Int) < (s.size : Int)) (by kernel_rfl) (fun h1' => ?_) (fun h1' => ?_)
 ·replace H := H.1 h1'
  refine AtE.ru 6 ?_
  exact AtE.ret Tryz.func118 (by kernel_rfl) H
 ·replace H := H.2 h1'
  refine AtE.ru 6 ?_
  refine AtE.call 72 ⟨[.int .i64 (s.size : Int)]⟩ (fun W => by kernel_rfl) (by kernel_rfl) H ?_
  clear H
  rintro _ _ ⟨r1, r21, rfl, rfl, H⟩
  refine AtE.ru 12 ?_
  refine AtE.splitN 16 (p := r21 = (0 : Int)) (by kernel_rfl) (fun h2' => ?_) (fun h2' => ?_)
  ·replace H := H.1 h2'
   refine AtE.ru 7 ?_
   exact AtE.ret Tryz.func118 (by kernel_rfl) H
  ·replace H := H.2 h2'
   refine AtE.ru 6 ?_
   refine AtE.concat (x := r1) (y := s) (by kernel_rfl) H.1 ?_
   replace H := H.2
   refine AtE.ru 1 ?_
   refine AtE.letS 2 (n := (r1 ++ s)) (by kernel_rfl) (fun t2 ht2 => ?_)
   replace H := H t2 ht2
   refine AtE.ru 2 ?_
   exact AtE.ret Tryz.func118 (by kernel_rfl) H
abbrev PutIntH0 (B : Nat) (B1 : Nat) : SHeap := [(B, .cells #[.int .u8 (0 : Int), .int .u8 (0 : Int), .int .u8 (0 : Int), .int .u8 (0 : Int), .int .u8 (0 : Int), .int .u8 (0 : Int), .int .u8 (0 : Int), .int .u8 (0 : Int), .int .u8 (0 : Int), .int .u8 (0 : Int)] 162), (B1, .cells #[.int .i64 (0 : Int)] 3)]
abbrev PutIntH1 (B2 : Nat) (B3 : Nat) : SHeap := [(B2, .cells #[.int .u8 (0 : Int), .int .u8 (0 : Int), .int .u8 (0 : Int), .int .u8 (0 : Int), .int .u8 (0 : Int), .int .u8 (0 : Int), .int .u8 (0 : Int), .int .u8 (0 : Int), .int .u8 (0 : Int), .int .u8 (0 : Int)] 162), (B3, .cells #[.int .i64 (0 : Int)] 3)]
theorem PutInt_vc (n : Int) {R : Ending → World → Prop} {w0 W : World} (hm : Mem [] [] w0 W)
  (H :
   ((n < (-4611686018427387903 : Int)) →
    Fin R [] [] w0 (.tuple #[.string (⟨#[]⟩), .int .i64 (10 : Int)])) ∧
    ((¬ (n < (-4611686018427387903 : Int))) →
    (((4611686018427387903 : Int) < n) →
     Fin R [] [] w0 (.tuple #[.string (⟨#[]⟩), .int .i64 (10 : Int)])) ∧
     ((¬ ((4611686018427387903 : Int) < n)) →
     ∀ z : Int, z = (IntKind.u64.wrap ((2 : Int) * (IntKind.u64.wrap n))) →
     ((n < (0 : Int)) →
      ∀ z1 : Int, z1 = (IntKind.u64.wrap ((IntKind.u64.wrap ((2 : Int) * (IntKind.u64.wrap (IntKind.i64.wrap (0 - n))))) - (1 : Int))) →
      ∀ B : Nat,
      ∀ B1 : Nat,
      CallH Tryz.prog 114 ⟨[.int .u64 z1]⟩ (PutIntH0 B B1) [] w0 (fun v L' => ∃ (r1 : Value), v = (r1) ∧ L' = (PutIntH0 B B1) ∧
       False)) ∧
      ((¬ (n < (0 : Int))) →
      ∀ B2 : Nat,
      ∀ B3 : Nat,
      CallH Tryz.prog 114 ⟨[.int .u64 z]⟩ (PutIntH1 B2 B3) [] w0 (fun v L' => ∃ (r21 : Value), v = (r21) ∧ L' = (PutIntH1 B2 B3) ∧
       False))))) :
  Calls Tryz.prog 72 ⟨[.int .i64 n]⟩ W R := by
 refine AtE.calls (nt := 35) Tryz.func72 (by kernel_rfl) hm ?_
 refine AtE.ru 11 ?_
 refine AtE.splitP 10 (p := n < (-4611686018427387903 : Int)) (by kernel_rfl) (fun h1' => ?_) (fun h1' => ?_)
 ·replace H := H.1 h1'
  refine AtE.ru 10 ?_
  exact AtE.ret Tryz.func72 (by kernel_rfl) H
 ·replace H := H.2 h1'
  refine AtE.ru 4 ?_
  refine AtE.splitP 13 (p := (4611686018427387903 : Int) < n) (by kernel_rfl) (fun h2' => ?_) (fun h2' => ?_)
  ·replace H := H.1 h2'
   refine AtE.ru 6 ?_
   exact AtE.ret Tryz.func72 (by kernel_rfl) H
  ·replace H := H.2 h2'
   refine AtE.ru 8 ?_
   refine AtE.letI 4 (kd := .u64) (n := (IntKind.u64.wrap ((2 : Int) * (IntKind.u64.wrap n)))) (by kernel_rfl) (fun z hz => ?_)
   replace H := H z hz
   refine AtE.ru 7 ?_
   refine AtE.splitP 18 (p := n < (0 : Int)) (by kernel_rfl) (fun h3' => ?_) (fun h3' => ?_)
   ·replace H := H.1 h3'
    refine AtE.ru 8 ?_
    refine AtE.letI 4 (kd := .u64) (n := (IntKind.u64.wrap ((IntKind.u64.wrap ((2 : Int) * (IntKind.u64.wrap (IntKind.i64.wrap (0 - n))))) - (1 : Int)))) (by kernel_rfl) (fun z1 hz1 => ?_)
    replace H := H z1 hz1
    refine AtE.ru 3 ?_
    refine AtE.new (fun B => .pointer (some ⟨B, 0, none⟩)) (.cells #[.int .u8 (0 : Int), .int .u8 (0 : Int), .int .u8 (0 : Int), .int .u8 (0 : Int), .int .u8 (0 : Int), .int .u8 (0 : Int), .int .u8 (0 : Int), .int .u8 (0 : Int), .int .u8 (0 : Int), .int .u8 (0 : Int)] 162) (fun W => by kernel_rfl) (by kernel_rfl) (fun B => ?_)
    replace H := H B
    refine AtE.ru 3 ?_
    refine AtE.new (fun B => .pointer (some ⟨B, 0, none⟩)) (.cells #[.int .i64 (0 : Int)] 3) (fun W => by kernel_rfl) (by kernel_rfl) (fun B1 => ?_)
    replace H := H B1
    refine AtE.norm (k' := [.inRegion (regOps [.code (sub (Eng.body Tryz.f72) [1,1,1,1,1,0])]) [1], .code (sub (Eng.body Tryz.f72) [1,1,1,1,1,1])]) (e' := [(4, .int .u64 z1), (5, .pointer (some ⟨B, 0, none⟩)), (6, .pointer (some ⟨B1, 0, none⟩))]) (L' := (PutIntH0 B B1)) ?_ (by kernel_rfl)
    refine AtE.store 1 0 (T := 3) (v := .int .i64 (0 : Int)) (by kernel_rfl) ?_
    refine AtE.ru 5 ?_
    refine AtE.call 114 ⟨[.int .u64 z1]⟩ (fun W => by kernel_rfl) (by kernel_rfl) H ?_
    clear H
    rintro _ _ ⟨r1, rfl, rfl, H⟩
    exact H.elim
   ·replace H := H.2 h3'
    refine AtE.ru 4 ?_
    refine AtE.new (fun B => .pointer (some ⟨B, 0, none⟩)) (.cells #[.int .u8 (0 : Int), .int .u8 (0 : Int), .int .u8 (0 : Int), .int .u8 (0 : Int), .int .u8 (0 : Int), .int .u8 (0 : Int), .int .u8 (0 : Int), .int .u8 (0 : Int), .int .u8 (0 : Int), .int .u8 (0 : Int)] 162) (fun W => by kernel_rfl) (by kernel_rfl) (fun B2 => ?_)
    replace H := H B2
    refine AtE.ru 3 ?_
    refine AtE.new (fun B => .pointer (some ⟨B, 0, none⟩)) (.cells #[.int .i64 (0 : Int)] 3) (fun W => by kernel_rfl) (by kernel_rfl) (fun B3 => ?_)
    replace H := H B3
    refine AtE.store 1 0 (T := 3) (v := .int .i64 (0 : Int)) (by kernel_rfl) ?_
    refine AtE.norm (k' := [.inRegion (regOps [.code (sub (Eng.body Tryz.f72) [1,1,1,1,1,0])]) [], .code (sub (Eng.body Tryz.f72) [1,1,1,1,1,1])]) (e' := [(4, .int .u64 z), (5, .pointer (some ⟨B2, 0, none⟩)), (6, .pointer (some ⟨B3, 0, none⟩))]) (L' := (PutIntH1 B2 B3)) ?_ (by kernel_rfl)
    refine AtE.ru 5 ?_
    refine AtE.call 114 ⟨[.int .u64 z]⟩ (fun W => by kernel_rfl) (by kernel_rfl) H ?_
    clear H
    rintro _ _ ⟨r21, rfl, rfl, H⟩
    exact H.elim
end Go.Eng
namespace Go.Eng
open Go Go.RowKit
theorem wi64 {x : Int} (h : -9223372036854775808 ≤ x ∧ x ≤ 9223372036854775807) : IntKind.i64.wrap x = x := by rw [IntKind.wrap_i64]; omega
theorem wu64 {x : Int} (h : 0 ≤ x ∧ x < 18446744073709551616) : IntKind.u64.wrap x = x := by rw [IntKind.wrap_u64]; omega
theorem ofInt_nat (n x : Nat) : (BitVec.ofInt n (x : Int)).toNat = x % 2 ^ n := by
  rw [BitVec.toNat_ofInt, ← Int.natCast_emod, Int.toNat_natCast]
theorem ior64 {x y : Nat} (hx : x < 2 ^ 64) (hy : y < 2 ^ 64) : ior .u64 (x : Int) (y : Int) = ((x ||| y : Nat) : Int) := by
  have h : x ||| y < 2 ^ 64 := Nat.or_lt_two_pow hx hy
  have e1 : x % 2 ^ 64 = x := Nat.mod_eq_of_lt (by omega)
  have e2 : y % 2 ^ 64 = y := Nat.mod_eq_of_lt (by omega)
  have e : (BitVec.ofInt 64 (x : Int) ||| BitVec.ofInt 64 (y : Int)).toNat = x ||| y := by
    rw [BitVec.toNat_or, ofInt_nat, ofInt_nat, e1, e2]
  show IntKind.u64.wrap ((BitVec.ofInt 64 (x : Int) ||| BitVec.ofInt 64 (y : Int)).toNat : Int) = _
  rw [e, wu64 (by omega)]
theorem or_add {z w m : Nat} (hz : z < 2 ^ m) : z ||| w * 2 ^ m = z + w * 2 ^ m := by
  have := Nat.two_pow_add_eq_or_of_lt hz w
  rw [Nat.or_comm, Nat.mul_comm, ← this]; omega
theorem tmod_nat (x m : Nat) : ((x : Int).tmod (m : Int)) = ((x % m : Nat) : Int) := (Int.ofNat_tmod x m).symm
theorem tdiv_nat (x m : Nat) : ((x : Int).tdiv (m : Int)) = ((x / m : Nat) : Int) := (Int.ofNat_tdiv x m).symm
theorem bat_get {s : ByteArray} {i : Nat} (h : i < s.data.toList.length) : bat s (i : Int) = ((s.data.toList[i]).toNat : Int) := by
  simp only [bat, Int.toNat_natCast, List.getElem?_eq_getElem h, Option.getD_some]
theorem PureC.intro {P : Program} {g : FuncId} {args : Array Value} {v : Value}
    (h : ∀ W R, (∀ W', Below W.heap.size W W' → R (.returned v) W') → Calls P g args W R) : PureC P g args v :=
  fun W => h W _ fun _ hb => ⟨rfl, hb⟩
theorem blkW_kept {S : List Nat} {w0 W : World} {b : Nat} {c : List Value} (h : Kept S w0 W) (hb : b ∉ S) (hc : blkW w0 b = some c) : blkW W b = some c := by
  have hlt : b < w0.heap.size := by
    rcases Nat.lt_or_ge b w0.heap.size with h | h
    · exact h
    · rw [blkW, Array.getElem?_eq_none h] at hc; cases hc
  rw [blkW, h.block b hlt hb]; exact hc
end Go.Eng
namespace Wire
def leb : Nat → Nat → List Nat
  | 0, z => [z % 256]
  | f + 1, z => if z < 128 then [z] else (z % 128 + 128) :: leb f (z / 128)
def lebI (f z : Nat) : List Int := (leb f z).map Int.ofNat
def zig (n : Int) : Nat := if n < 0 then (-n).toNat * 2 - 1 else n.toNat * 2
def unzig (z : Nat) : Int := if z % 2 = 1 then -((z / 2 : Nat) : Int) - 1 else ((z / 2 : Nat) : Int)
def maxInt : Int := 4611686018427387903
def okInt (n : Int) : Prop := -maxInt ≤ n ∧ n ≤ maxInt
instance (n : Int) : Decidable (okInt n) := inferInstanceAs (Decidable (_ ∧ _))
def enc (n : Int) : List UInt8 := (leb 9 (zig n)).map UInt8.ofNat
def rdGo : Nat → Nat → Nat → List UInt8 → Option (Int × Nat)
  | 0, _, _, _ => none
  | _ + 1, _, _, [] => none
  | g + 1, i, z, b :: r =>
    if 128 ≤ b.toNat then (rdGo g (i + 1) (z + b.toNat % 128 * 128 ^ i) r).map fun p => (p.1, p.2 + 1)
    else if (b.toNat = 0 ∧ 0 < i) ∨ unzig (z + b.toNat % 128 * 128 ^ i) < -maxInt then none
    else some (unzig (z + b.toNat % 128 * 128 ^ i), 1)
def rdInt (l : List UInt8) : Option (Int × Nat) := rdGo 9 0 0 l
theorem zig_lt {n : Int} (h : okInt n) : zig n < 9223372036854775807 := by
  unfold okInt maxInt at h; unfold zig; split <;> omega
theorem unzig_zig (n : Int) : unzig (zig n) = n := by
  unfold unzig zig
  split <;> split <;> omega
theorem zig_unzig (z : Nat) : zig (unzig z) = z := by
  unfold unzig
  split
  · unfold zig; rw [if_pos (by omega)]; omega
  · unfold zig; rw [if_neg (by omega)]; omega
theorem leb_len : ∀ (f z : Nat), (leb f z).length ≤ f + 1
  | 0, z => by simp [leb]
  | f + 1, z => by
    unfold leb; split
    · simp
    · have := leb_len f (z / 128); simp; omega
theorem rdGo_leb : ∀ (g i z y : Nat) (r : List UInt8), y < 128 ^ (g + 1) → (0 < i → 0 < y) → -maxInt ≤ unzig (z + y * 128 ^ i) →
    rdGo (g + 1) i z ((leb g y).map UInt8.ofNat ++ r) = some (unzig (z + y * 128 ^ i), (leb g y).length)
  | 0, i, z, y, r, hy, hi, hm => by
    have hy' : y < 128 := by simpa using hy
    have hb : (UInt8.ofNat (y % 256)).toNat = y := by simp; omega
    simp only [leb, List.map_cons, List.map_nil, List.cons_append, List.nil_append, rdGo, hb]
    rw [if_neg (by omega)]
    have hmod : y % 128 = y := Nat.mod_eq_of_lt hy'
    rw [hmod, if_neg (by intro h; rcases h with h | h; exact absurd (hi h.2) (by omega); omega)]
    rfl
  | g + 1, i, z, y, r, hy, hi, hm => by
    unfold leb
    split
    · next h =>
      have hb : (UInt8.ofNat y).toNat = y := by simp; omega
      simp only [List.map_cons, List.map_nil, List.cons_append, List.nil_append, rdGo, hb]
      rw [if_neg (by omega)]
      have hmod : y % 128 = y := Nat.mod_eq_of_lt h
      rw [hmod, if_neg (by intro h; rcases h with h | h; exact absurd (hi h.2) (by omega); omega)]
      rfl
    · next h =>
      have hb : (UInt8.ofNat (y % 128 + 128)).toNat = y % 128 + 128 := by simp; omega
      simp only [List.map_cons, List.cons_append]
      have hz : z + y * 128 ^ i = (z + y % 128 * 128 ^ i) + y / 128 * 128 ^ (i + 1) := by
        have h1 : y = y % 128 + y / 128 * 128 := by omega
        have h2 : y * 128 ^ i = y % 128 * 128 ^ i + y / 128 * 128 ^ (i + 1) := by
          rw [Nat.pow_succ]
          have h3 : y * 128 ^ i = (y % 128 + y / 128 * 128) * 128 ^ i := by rw [← h1]
          rw [h3, Nat.add_mul, Nat.mul_assoc, Nat.mul_comm 128 (128 ^ i)]
        omega
      have ih := rdGo_leb g (i + 1) (z + y % 128 * 128 ^ i) (y / 128) r (by rw [Nat.div_lt_iff_lt_mul (by omega)]; rw [Nat.pow_succ] at hy; exact hy) (fun _ => by omega) (by rw [← hz]; exact hm)
      conv => lhs; unfold rdGo
      simp only [hb]
      rw [if_pos (by omega)]
      have hmod : (y % 128 + 128) % 128 = y % 128 := by omega
      rw [hmod, ih, ← hz]
      simp
theorem rdInt_enc {n : Int} (h : okInt n) (r : List UInt8) : rdInt (enc n ++ r) = some (n, (enc n).length) := by
  have hz := zig_lt h
  -- nine groups are enough: the last of ten is never reached
  have key : ∀ (f z : Nat), z < 128 ^ (f + 1) → leb (f + 1) z = leb f z := by
    intro f
    induction f with
    | zero => intro z hz; simp at hz; simp [leb, hz]; omega
    | succ f ih =>
      intro z hz
      have : leb (f + 1 + 1) z = if z < 128 then [z] else (z % 128 + 128) :: leb (f + 1) (z / 128) := rfl
      rw [this]
      have h2 : leb (f + 1) z = if z < 128 then [z] else (z % 128 + 128) :: leb f (z / 128) := rfl
      rw [h2]
      split
      · rfl
      · rw [ih (z / 128) (by rw [Nat.div_lt_iff_lt_mul (by omega)]; rw [Nat.pow_succ] at hz; exact hz)]
  unfold rdInt enc
  rw [key 8 (zig n) (by have : (128 : Nat) ^ (8 + 1) = 9223372036854775808 := by decide
                        omega)]
  have := rdGo_leb 8 0 0 (zig n) r (by have : (128 : Nat) ^ (8 + 1) = 9223372036854775808 := by decide
                                       omega) (by omega) (by simp [unzig_zig]; exact h.1)
  simpa [unzig_zig] using this
theorem rdGo_inv : ∀ (g i z : Nat) (l : List UInt8) (n : Int) (k : Nat), rdGo (g + 1) i z l = some (n, k) →
    ∃ y, n = unzig (z + y * 128 ^ i) ∧ y < 128 ^ (g + 1) ∧ l.take k = (leb g y).map UInt8.ofNat ∧ k = (leb g y).length ∧ k ≤ l.length ∧ (0 < i → 0 < y) ∧ -maxInt ≤ n
  | 0, i, z, [], n, k, h => by simp [rdGo] at h
  | 0, i, z, b :: r, n, k, h => by
    simp only [rdGo] at h
    split at h
    · simp at h
    · next hb =>
      split at h
      · cases h
      · next hc =>
        simp only [Option.some.injEq, Prod.mk.injEq] at h
        obtain ⟨rfl, rfl⟩ := h
        have hb' : b.toNat < 128 := by omega
        have hmod : b.toNat % 128 = b.toNat := Nat.mod_eq_of_lt hb'
        rw [hmod] at hc ⊢
        refine ⟨b.toNat, rfl, by simpa using hb', ?_, by simp [leb], by simp, fun hi => ?_, ?_⟩
        · have : b.toNat % 256 = b.toNat := by omega
          simp [leb, this]
        · rcases Nat.eq_zero_or_pos b.toNat with h0 | h0
          · exact absurd (Or.inl ⟨h0, hi⟩) hc
          · exact h0
        · rcases Int.lt_or_le (unzig (z + b.toNat * 128 ^ i)) (-maxInt) with h0 | h0
          · exact absurd (Or.inr h0) hc
          · exact h0
  | g + 1, i, z, [], n, k, h => by simp [rdGo] at h
  | g + 1, i, z, b :: r, n, k, h => by
    unfold rdGo at h
    split at h
    · next hb =>
      rw [Option.map_eq_some_iff] at h
      obtain ⟨⟨n', k'⟩, h1, h2⟩ := h
      simp only [Prod.mk.injEq] at h2
      obtain ⟨rfl, rfl⟩ := h2
      obtain ⟨y, hn, hy, ht, hk, hle, hpos, hm⟩ := rdGo_inv g (i + 1) _ r n' k' h1
      have hy0 := hpos (by omega)
      have hbl : b.toNat < 256 := b.toNat_lt
      refine ⟨b.toNat % 128 + y * 128, ?_, ?_, ?_, ?_, ?_, fun _ => by omega, hm⟩
      · rw [hn]
        congr 1
        rw [Nat.add_mul, Nat.mul_assoc, Nat.pow_succ, Nat.mul_comm (128 ^ i) 128]
        omega
      · rw [Nat.pow_succ]
        omega
      · unfold leb
        rw [if_neg (by omega)]
        have h1 : (b.toNat % 128 + y * 128) % 128 = b.toNat % 128 := by omega
        have h2 : (b.toNat % 128 + y * 128) / 128 = y := by omega
        rw [h1, h2]
        have h3 : b.toNat % 128 + 128 = b.toNat := by omega
        rw [h3]
        simp [ht]
      · unfold leb
        rw [if_neg (by omega)]
        have h2 : (b.toNat % 128 + y * 128) / 128 = y := by omega
        rw [h2]
        simp; omega
      · simp; omega
    · next hb =>
      split at h
      · cases h
      · next hc =>
        simp only [Option.some.injEq, Prod.mk.injEq] at h
        obtain ⟨rfl, rfl⟩ := h
        have hb' : b.toNat < 128 := by omega
        have hmod : b.toNat % 128 = b.toNat := Nat.mod_eq_of_lt hb'
        rw [hmod] at hc ⊢
        have hl : leb (g + 1) b.toNat = [b.toNat] := by unfold leb; rw [if_pos hb']
        refine ⟨b.toNat, rfl, ?_, ?_, by rw [hl]; rfl, by simp, fun hi => ?_, ?_⟩
        · have : (128 : Nat) ≤ 128 ^ (g + 1 + 1) := by
            rw [Nat.pow_succ]; exact Nat.le_mul_of_pos_left 128 (Nat.pow_pos (by omega))
          omega
        · rw [hl]; simp
        · rcases Nat.eq_zero_or_pos b.toNat with h0 | h0
          · exact absurd (Or.inl ⟨h0, hi⟩) hc
          · exact h0
        · rcases Int.lt_or_le (unzig (z + b.toNat * 128 ^ i)) (-maxInt) with h0 | h0
          · exact absurd (Or.inr h0) hc
          · exact h0
theorem leb_succ (f z : Nat) : z < 128 ^ (f + 1) → leb (f + 1) z = leb f z := by
  induction f generalizing z with
  | zero => intro hz; simp at hz; simp [leb, hz]; omega
  | succ f ih =>
    intro hz
    have h1 : leb (f + 1 + 1) z = if z < 128 then [z] else (z % 128 + 128) :: leb (f + 1) (z / 128) := rfl
    have h2 : leb (f + 1) z = if z < 128 then [z] else (z % 128 + 128) :: leb f (z / 128) := rfl
    rw [h1, h2]
    split
    · rfl
    · rw [ih (z / 128) (by rw [Nat.div_lt_iff_lt_mul (by omega)]; rw [Nat.pow_succ] at hz; exact hz)]
theorem rdInt_inv {l : List UInt8} {n : Int} {k : Nat} (h : rdInt l = some (n, k)) : okInt n ∧ k ≤ l.length ∧ l.take k = enc n ∧ k = (enc n).length := by
  obtain ⟨y, hn, hy, ht, hk, hle, _, hm⟩ := rdGo_inv 8 0 0 l n k h
  have hp : (128 : Nat) ^ (8 + 1) = 9223372036854775808 := by decide
  have hzy : zig n = y := by rw [hn]; simp [zig_unzig]
  have hl : leb 9 (zig n) = leb 8 y := by rw [hzy]; exact leb_succ 8 y hy
  refine ⟨⟨hm, ?_⟩, hle, by rw [ht, enc, hl], by rw [hk, enc, hl]; simp⟩
  have : n = unzig y := by rw [hn]; simp
  rw [this]
  unfold unzig maxInt
  split <;> omega
theorem enc_len (n : Int) : (enc n).length ≤ 10 := by unfold enc; simp; exact leb_len 9 _
def rdStr (l : List UInt8) : Option (List UInt8 × Nat) :=
  match rdInt l with
  | none => none
  | some (n, k) => if 0 ≤ n ∧ n ≤ 65536 ∧ n ≤ ((l.length - k : Nat) : Int) then some ((l.drop k).take n.toNat, k + n.toNat) else none
def encS (t : List UInt8) : List UInt8 := enc t.length ++ t
theorem okLen {n : Nat} (h : n ≤ 65536) : okInt n := by unfold okInt maxInt; omega
theorem rdStr_enc {t : List UInt8} (h : t.length ≤ 65536) (r : List UInt8) : rdStr (encS t ++ r) = some (t, (encS t).length) := by
  unfold rdStr encS
  rw [List.append_assoc, rdInt_enc (okLen h)]
  simp only
  rw [if_pos]
  · simp
  · simp; omega
end Wire
namespace Go.Eng
open Go Go.RowKit Go.Proofs Wire
abbrev bts (s : ByteArray) : List UInt8 := s.data.toList
theorem bts_len (s : ByteArray) : (bts s).length = s.size := rfl
def intRes : Option (Int × Nat) → Nat → Value
  | none, _ => .tuple #[.int .i64 0, .int .i64 0, .int .i64 10]
  | some (n, k), a => .tuple #[.int .i64 n, .int .i64 ((a + k : Nat) : Int), .int .i64 0]
theorem intRes_map (o : Option (Int × Nat)) (a : Nat) : intRes (o.map fun p => (p.1, p.2 + 1)) a = intRes o (a + 1) := by
  cases o with
  | none => rfl
  | some p => simp [intRes]; omega
def intAns (s : ByteArray) (a : Int) : Value :=
  if a < 0 ∨ (s.size : Int) < a then .tuple #[.int .i64 0, .int .i64 0, .int .i64 2] else intRes (rdInt ((bts s).drop a.toNat)) a.toNat
theorem pow128 (i : Nat) : (2 : Nat) ^ (7 * i) = 128 ^ i := by rw [Nat.pow_mul]
theorem Int_loop {s : ByteArray} (hs : s.size < 4611686018427387904) {w0 : World} {R : Ending → World → Prop} : ∀ (g i z a : Nat), g + i = 9 → a ≤ s.size → z < 128 ^ i →
    Fin R [] [] w0 (intRes (rdGo g i z ((bts s).drop a)) a) → Int_c0 s (a : Int) (z : Int) ((7 * i : Nat) : Int) w0 R
  | 0, i, z, a, hg, ha, hz, H => by
    apply Int_c0_vc
    refine ⟨fun h => absurd h (by omega), fun _ => ?_⟩
    simpa [rdGo, intRes] using H
  | g + 1, i, z, a, hg, ha, hz, H => by
    apply Int_c0_vc
    refine ⟨fun _ => ⟨fun h => ?_, fun h => ?_⟩, fun h => absurd (by omega) h⟩
    · have h0 : (bts s).drop a = [] := List.drop_of_length_le (by rw [bts_len]; omega)
      rw [h0] at H
      simpa [rdGo, intRes] using H
    · have hlt : a < (bts s).length := by rw [bts_len]; omega
      have hd : (bts s).drop a = (bts s)[a] :: (bts s).drop (a + 1) := List.drop_eq_getElem_cons hlt
      rw [hd] at H
      obtain ⟨B, hB⟩ : ∃ B : UInt8, B = (bts s)[a] := ⟨_, rfl⟩
      rw [← hB] at H
      have hBl := B.toNat_lt
      refine ⟨by omega, ?_⟩
      rintro b hb _ rfl
      rw [bat_get hlt, ← hB] at hb
      refine ⟨by omega, ?_⟩
      rintro z1 hz1
      have e128 : b.tmod 128 = ((B.toNat % 128 : Nat) : Int) := by rw [hb]; exact tmod_nat _ 128
      have hp : (128 : Nat) ^ i * 128 ≤ 9223372036854775808 := by
        have : (128 : Nat) ^ i ≤ 128 ^ 8 := Nat.pow_le_pow_right (by decide) (by omega)
        have h8 : (128 : Nat) ^ 8 * 128 = 9223372036854775808 := by decide
        omega
      have hm : B.toNat % 128 * 128 ^ i < 9223372036854775808 := by
        have h1 : B.toNat % 128 < 128 := Nat.mod_lt _ (by decide)
        have h2 : B.toNat % 128 * 128 ^ i < 128 * 128 ^ i := Nat.mul_lt_mul_of_pos_right h1 (Nat.pow_pos (by decide))
        omega
      have hsum : z + B.toNat % 128 * 128 ^ i < 128 ^ (i + 1) := by
        have h1 : B.toNat % 128 ≤ 127 := by omega
        have h2 : B.toNat % 128 * 128 ^ i ≤ 127 * 128 ^ i := Nat.mul_le_mul_right _ h1
        rw [Nat.pow_succ]; omega
      have hz1' : z1 = ((z + B.toNat % 128 * 128 ^ i : Nat) : Int) := by
        rw [hz1, e128, wu64 (x := ((B.toNat % 128 : Nat) : Int)) (by omega)]
        have e1 : min (Int.toNat ((7 * i : Nat) : Int)) 64 = 7 * i := by omega
        have e2 : ((B.toNat % 128 : Nat) : Int) * 2 ^ (7 * i) = ((B.toNat % 128 * 2 ^ (7 * i) : Nat) : Int) := by simp
        rw [e1, e2, pow128, wu64 (by omega), ior64 (by omega) (by omega), ← pow128, or_add (by rw [pow128]; exact hz)]
      clear hz1
      have ew : IntKind.i64.wrap ((a : Int) + 1) = ((a + 1 : Nat) : Int) := by rw [wi64 (by omega)]; simp
      have es : IntKind.i64.wrap (((7 * i : Nat) : Int) + 7) = ((7 * (i + 1) : Nat) : Int) := by rw [wi64 (by omega)]; omega
      refine ⟨fun hc => ?_, fun hc => ?_⟩
      · rintro _ rfl
        rw [ew, es, hz1']
        refine Int_loop hs g (i + 1) _ (a + 1) (by omega) (by omega) hsum ?_
        rw [← intRes_map]
        have : 128 ≤ B.toNat := by omega
        simpa [rdGo, this] using H
      · have hnc : ¬ 128 ≤ B.toNat := by omega
        simp only [rdGo, hnc, if_false] at H
        obtain ⟨Z, hZ⟩ : ∃ Z, Z = z + B.toNat % 128 * 128 ^ i := ⟨_, rfl⟩
        have hZl : Z < 9223372036854775808 := by
          have : (128 : Nat) ^ (i + 1) = 128 ^ i * 128 := Nat.pow_succ ..
          omega
        rw [← hZ] at H hz1'
        subst hz1'
        have et : ((Z : Int).tdiv 2) = ((Z / 2 : Nat) : Int) := tdiv_nat Z 2
        have em : ((Z : Int).tmod 2) = ((Z % 2 : Nat) : Int) := tmod_nat Z 2
        rw [ew, et, em, wu64 (by omega), wi64 (by omega)]
        have hu1 : Z % 2 = 1 → unzig Z = -((Z / 2 : Nat) : Int) - 1 := fun h => by simp [unzig, h]
        have hu0 : ¬ Z % 2 = 1 → unzig Z = ((Z / 2 : Nat) : Int) := fun h => by simp [unzig, h]
        have hi : (0 : Int) < ((7 * i : Nat) : Int) ↔ 0 < i := by omega
        have hb0 : b = 0 ↔ B.toNat = 0 := by omega
        rintro n rfl
        rw [hi, hb0]
        have main : ∀ m : Int, unzig Z = m → (B.toNat = 0 → (0 < i → Fin R [] [] w0 (.tuple #[.int .i64 0, .int .i64 0, .int .i64 10])) ∧ (¬ 0 < i → (m < -4611686018427387903 → Fin R [] [] w0 (.tuple #[.int .i64 0, .int .i64 0, .int .i64 10])) ∧ (¬ m < -4611686018427387903 → Fin R [] [] w0 (.tuple #[.int .i64 m, .int .i64 ((a + 1 : Nat) : Int), .int .i64 0])))) ∧
            (¬ B.toNat = 0 → (m < -4611686018427387903 → Fin R [] [] w0 (.tuple #[.int .i64 0, .int .i64 0, .int .i64 10])) ∧ (¬ m < -4611686018427387903 → Fin R [] [] w0 (.tuple #[.int .i64 m, .int .i64 ((a + 1 : Nat) : Int), .int .i64 0]))) := by
          intro m hm
          rw [hm] at H
          unfold maxInt at H
          refine ⟨fun h1 => ⟨fun h2 => ?_, fun h2 => ⟨fun h3 => ?_, fun h3 => ?_⟩⟩, fun h1 => ⟨fun h3 => ?_, fun h3 => ?_⟩⟩
          · rw [if_pos (.inl ⟨h1, h2⟩)] at H; exact H
          · rw [if_pos (.inr h3)] at H; exact H
          · rw [if_neg (by omega)] at H; exact H
          · rw [if_pos (.inr h3)] at H; exact H
          · rw [if_neg (by omega)] at H; exact H
        refine ⟨fun h => ?_, fun h => ?_⟩
        · rintro n1 rfl
          have e1 : IntKind.i64.wrap (IntKind.i64.wrap (0 - ((Z / 2 : Nat) : Int)) - 1) = -((Z / 2 : Nat) : Int) - 1 := by
            rw [wi64 (x := 0 - ((Z / 2 : Nat) : Int)) (by omega), wi64 (by omega)]; omega
          rw [e1]
          exact main _ (hu1 (by omega))
        · exact main _ (hu0 (by omega))
theorem Int_c (s : ByteArray) (a : Int) (hs : s.size < 4611686018427387904) : PureC Tryz.prog 111 ⟨[.string s, .int .i64 a]⟩ (intAns s a) := by
  refine fun W => Int_vc s a (Mem.start [] W) ?_
  have hF : ∀ v, v = intAns s a → Fin (fun e W' => e = .returned (intAns s a) ∧ Below W.heap.size W W') [] [] W v := fun v hv W' hm => ⟨by rw [hv], hm.kept.below⟩
  refine ⟨fun h => hF _ ?_, fun h => ⟨fun h2 => hF _ ?_, fun h2 => ?_⟩⟩
  · simp [intAns, h]
  · simp [intAns, h2]
  · obtain ⟨n, rfl⟩ : ∃ n : Nat, a = n := ⟨a.toNat, by omega⟩
    refine Int_loop hs 9 0 0 n rfl (by omega) (by simp) (hF _ ?_)
    rw [intAns, if_neg (by omega)]; rfl
end Go.Eng
namespace Go.Proofs
open Go.RowKit Go.Shelf
attribute [local go_sem] Oper.semAt_some
open _root_.Wire
set_option maxRecDepth 100000 in
set_option maxHeartbeats 2000000 in
theorem Tryz.groups_in (F : Fence) (n : Nat) (h25 : F.fn 157) (hro : F.round = none) (hn : 1 ≤ n) (l Bz n₀ : Nat) (z : Nat) (hz : z < 9223372036854775808) (J Jx : List Int → World → Prop)
    (hY : ∀ pre x W, J pre W → pre.length < (lebI 9 z).length → YieldAt F (n - 1) Tryz.prog l #[.int .u8 x] W fun e W' =>
      (e = .returned (.bool true) ∧ J (pre ++ [x]) W' ∧ Below n₀ W W') ∨ (e = .returned (.bool false) ∧ Jx (pre ++ [x]) W'))
    (W : World) (hBz : W.cell? ⟨Bz, 0, none⟩ = some (.int .u64 z)) (h0 : J [] W) :
    CallsIn F n Tryz.prog 157 #[.func (.yield l) #[] #[], .pointer (some ⟨Bz, 0, none⟩)] W fun e W' => (∃ v, e = .returned v) ∧
      ((∃ ys, ys = lebI 9 z ∧ J ys W') ∨ (∃ pre, pre <+: lebI 9 z ∧ Jx pre W')) := by
  refine callsIn_of_wp Tryz.func157 rfl h25 ?_ hro
  simp only [Tryz.ntmps157, List.size_toArray, List.length_cons, List.length_nil, Nat.reduceAdd, Nat.reduceSub, Array.replicate_succ, Array.replicate_zero, List.push_toArray, List.append_toArray, List.nil_append, List.cons_append]
  gi_wp2
  gi_loopw [3] (fun p wr => ∃ (pre : List Int) (f r : Nat), p = .int .u64 r ∧ lebI 9 z = pre ++ lebI f r ∧ r < 128 ^ (f + 1) ∧ r < 9223372036854775808 ∧ J pre wr)
    (fun p wr => (intOf p).toNat)
  case atStart =>
    exact ⟨[], 9, z, rfl, rfl, by omega, hz, h0⟩
  case round =>
    obtain ⟨pre, f, r, rfl, hx, hr, hr2, hJs⟩ := hrel
    by_cases h : r < 128
    · have hl : lebI f r = [(r : Int)] := by cases f <;> simp [lebI, leb, h]; omega
      have hlen : pre.length < (lebI 9 z).length := by rw [hx, hl]; simp
      obtain ⟨fn, tmps, assign, body, hy, hR⟩ := hY pre r wr hJs hlen
      have HX : Hid (lebI 9 z = pre ++ lebI f r) := hx
      have HL : Hid (lebI f r = [(r : Int)]) := hl
      clear hx hl hr hlen hY
      gi_wp2
      refine hR.mono ?_
      rintro e W3 (⟨rfl, hJ3, _⟩ | ⟨rfl, hJx3⟩)
      · gi_wp2
        go_end0
        exact ⟨⟨_, rfl⟩, .inl ⟨_, rfl, by rw [HX.out, HL.out]; exact hJ3⟩⟩
      · gi_wp2
        go_end0
        exact ⟨⟨_, rfl⟩, .inr ⟨_, by rw [HX.out, HL.out]; exact List.prefix_rfl, hJx3⟩⟩
    · obtain ⟨f, rfl⟩ : ∃ g, f = g + 1 := by
        cases f with
        | zero => simp at hr; omega
        | succ g => exact ⟨g, rfl⟩
      have hl : lebI (f + 1) r = ((r : Int) % 128 + 128) :: lebI f (r / 128) := by simp [lebI, leb, h]
      have hlen : pre.length < (lebI 9 z).length := by rw [hx, hl]; simp
      obtain ⟨fn, tmps, assign, body, hy, hR⟩ := hY pre ((r : Int) % 128 + 128) wr hJs hlen
      have HX : Hid (lebI 9 z = (pre ++ [((r : Int) % 128 + 128)]) ++ lebI f (r / 128)) := by show _ = _; rw [hx, hl]; simp
      have HR : Hid (r / 128 < 128 ^ (f + 1)) := by show _ < _; rw [Nat.div_lt_iff_lt_mul (by omega)]; rw [Nat.pow_succ] at hr; exact hr
      clear hx hl hr hlen hY
      gi_wp2
      · refine hR.mono ?_
        rintro e W3 (⟨rfl, hJ3, _⟩ | ⟨rfl, hJx3⟩)
        · gi_wp2
          go_roundw
          case rel => exact ⟨_, f, r / 128, by go_num, HX.out, HR.out, by omega, hJ3⟩
          case measure => simp [intOf]; omega
        · gi_wp2
          refine bodyPost_ret (results_none rfl _ _ _) rfl ?_
          exact ⟨⟨_, rfl⟩, .inr ⟨_, by rw [HX.out]; exact List.prefix_append _ _, hJx3⟩⟩
end Go.Proofs
namespace Go.Proofs
open Go.RowKit Go.Shelf
attribute [local go_sem] Oper.semAt_some
open _root_.Wire
theorem Tryz.groups_stops (F : Fence) (n : Nat) (h25 : F.fn 157) (hro : F.round = none) (hn : 1 ≤ n) (Bz n₀ z : Nat) (hz : z < 9223372036854775808) (w : World) (hBz : Bz < w.heap.size)
    (hc : w.cell? ⟨Bz, 0, none⟩ = some (.int .u64 z)) :
    SeqStopsK F n Tryz.prog 157 #[.pointer (some ⟨Bz, 0, none⟩)] (fun x : Int => #[Value.int .u8 x]) (Below n₀) (fun ys => ys = lebI 9 z) (fun pre => pre <+: lebI 9 z) (lebI 9 z).length w := fun l J Jx W hW _ _ hY h0 =>
  Tryz.groups_in F n h25 hro hn l Bz n₀ z hz J Jx hY W ((hW.cell (p := ⟨Bz, 0, none⟩) hBz).trans hc) h0
theorem Tryz.groupsf_in (F : Fence) (n : Nat) (h23 : F.fn 114) (hro : F.round = none) (z : Int) (w : World) :
    CallsIn F n Tryz.prog 114 #[.int .u64 z] w fun e w' => e = .returned (.func (.func 157) #[] #[.pointer (some ⟨w.heap.size, 0, none⟩)]) ∧ w' = w.alloc (.cells #[.int .u64 z] 161) := by
  refine callsIn_of_wp Tryz.func114 rfl h23 ?_ hro
  simp only [Tryz.ntmps114, List.size_toArray, List.length_cons, List.length_nil, Nat.reduceAdd, Nat.reduceSub, Array.replicate_succ, Array.replicate_zero, List.push_toArray, List.append_toArray, List.nil_append, List.cons_append]
  gi_wp2
  go_ret
  exact ⟨rfl, rfl⟩
def padTo (xs : List Int) : Array Value := ⟨(xs.map (Value.int .u8)) ++ List.replicate (10 - xs.length) (.int .u8 0)⟩
theorem heap_kept {A B : World} {k : Nat} {c : Array Value} {t : TypeId} {fz : Nat × Nat} {row : Option Nat} (h : A.heap[k]? = some (.cells c t fz)) (hg : A.grownBy B row) (hr : ∀ r, row = some r → ∃ o : Obj, A.heap[r]? = some o ∧ o.isCells = false) : B.heap[k]? = some (.cells c t fz) := by
  have hlt : k < A.heap.size := (Array.getElem?_eq_some_iff.1 h).1
  rw [hg.block k hlt (fun e => by
    obtain ⟨o, ho, hc⟩ := hr k e.symm
    rw [h] at ho; cases ho; cases hc)]
  exact h
theorem lebI_len (z : Nat) : (lebI 9 z).length ≤ 10 := by have := leb_len 9 z; simpa [lebI] using this
theorem cells_at {W : World} {b : Nat} {pre : List Int} (hA : W.heap[b]? = some (.cells (padTo pre) 162)) (hC : W.heap[b + 1]? = some (.cells #[.int .i64 pre.length] 3)) (hlt : pre.length < 10) :
    W.cell? ⟨b, pre.length, none⟩ = some (.int .u8 0) ∧ W.frozen? ⟨b, pre.length, none⟩ = false ∧ W.cell? ⟨b + 1, 0, none⟩ = some (.int .i64 pre.length) ∧ W.frozen? ⟨b + 1, 0, none⟩ = false := by
  refine ⟨?_, ?_, ?_, ?_⟩
  · simp only [World.cell?, hA, padTo]
    simp
    rw [List.getElem?_append_right (by simp)]
    simp [List.getElem?_replicate]; omega
  · simp [World.frozen?, hA]
  · simp [World.cell?, hC]
  · simp [World.frozen?, hC]
theorem put_pad {W : World} {b : Nat} {pre : List Int} {y v : Int} (hA : W.heap[b]? = some (.cells (padTo pre) 162)) (hlt : pre.length < 10) :
    ((W.setCell ⟨b, pre.length, none⟩ (.int .u8 y)).setCell ⟨b + 1, 0, none⟩ (.int .i64 v)).heap[b]? = some (.cells (padTo (pre ++ [y])) 162) := by
  rw [Below.heap_setCell _ _ _ _ (by simp)]
  simp only [World.setCell, Array.getElem?_modify, if_pos, hA, Option.map_some]
  congr 2
  apply Array.toList_inj.1
  simp only [padTo, Option.isSome_none, Bool.false_eq_true, if_false, Array.toList_setIfInBounds]
  have h10 : 10 - pre.length = (10 - (pre ++ [y]).length) + 1 := by simp; omega
  rw [h10, List.replicate_succ]
  rw [List.set_append_right _ _ (by simp)]
  simp
theorem put_cnt {W : World} {b : Nat} {o : Nat} {y : Int} {pre : List Int} (hC : W.heap[b + 1]? = some (.cells #[.int .i64 pre.length] 3)) :
    ((W.setCell ⟨b, o, none⟩ (.int .u8 y)).setCell ⟨b + 1, 0, none⟩ (.int .i64 ((pre.length : Int) + 1))).heap[b + 1]? = some (.cells #[.int .i64 (pre ++ [y]).length] 3) := by
  have : (W.setCell ⟨b, o, none⟩ (.int .u8 y)).heap[b + 1]? = some (.cells #[.int .i64 pre.length] 3) := by rw [Below.heap_setCell _ _ _ _ (by simp)]; exact hC
  simp only [World.setCell, Array.getElem?_modify, if_pos] at this ⊢
  rw [this]
  simp
theorem load_pad {P : Program} {W : World} {b : Nat} {xs : List Int} (hA : W.heap[b]? = some (.cells (padTo xs) 162)) (_ : xs.length ≤ 10) :
    (loadCells ⟨b, 0, none⟩ xs.length).run P W = .ok (xs.map (Value.int .u8)).toArray W := by
  have := run_loadCells_list (P := P) (w := W) ⟨b, 0, none⟩ (xs.map (Value.int .u8)) (fun j v hj => by
    have hadd : (⟨b, 0, none⟩ : Addr).add j = ⟨b, j, none⟩ := by unfold Addr.add; split <;> simp_all
    rw [hadd]
    simp only [World.cell?, hA, padTo]
    have hlt : j < (xs.map (Value.int .u8)).length := (List.getElem?_eq_some_iff.1 hj).1
    simp only [Option.isSome_none, Bool.false_eq_true, if_false]
    rw [show (⟨xs.map (Value.int .u8) ++ List.replicate (10 - xs.length) (.int .u8 0)⟩ : Array Value)[j]? = (xs.map (Value.int .u8) ++ List.replicate (10 - xs.length) (.int .u8 0))[j]? by simp]
    rw [List.getElem?_append_left hlt]; exact hj)
  simpa using this
theorem foldl_leb (f z : Nat) : (lebI f z).foldl (fun r n => r.push (UInt8.ofNat n.toNat)) ByteArray.empty = ⟨((leb f z).map UInt8.ofNat).toArray⟩ := by
  have key : ∀ (l : List Nat) (r : ByteArray), (l.map Int.ofNat).foldl (fun r n => r.push (UInt8.ofNat n.toNat)) r = ⟨(r.data.toList ++ l.map UInt8.ofNat).toArray⟩ := by
    intro l
    induction l with
    | nil => intro r; simp
    | cons b l ih =>
      intro r
      simp only [List.map_cons, List.foldl_cons]
      rw [ih]
      congr 1
      simp
  unfold lebI
  rw [key]; rfl
theorem slice10 (W : World) (b m : Nat) (h : m ≤ 10) : (Instr.sliceAt 162 (.pointer (some ⟨b, 0, none⟩)) none (some (.int .i64 (m : Int))) none).run Tryz.prog W = .ok (.slice (some ⟨b, 0, none⟩) m 10) W := by
  have hb : (Instr.sliceBound (.int .i64 (m : Int)) 10 .sliceAlen).run Tryz.prog W = .ok m W := by
    have := run_sliceBound (P := Tryz.prog) W .i64 (m : Int) 10 .sliceAlen (by omega) (by omega)
    simpa using this
  simp only [Instr.sliceAt, Sem.run_bind, run_underlying (P := Tryz.prog) (t := 162) (d := .array 10 5) (by kernel_rfl), Result.andThen_ok, Instr.sureAddr, Instr.sliceBounds, Sem.run_pure]
  have hsz : (sizeOf 5).run Tryz.prog W = .ok 1 W := by kernel_rfl
  simp only [Bool.false_eq_true, if_false, hb, Result.andThen_ok, hsz]
  rfl
theorem conv10 (W : World) (b m : Nat) (s : ByteArray) (h : (Conv.bytesToString (.slice (some ⟨b, 0, none⟩) m 10)).run Tryz.prog W = .ok (.string s) W) : (convert 59 9 (.slice (some ⟨b, 0, none⟩) m 10)).run Tryz.prog W = .ok (.string s) W := by
  simp only [convert, Sem.run_bind, run_underlying (P := Tryz.prog) (t := 59) (d := .slice 5) (by kernel_rfl), run_underlying (P := Tryz.prog) (t := 9) (d := .string) (by kernel_rfl), run_underlying (P := Tryz.prog) (t := 5) (d := .int .u8) (by kernel_rfl), Result.andThen_ok, h]
set_option maxRecDepth 100000 in
set_option maxHeartbeats 2000000 in
theorem Tryz.PutInt_in (F : Fence) (n : Nat) (h12 : F.fn 72) (h23 : F.fn 114) (h25 : F.fn 157) (hro : F.round = none) (hn : 3 ≤ n) (x : Int) (hx0 : -4611686018427387903 ≤ x) (hx1 : x ≤ 4611686018427387903) (w : World) :
    CallsIn F n Tryz.prog 72 #[.int .i64 x] w fun e W' => e = .returned (.tuple #[.string (⟨((leb 9 (zig x)).map UInt8.ofNat).toArray⟩), .int .i64 0]) ∧ Below w.heap.size w W' := by
  have h1 : 1 ≤ n := by omega
  obtain ⟨z, hzd⟩ : ∃ z : Nat, z = zig x := ⟨_, rfl⟩
  have hz : z < 9223372036854775808 := by rw [hzd]; unfold zig; split <;> omega
  rw [← hzd]
  refine callsIn_of_wp_marks Tryz.func72 rfl h12 ?_ hro
  simp only [Tryz.ntmps72, List.size_toArray, List.length_cons, List.length_nil, Nat.reduceAdd, Nat.reduceSub, Array.replicate_succ, Array.replicate_zero, List.push_toArray, List.append_toArray, List.nil_append, List.cons_append]
  by_cases hneg : x < 0
  · gi_wp2_with (gi_at_call 114; refine (Tryz.groupsf_in F (n - 1) h23 hro _ _).mono ?_; rintro e w' ⟨rfl, rfl⟩)

    have hzi : 2 * -x - 1 = (z : Int) := by rw [hzd]; unfold zig; rw [if_pos hneg]; omega
    have hlen : (lebI 9 z).length ≤ 10 := lebI_len z
    obtain ⟨w1, hw1⟩ : ∃ w1, (((w.alloc (.cells #[.int .u8 0, .int .u8 0, .int .u8 0, .int .u8 0, .int .u8 0, .int .u8 0, .int .u8 0, .int .u8 0, .int .u8 0, .int .u8 0] 162)).alloc (.cells #[.int .i64 0] 3)).alloc (.cells #[.int .u64 (2 * -x - 1)] 161)) = w1 := ⟨_, rfl⟩
    have hB0 : Below w.heap.size w w1 := by rw [← hw1]; exact (((Below.refl _ w).alloc (Nat.le_refl _) _).alloc (by simp) _).alloc (by simp; omega) _
    have hs1 : w1.heap.size = w.heap.size + 3 := by rw [← hw1]; simp
    have ha : w1.heap[w.heap.size]? = some (.cells (padTo []) 162) := by rw [← hw1]; exact (Below.heap_alloc _ _ _ (by simp; omega)).trans ((Below.heap_alloc _ _ _ (by simp)).trans (World.alloc_heap_new w _))
    have hb : w1.heap[w.heap.size + 1]? = some (.cells #[.int .i64 0] 3) := by rw [← hw1]; exact (Below.heap_alloc _ _ _ (by simp)).trans (by have := World.alloc_heap_new (w.alloc (.cells #[.int .u8 0, .int .u8 0, .int .u8 0, .int .u8 0, .int .u8 0, .int .u8 0, .int .u8 0, .int .u8 0, .int .u8 0, .int .u8 0] 162)) (.cells #[.int .i64 0] 3); simpa using this)
    have hc : w1.cell? ⟨w.heap.size + 1 + 1, 0, none⟩ = some (.int .u64 z) := by
      have := World.alloc_heap_new ((w.alloc (.cells #[.int .u8 0, .int .u8 0, .int .u8 0, .int .u8 0, .int .u8 0, .int .u8 0, .int .u8 0, .int .u8 0, .int .u8 0, .int .u8 0] 162)).alloc (.cells #[.int .i64 0] 3)) (.cells #[.int .u64 (2 * -x - 1)] 161)
      simp only [World.size_alloc] at this
      rw [hw1] at this
      simp [World.cell?, this, hzi]
    rw [hw1]
    clear hw1 hzi hzd
    refine wpIn_rangeFunc_ownF hro h1 (gf := 157) (lb := #[.pointer (some ⟨w.heap.size + 1 + 1, 0, none⟩)]) rfl h25 (enters_of Tryz.func157 (by kernel_rfl) rfl)
      (Tryz.groups_stops F (n - 1) h25 hro (by omega) (w.heap.size + 1 + 1) w.heap.size z hz w1 (by omega) hc) belowK_t (belowK_b (by omega)) (Below.refl _ _) (fun _ => rfl)
      (fun pre W => (pre.length ≤ 10 ∧ W.heap[w.heap.size]? = some (.cells (padTo pre) 162) ∧ W.heap[w.heap.size + 1]? = some (.cells #[.int .i64 pre.length] 3)) ∧ Below w.heap.size w W)
      (fun _ _ _ => False)
      (OwnFrom.and (Own.from (fun s A B row hs hg hr => ⟨hs.1, heap_kept hs.2.1 hg hr, heap_kept hs.2.2 hg hr⟩) _) (ownFrom_below (Nat.le_refl _) (by omega)))
      (fun _ _ _ _ _ hs _ _ => hs)
      ⟨⟨by simp, ha, hb⟩, hB0⟩
      (fun y => { tmps := #[.int .i64 x, undef, .string ⟨#[]⟩, .int .i64 0, .int .u64 (2 * -x - 1), .pointer (some ⟨w.heap.size, 0, none⟩), .pointer (some ⟨w.heap.size + 1, 0, none⟩), .int .u8 y, .int .i64 x, .bool (decide (x < -4611686018427387903)), .bool (decide (x < -4611686018427387903)), .int .i64 x, .bool (decide (4611686018427387903 < x)), .bool (decide (x < -4611686018427387903) || decide (4611686018427387903 < x)), .int .i64 x, .int .u64 (IntKind.u64.wrap x), .int .u64 (IntKind.u64.wrap (2 * IntKind.u64.wrap x)), .int .i64 x, .bool true, .int .i64 x, .int .i64 (-x), .int .u64 (-x), .int .u64 (2 * -x), .int .u64 (2 * -x - 1), .int .u64 (2 * -x - 1), .func (.func 157) #[] #[.pointer (some ⟨w.heap.size + 1 + 1, 0, none⟩)], .int .u8 y, undef, undef, undef, undef, undef, undef, undef, undef], defers := [] }) ?assign ?body ?done ?stop
    case assign =>
      intro l y W K hK
      gi_wp2
      exact hK
    case body =>
      rintro l pre y W ⟨⟨hp, hA, hC⟩, hB⟩ hlt
      have hlt' : pre.length < 10 := by omega
      obtain ⟨hcA, hfA, hcC, hfC⟩ := cells_at hA hC hlt'
      have hi : ((pre.length : Int)).toNat = pre.length := rfl
      have HA := Lib.hid hA
      have HC := Lib.hid hC
      clear hA hC
      gi_wp2
      exact ⟨(KeepsOthers.setCell _ _ _).trans (KeepsOthers.setCell _ _ _), ((Below.refl w.heap.size W).setCell (p := ⟨w.heap.size, pre.length, none⟩) (Nat.le_refl _) _).setCell (p := ⟨w.heap.size + 1, 0, none⟩) (by simp) _,
        ⟨by simp; omega, put_pad HA.out hlt', put_cnt HC.out⟩, (hB.setCell (p := ⟨w.heap.size, pre.length, none⟩) (Nat.le_refl _) _).setCell (p := ⟨w.heap.size + 1, 0, none⟩) (by simp) _⟩
    case done =>
      rintro D ys W hD rfl ⟨⟨hp, hA, hC⟩, hB⟩ hK
      have hcC : W.cell? ⟨w.heap.size + 1, 0, none⟩ = some (.int .i64 (lebI 9 z).length) := by simp [World.cell?, hC]
      have hld := load_pad (P := Tryz.prog) hA hp
      have hst := run_bytesToString (P := Tryz.prog) W ⟨w.heap.size, 0, none⟩ (lebI 9 z).length 10 (lebI 9 z) hld
      rw [foldl_leb] at hst
      have hsl := slice10 W w.heap.size (lebI 9 z).length hp
      have hcv := conv10 W w.heap.size (lebI 9 z).length _ hst
      clear hld hst hA hC hp hlen
      gi_wp2
      refine ⟨by simp, .inl ⟨_, _, rfl, run_takeDeferred hK, ?_⟩⟩
      exact ⟨_, results_tmp2 rfl _ _ _, rfl, hB.trans (belowK_b (w := w) (Nat.le_refl _) W D _ _ (by omega) hK rfl rfl)⟩
    case stop =>
      rintro D c pre W _ _ h _
      exact h.elim
  · gi_wp2_with (gi_at_call 114; refine (Tryz.groupsf_in F (n - 1) h23 hro _ _).mono ?_; rintro e w' ⟨rfl, rfl⟩)

    have hzi : 2 * x = (z : Int) := by rw [hzd]; unfold zig; rw [if_neg (by omega)]; omega
    have hlen : (lebI 9 z).length ≤ 10 := lebI_len z
    obtain ⟨w1, hw1⟩ : ∃ w1, (((w.alloc (.cells #[.int .u8 0, .int .u8 0, .int .u8 0, .int .u8 0, .int .u8 0, .int .u8 0, .int .u8 0, .int .u8 0, .int .u8 0, .int .u8 0] 162)).alloc (.cells #[.int .i64 0] 3)).alloc (.cells #[.int .u64 (2 * x)] 161)) = w1 := ⟨_, rfl⟩
    have hB0 : Below w.heap.size w w1 := by rw [← hw1]; exact (((Below.refl _ w).alloc (Nat.le_refl _) _).alloc (by simp) _).alloc (by simp; omega) _
    have hs1 : w1.heap.size = w.heap.size + 3 := by rw [← hw1]; simp
    have ha : w1.heap[w.heap.size]? = some (.cells (padTo []) 162) := by rw [← hw1]; exact (Below.heap_alloc _ _ _ (by simp; omega)).trans ((Below.heap_alloc _ _ _ (by simp)).trans (World.alloc_heap_new w _))
    have hb : w1.heap[w.heap.size + 1]? = some (.cells #[.int .i64 0] 3) := by rw [← hw1]; exact (Below.heap_alloc _ _ _ (by simp)).trans (by have := World.alloc_heap_new (w.alloc (.cells #[.int .u8 0, .int .u8 0, .int .u8 0, .int .u8 0, .int .u8 0, .int .u8 0, .int .u8 0, .int .u8 0, .int .u8 0, .int .u8 0] 162)) (.cells #[.int .i64 0] 3); simpa using this)
    have hc : w1.cell? ⟨w.heap.size + 1 + 1, 0, none⟩ = some (.int .u64 z) := by
      have := World.alloc_heap_new ((w.alloc (.cells #[.int .u8 0, .int .u8 0, .int .u8 0, .int .u8 0, .int .u8 0, .int .u8 0, .int .u8 0, .int .u8 0, .int .u8 0, .int .u8 0] 162)).alloc (.cells #[.int .i64 0] 3)) (.cells #[.int .u64 (2 * x)] 161)
      simp only [World.size_alloc] at this
      rw [hw1] at this
      simp [World.cell?, this, hzi]
    rw [hw1]
    clear hw1 hzi hzd
    refine wpIn_rangeFunc_ownF hro h1 (gf := 157) (lb := #[.pointer (some ⟨w.heap.size + 1 + 1, 0, none⟩)]) rfl h25 (enters_of Tryz.func157 (by kernel_rfl) rfl)
      (Tryz.groups_stops F (n - 1) h25 hro (by omega) (w.heap.size + 1 + 1) w.heap.size z hz w1 (by omega) hc) belowK_t (belowK_b (by omega)) (Below.refl _ _) (fun _ => rfl)
      (fun pre W => (pre.length ≤ 10 ∧ W.heap[w.heap.size]? = some (.cells (padTo pre) 162) ∧ W.heap[w.heap.size + 1]? = some (.cells #[.int .i64 pre.length] 3)) ∧ Below w.heap.size w W)
      (fun _ _ _ => False)
      (OwnFrom.and (Own.from (fun s A B row hs hg hr => ⟨hs.1, heap_kept hs.2.1 hg hr, heap_kept hs.2.2 hg hr⟩) _) (ownFrom_below (Nat.le_refl _) (by omega)))
      (fun _ _ _ _ _ hs _ _ => hs)
      ⟨⟨by simp, ha, hb⟩, hB0⟩
      (fun y => { tmps := #[.int .i64 x, undef, .string ⟨#[]⟩, .int .i64 0, .int .u64 (2 * x), .pointer (some ⟨w.heap.size, 0, none⟩), .pointer (some ⟨w.heap.size + 1, 0, none⟩), .int .u8 y, .int .i64 x, .bool (decide (x < -4611686018427387903)), .bool (decide (x < -4611686018427387903)), .int .i64 x, .bool (decide (4611686018427387903 < x)), .bool (decide (x < -4611686018427387903) || decide (4611686018427387903 < x)), .int .i64 x, .int .u64 x, .int .u64 (2 * x), .int .i64 x, .bool false, undef, undef, undef, undef, undef, .int .u64 (2 * x), .func (.func 157) #[] #[.pointer (some ⟨w.heap.size + 1 + 1, 0, none⟩)], .int .u8 y, undef, undef, undef, undef, undef, undef, undef, undef], defers := [] }) ?assign ?body ?done ?stop
    case assign =>
      intro l y W K hK
      gi_wp2
      exact hK
    case body =>
      rintro l pre y W ⟨⟨hp, hA, hC⟩, hB⟩ hlt
      have hlt' : pre.length < 10 := by omega
      obtain ⟨hcA, hfA, hcC, hfC⟩ := cells_at hA hC hlt'
      have hi : ((pre.length : Int)).toNat = pre.length := rfl
      have HA := Lib.hid hA
      have HC := Lib.hid hC
      clear hA hC
      gi_wp2
      exact ⟨(KeepsOthers.setCell _ _ _).trans (KeepsOthers.setCell _ _ _), ((Below.refl w.heap.size W).setCell (p := ⟨w.heap.size, pre.length, none⟩) (Nat.le_refl _) _).setCell (p := ⟨w.heap.size + 1, 0, none⟩) (by simp) _,
        ⟨by simp; omega, put_pad HA.out hlt', put_cnt HC.out⟩, (hB.setCell (p := ⟨w.heap.size, pre.length, none⟩) (Nat.le_refl _) _).setCell (p := ⟨w.heap.size + 1, 0, none⟩) (by simp) _⟩
    case done =>
      rintro D ys W hD rfl ⟨⟨hp, hA, hC⟩, hB⟩ hK
      have hcC : W.cell? ⟨w.heap.size + 1, 0, none⟩ = some (.int .i64 (lebI 9 z).length) := by simp [World.cell?, hC]
      have hld := load_pad (P := Tryz.prog) hA hp
      have hst := run_bytesToString (P := Tryz.prog) W ⟨w.heap.size, 0, none⟩ (lebI 9 z).length 10 (lebI 9 z) hld
      rw [foldl_leb] at hst
      have hsl := slice10 W w.heap.size (lebI 9 z).length hp
      have hcv := conv10 W w.heap.size (lebI 9 z).length _ hst
      clear hld hst hA hC hp hlen
      gi_wp2
      refine ⟨by simp, .inl ⟨_, _, rfl, run_takeDeferred hK, ?_⟩⟩
      exact ⟨_, results_tmp2 rfl _ _ _, rfl, hB.trans (belowK_b (w := w) (Nat.le_refl _) W D _ _ (by omega) hK rfl rfl)⟩
    case stop =>
      rintro D c pre W _ _ h _
      exact h.elim
end Go.Proofs
namespace Go.Eng
open Go Go.RowKit Go.Proofs Wire
theorem finPure {v u : Value} {W : World} {L : SHeap} (h : v = u) : Fin (fun e W' => e = .returned u ∧ Below W.heap.size W W') L [] W v := fun _ hm => ⟨by rw [h], hm.kept.below⟩
def i64 (c : Int) : Prop := -9223372036854775808 ≤ c ∧ c ≤ 9223372036854775807
def encB (n : Int) : ByteArray := ⟨(enc n).toArray⟩
theorem encB_bts (n : Int) : bts (encB n) = enc n := by simp [bts, encB]
theorem encB_size (n : Int) : (encB n).size = (enc n).length := by rw [← bts_len, encB_bts]
def putAns (n : Int) : Value := if okInt n then .tuple #[.string (encB n), .int .i64 0] else .tuple #[.string ⟨#[]⟩, .int .i64 10]
theorem bytesL_app (a b : List UInt8) : bytesL (a ++ b) = bytesL a ++ bytesL b := by simp [bytesL]
theorem bytesL_len (a : List UInt8) : (bytesL a).length = a.length := by simp [bytesL]
end Go.Eng
namespace Go.Eng
open Go Go.RowKit Go.Proofs Wire
theorem bts_inj {a b : ByteArray} (h : bts a = bts b) : a = b := by
  apply ByteArray.ext
  exact Array.toList_inj.1 h
theorem bts_append (a b : ByteArray) : bts (a ++ b) = bts a ++ bts b := by simp [bts]
theorem bts_extract (s : ByteArray) (a b : Nat) : bts (s.extract a b) = ((bts s).drop a).take (b - a) := by
  simp [bts, List.extract_eq_take_drop]
theorem bts_mk (l : List UInt8) : bts ⟨l.toArray⟩ = l := by simp [bts]
theorem bts_nil : bts ⟨#[]⟩ = [] := rfl
theorem PutInt_c (n : Int) : PureC Tryz.prog 72 ⟨[.int .i64 n]⟩ (putAns n) := by
  by_cases h : okInt n
  · have h' := h
    unfold okInt maxInt at h'
    intro W
    refine ((callsIn_wide.1 (Tryz.PutInt_in Fence.wide 3 trivial trivial trivial rfl (Nat.le_refl _) n h'.1 h'.2 W))).mono fun e W' hh => ⟨?_, hh.2⟩
    rw [putAns, if_pos h, hh.1]; rfl
  · have h' := h
    unfold okInt maxInt at h'
    rw [putAns, if_neg h]
    exact fun W => PutInt_vc n (Mem.start [] W) ⟨fun hn => finPure rfl, fun hn => ⟨fun hm => finPure rfl, fun hm => by omega⟩⟩
theorem putAns_ok {n : Int} (h : okInt n) : putAns n = .tuple #[.string (encB n), .int .i64 0] := if_pos h
def encSB (s : ByteArray) : ByteArray := encB s.size ++ s
theorem encSB_bts (s : ByteArray) : bts (encSB s) = encS (bts s) := by rw [encSB, bts_append, encB_bts, encS, bts_len]
def putSAns (s : ByteArray) : Value := if s.size ≤ 65536 then .tuple #[.string (encSB s), .int .i64 0] else .tuple #[.string ⟨#[]⟩, .int .i64 10]
theorem PutString_c (s : ByteArray) : PureC Tryz.prog 118 ⟨[.string s]⟩ (putSAns s) := by
  refine fun W => PutString_vc s (Mem.start [] W) ⟨fun h => ?_, fun h => ?_⟩
  · rw [putSAns, if_neg (by omega)]; exact finPure rfl
  · have h1 : s.size ≤ 65536 := by omega
    rw [putSAns, if_pos h1]
    refine CallH.pure (PutInt_c s.size) ?_
    rw [putAns_ok (okLen h1)]
    refine ⟨_, _, rfl, rfl, fun h => absurd rfl h, fun _ => ⟨?_, ?_⟩⟩
    · have := enc_len s.size; rw [← encB_size] at this; omega
    · rintro t rfl; exact finPure rfl
def strRes : Option (List UInt8 × Nat) → Nat → Value
  | none, _ => .tuple #[.string ⟨#[]⟩, .int .i64 0, .int .i64 10]
  | some (t, k), a => .tuple #[.string ⟨t.toArray⟩, .int .i64 ((a + k : Nat) : Int), .int .i64 0]
def strAns (s : ByteArray) (a : Int) : Value :=
  if a < 0 ∨ (s.size : Int) < a then .tuple #[.string ⟨#[]⟩, .int .i64 0, .int .i64 2] else strRes (rdStr ((bts s).drop a.toNat)) a.toNat
theorem str_law {P : Program} {g : FuncId} {s : ByteArray} {a : Int} (hs : s.size < 4611686018427387904) {w0 : World} (hI : PureC P g ⟨[.string s, .int .i64 a]⟩ (intAns s a)) :
      CallH P g ⟨[.string s, .int .i64 a]⟩ [] [] w0 (fun v L' => ∃ (r1 : Int) (r21 : Int) (r31 : Int), v = (.tuple #[.int .i64 r1, .int .i64 r21, .int .i64 r31]) ∧ L' = [] ∧
        ((¬ (r31 = (0 : Int))) →
          Fin (fun e W' => e = .returned (strAns s a) ∧ Below w0.heap.size w0 W') [] [] w0 (.tuple #[.string (⟨#[]⟩), .int .i64 (0 : Int), .int .i64 r31])) ∧
         ((r31 = (0 : Int)) →
          ((r1 < (0 : Int)) →
            Fin (fun e W' => e = .returned (strAns s a) ∧ Below w0.heap.size w0 W') [] [] w0 (.tuple #[.string (⟨#[]⟩), .int .i64 (0 : Int), .int .i64 (10 : Int)])) ∧
           ((¬ (r1 < (0 : Int))) →
            (((65536 : Int) < r1) →
              Fin (fun e W' => e = .returned (strAns s a) ∧ Below w0.heap.size w0 W') [] [] w0 (.tuple #[.string (⟨#[]⟩), .int .i64 (0 : Int), .int .i64 (10 : Int)])) ∧
             ((¬ ((65536 : Int) < r1)) →
              (((IntKind.i64.wrap ((s.size : Int) - r21)) < r1) →
                Fin (fun e W' => e = .returned (strAns s a) ∧ Below w0.heap.size w0 W') [] [] w0 (.tuple #[.string (⟨#[]⟩), .int .i64 (0 : Int), .int .i64 (10 : Int)])) ∧
               ((¬ ((IntKind.i64.wrap ((s.size : Int) - r21)) < r1)) →
                (0 ≤ r21 ∧ r21 ≤ (IntKind.i64.wrap (r21 + r1)) ∧ (IntKind.i64.wrap (r21 + r1)) ≤ s.size) ∧
                ∀ t4 : ByteArray, t4 = (s.extract (Int.toNat r21) (Int.toNat (IntKind.i64.wrap (r21 + r1)))) →
                ∀ t5 : Int, t5 = (IntKind.i64.wrap (r21 + r1)) →
                Fin (fun e W' => e = .returned (strAns s a) ∧ Below w0.heap.size w0 W') [] [] w0 (.tuple #[.string t4, .int .i64 t5, .int .i64 (0 : Int)])))))) := by
  refine CallH.pure hI ?_
  unfold intAns strAns
  by_cases h : a < 0 ∨ (s.size : Int) < a
  · rw [if_pos h, if_pos h]
    exact ⟨_, _, _, rfl, rfl, fun _ => finPure rfl, fun h => absurd h (by decide)⟩
  rw [if_neg h, if_neg h]
  obtain ⟨n, rfl⟩ : ∃ n : Nat, a = n := ⟨a.toNat, by omega⟩
  rw [Int.toNat_natCast]
  unfold rdStr
  cases hr : rdInt ((bts s).drop n) with
  | none => exact ⟨_, _, _, rfl, rfl, fun _ => finPure rfl, fun h => absurd h (by decide)⟩
  | some p =>
    obtain ⟨m, k⟩ := p
    obtain ⟨hm, hk, -, -⟩ := rdInt_inv hr
    have hk2 := hk
    rw [List.length_drop, bts_len] at hk
    have hm' := hm
    unfold okInt maxInt at hm'
    refine ⟨_, _, _, rfl, rfl, fun h => absurd rfl h, fun _ => ?_⟩
    have e1 : IntKind.i64.wrap ((s.size : Int) - ((n + k : Nat) : Int)) = ((s.size - (n + k) : Nat) : Int) := by rw [wi64 (by omega)]; omega
    rw [e1]
    have hl : ((((bts s).drop n).length - k : Nat) : Int) = ((s.size - (n + k) : Nat) : Int) := by rw [List.length_drop, bts_len]; omega
    simp only [hl]
    refine ⟨fun h1 => ?_, fun h1 => ⟨fun h2 => ?_, fun h2 => ⟨fun h3 => ?_, fun h3 => ?_⟩⟩⟩
    · rw [if_neg (by omega)]; exact finPure rfl
    · rw [if_neg (by omega)]; exact finPure rfl
    · rw [if_neg (by omega)]; exact finPure rfl
    · obtain ⟨q, rfl⟩ : ∃ q : Nat, m = q := ⟨m.toNat, by omega⟩
      have e2 : IntKind.i64.wrap (((n + k : Nat) : Int) + (q : Int)) = ((n + k + q : Nat) : Int) := by rw [wi64 (by omega)]; omega
      rw [e2]
      refine ⟨by omega, ?_⟩
      rintro t rfl t5 rfl
      rw [if_pos (by omega)]
      refine finPure ?_
      simp only [strRes, Int.toNat_natCast]
      have e3 : s.extract (n + k) (n + k + q) = ⟨(List.take q (List.drop k (List.drop n (bts s)))).toArray⟩ := by
        apply bts_inj
        rw [bts_extract, bts_mk, List.drop_drop]
        congr 1; omega
      rw [e3, Nat.add_assoc]
theorem String_c (s : ByteArray) (a : Int) (hs : s.size < 4611686018427387904) : PureC Tryz.prog 156 ⟨[.string s, .int .i64 a]⟩ (strAns s a) :=
  fun W => String_vc s a (Mem.start [] W) (str_law hs (Int_c s a hs))
end Go.Eng
namespace Go.Eng
open Go Go.RowKit
theorem yes {p A B : Prop} (h : p) (a : A) : (p → A) ∧ (¬ p → B) := ⟨fun _ => a, fun n => absurd h n⟩
theorem no {p A B : Prop} (h : ¬ p) (a : A) : (p → B) ∧ (¬ p → A) := ⟨fun n => absurd n h, fun _ => a⟩
theorem tt {b : Bool} {A B : Prop} (h : b = true) (a : A) : (b = true → A) ∧ (b = false → B) := ⟨fun _ => a, fun n => Bool.noConfusion (h.symm.trans n)⟩
theorem ff {b : Bool} {A B : Prop} (h : b = false) (a : A) : (b = true → B) ∧ (b = false → A) := ⟨fun n => Bool.noConfusion (h.symm.trans n), fun _ => a⟩
theorem isSome {α : Type} {x : α} {B : Prop} {A : α → Prop} (a : A x) : ((some x = none) → B) ∧ (∀ y, some x = some y → A y) := ⟨nofun, fun _ h => Option.some.inj h ▸ a⟩
theorem isNone {α : Type} {A : Prop} {B : α → Prop} (a : A) : ((none = (none : Option α)) → A) ∧ (∀ y, none = some y → B y) := ⟨fun _ => a, nofun⟩
end Go.Eng
namespace Go.Eng
open Go Go.RowKit Go.ChangeShapes Go.WideShapes
theorem trodAll_below {H : Type} {enc : TypeId × Value → H} {P : Program} {W W' : World} (hl : laidOutB P = true) (hb : Below W.heap.size W W') :
    ∀ (ts : List TypeId) (vs : List Value) (ds : List (DataW H)) (p : List MemPlace), ts.all (fun t => P.readableRec t && decide (t < P.types.size)) = true → (∀ x ∈ p, x.block < W.heap.size) →
    DataW.TrodAll enc P W 0 (fun _ => true) true ts vs ds p → DataW.TrodAll enc P W' 0 (fun b => decide (b < W.heap.size)) true ts vs ds p
  | [], vs, ds, p, _, _, h => by
    obtain ⟨rfl, rfl, rfl⟩ := trodAll_nil h
    exact trodAll_mk0
  | t :: ts, vs, ds, p, ht, hlt, h => by
    obtain ⟨v, vs', d, ds', p1, q, rfl, rfl, rfl, h1, h2⟩ := trodAll_cons h
    simp only [List.all_cons, Bool.and_eq_true, decide_eq_true_eq] at ht
    exact trodAll_cons_mk (Below.trod hl ht.1.1 ht.1.2 h1 hb (fun x hx => hlt x (List.mem_append_left _ hx))) (trodAll_below hl hb ts vs' ds' q ht.2 (fun x hx => hlt x (List.mem_append_right _ hx)) h2)
theorem law_lift {H : Type} {enc : TypeId × Value → H} {C : Checked} {os : Os} {f : FuncId} {fn : Func} {s : ChangeSpec} {apart : Bool} {X : World → Prop} {tb : TypeId}
    (own : ownKnob C.prog.godebug = none) (started : os.Started) (noInit : C.prog.inits.idxOf? f = none) (hfn : C.prog.funcs[f]? = some fn)
    (hX : ∀ (w w' : World), w.heap = w'.heap → X w → X w')
    (witness : ∃ (w : World) (tape : Tape) (i : Input), w.os = os ∧ (w.forCall tape i).Shaped C.prog ∧ i.vars = [] ∧ Input.okWide C.prog (w.forCall tape i) .any w.heap.size f i ∧
      ((s.pre enc C.prog fn [] apart (w.forCall tape i).memory i.args ∧ X (w.forCall tape i).memory) ∧ sizedMet enc C.prog fn (OpenSpec.ofChange s) apart (w.forCall tape i).memory i.args) ∧ ({} : Assume).holds C.prog (lone (Frame.enter C.prog f i.args .normal) [] (w.forCall tape i)))
    (hv : s.vars = []) (hs : ∀ ds : List (DataW H), ds.length = fn.params.toList.length → s.fn H ds = { results := [.lit (.bool true)], args := ds })
    (hres : fn.resultTypes = #[tb]) (hb : C.prog.underlying tb = some .bool) (hlo : laidOutB C.prog = true) (hread : fn.params.toList.all (fun t => C.prog.readableRec t && decide (t < C.prog.types.size)) = true)
    (walk : ∀ (W : World) (base : Nat) (args : List Value) (ds : List (DataW H)) (p : List MemPlace), (∀ (j : Nat) t v, fn.params[j]? = some t → args[j]? = some v → Value.okWide C.prog W .any base t v) →
      DataW.TrodAll enc C.prog W 0 (fun _ => true) true fn.params.toList args ds p → X W → Calls C.prog f ⟨args⟩ W fun e W' => e = .returned (.bool true) ∧ Below W.heap.size W W') :
    ReturnsInHanded {} C os f .any (fun w args => (s.pre enc C.prog fn [] apart w args ∧ X w) ∧ sizedMet enc C.prog fn (OpenSpec.ofChange s) apart w args)
      (s.post enc C.prog fn apart true false false) := by
  refine returnsInHanded_of_change_and (C := C) (X := fun w _ => X w) (fun _ _ _ hh h => hX _ _ hh h) own started noInit hfn witness ?_
  intro W base args ds gs before hval hW hcnd _ hL _
  have hW' := hW
  obtain ⟨p, q, hA, hV, rfl, hfz, hnd⟩ := hW
  rw [hv] at hV
  obtain ⟨rfl, rfl⟩ := trodVars_none hV
  have hlen : ds.length = fn.params.toList.length := by
    have : ∀ (ts : List TypeId) (vs : List Value) (ds : List (DataW H)) (p : List MemPlace), DataW.TrodAll enc C.prog W 0 (fun _ => true) true ts vs ds p → ds.length = ts.length := by
      intro ts
      induction ts with
      | nil => intro vs ds p h; obtain ⟨_, rfl, _⟩ := trodAll_nil h; rfl
      | cons t ts ih => intro vs ds p h; obtain ⟨v, vs', d, ds', p1, q, rfl, rfl, rfl, h1, h2⟩ := trodAll_cons h; simp [ih _ _ _ h2]
    exact this _ _ _ _ hA
  have hlt : ∀ x ∈ p, x.block < W.heap.size := fun x hx => hW'.lt x (List.mem_append_left _ hx)
  have harg : (⟨args.toList⟩ : Array Value) = args := rfl
  refine ((harg ▸ walk W base args.toList ds p (fun j t v h1 h2 => hval j t v h1 (by simpa using h2)) hA hL)).mono fun e W' hh => ?_
  obtain ⟨he, hbel⟩ := hh
  subst he
  have hsf : s.fn H (ds ++ []) = { results := [.lit (.bool true)], args := ds } := by rw [List.append_nil]; exact hs ds hlen
  refine ⟨_, rfl, ds, [], p ++ [], [], p, [], hW', ?_, ?_, ?_, hbel.frame _, fun h => by cases h⟩
  · rw [hsf, hres]
    exact trodAll_mk1 (shut_bool hb true)
  · rw [hsf]
    exact trodAll_below hlo hbel _ _ _ _ hread hlt hA
  · rw [hsf, hv]; rfl
end Go.Eng
namespace Go.Eng
open Go Go.RowKit Go.ChangeShapes Go.WideShapes Go.ChangeMaps
variable {H : Type} {enc : TypeId × Value → H} {P : Program} {w : World} {base : Nat} {sp : Nat → Bool} {held : Bool}
theorem cellsAt {W : World} {a : Addr} {n : Nat} {g : Nat → Value} (h : ∀ i, i < n → W.cell? (a.add i) = some (g i)) (hn : 0 < n) :
    ∃ c : List Value, a = ⟨a.block, a.off, none⟩ ∧ blkW W a.block = some c ∧ ∀ i, i < n → c[a.off + i]? = some (g i) := by
  have h0 := h 0 hn
  have ha : a.add 0 = a := if_pos rfl
  rw [ha] at h0
  unfold World.cell? at h0
  split at h0
  · next c t fz hh =>
    have hsp : a.spot = none := by
      cases hs : a.spot with
      | none => rfl
      | some x => rw [hs] at h0; simp at h0
    refine ⟨c.toList, by cases a; simp at hsp; rw [hsp], by rw [blkW, hh], fun i hi => ?_⟩
    have hi' := h i hi
    unfold World.cell? at hi'
    have hb : (a.add i).block = a.block := by unfold Addr.add; split <;> rfl
    have ho : (a.add i).off = a.off + i := by unfold Addr.add; split <;> simp_all
    have hs : (a.add i).spot = none := by unfold Addr.add; split <;> simp_all
    rw [hb, hh, hs] at hi'
    simp only [Option.isSome_none, Bool.false_eq_true, if_false, ho] at hi'
    rw [Array.getElem?_toList]; exact hi'
  · cases h0
end Go.Eng
namespace Go.Eng
open Go Go.RowKit Go.ChangeShapes Go.WideShapes Go.ChangeMaps
abbrev Lk := Nat → List Value → Prop
def lkW (w : World) : Lk := fun b c => blkW w b = some c
def SlAt {α : Type} (lk : Lk) (sz : Nat) (Φ : List Value → α → Prop) (p : Option Addr) (l : List α) : Prop :=
  0 < l.length → ∃ (b o : Nat) (c : List Value), p = some ⟨b, o, none⟩ ∧ lk b c ∧ ∀ i (h : i < l.length), o + i * sz + sz ≤ c.length ∧ Φ ((c.drop (o + i * sz)).take sz) l[i]
theorem SlAt.mono {α : Type} {lk lk' : Lk} {sz : Nat} {Φ Φ' : List Value → α → Prop} {p : Option Addr} {l : List α} (h : SlAt lk sz Φ p l) (hl : ∀ b c, lk b c → lk' b c) (hΦ : ∀ cs, ∀ a ∈ l, Φ cs a → Φ' cs a) : SlAt lk' sz Φ' p l := by
  intro hp
  obtain ⟨b, o, c, h1, h2, h3⟩ := h hp
  exact ⟨b, o, c, h1, hl b c h2, fun i hi => ⟨(h3 i hi).1, hΦ _ _ (List.getElem_mem hi) (h3 i hi).2⟩⟩
theorem SlAt.get {α : Type} {lk : Lk} {sz : Nat} {Φ : List Value → α → Prop} {p : Option Addr} {l : List α} (h : SlAt lk sz Φ p l) {i : Nat} (hi : i < l.length) :
    ∃ (b o : Nat) (c : List Value), p = some ⟨b, o, none⟩ ∧ lk b c ∧ o + i * sz + sz ≤ c.length ∧ Φ ((c.drop (o + i * sz)).take sz) l[i] := by
  obtain ⟨b, o, c, h1, h2, h3⟩ := h (by omega)
  exact ⟨b, o, c, h1, h2, (h3 i hi).1, (h3 i hi).2⟩
theorem SlAt.take {α : Type} {lk : Lk} {sz : Nat} {Φ : List Value → α → Prop} {p : Option Addr} {l : List α} (h : SlAt lk sz Φ p l) (n : Nat) : SlAt lk sz Φ p (l.take n) := by
  intro hp
  rw [List.length_take] at hp
  obtain ⟨b, o, c, h1, h2, h3⟩ := h (by omega)
  refine ⟨b, o, c, h1, h2, fun i hi => ?_⟩
  rw [List.length_take] at hi
  rw [List.getElem_take]
  exact h3 i (by omega)
theorem SlAt.nil {α : Type} {lk : Lk} {sz : Nat} {Φ : List Value → α → Prop} {p : Option Addr} : SlAt lk sz Φ p [] := fun h => absurd h (by simp)
theorem cellsB {w : World} {a : Addr} {n : Nat} {cs : List Value} (hn : 0 < n) (h : w.cells? 0 a n = some cs) :
    ∃ c : List Value, a = ⟨a.block, a.off, none⟩ ∧ blkW w a.block = some c ∧ a.off + n ≤ c.length ∧ cs = (c.drop a.off).take n := by
  obtain ⟨_, hl, hg⟩ := World.cells?_some h
  have hall : ∀ i, i < n → w.cell? (a.add i) = some ((fun i => (cs[i]?).getD (.bool false)) i) := by
    intro i hi
    rw [hg i hi]
    simp only
    rw [List.getElem?_eq_getElem (by omega), Option.getD_some]
  obtain ⟨c, h1, h2, h3⟩ := cellsAt hall hn
  refine ⟨c, h1, h2, ?_, ?_⟩
  · have := h3 (n - 1) (by omega)
    have := (List.getElem?_eq_some_iff.1 this).1
    omega
  · apply List.ext_getElem?
    intro i
    by_cases hi : i < n
    · rw [List.getElem?_take_of_lt hi, List.getElem?_drop, h3 i hi]
      rw [List.getElem?_eq_getElem (by omega), Option.getD_some]
    · rw [List.getElem?_eq_none (by omega), List.getElem?_eq_none (by simp; omega)]
theorem add_off (a : Addr) (j : Nat) : (a.add j).off = a.off + j := by
  unfold Addr.add; split <;> simp_all
def Opn {H : Type} (enc : TypeId × Value → H) (P : Program) (w : World) (t : TypeId) {α : Type} (Φ : List Value → α → Prop) : Prop :=
  ∀ fuel cs x, DataW.trod enc P w 0 (fun _ => true) true fuel t cs = some x → ∃ a, Φ cs a
variable {H : Type} {enc : TypeId × Value → H} {P : Program} {w : World} {t e : TypeId}
def intP (kd : IntKind) (cs : List Value) (n : Int) : Prop := cs = [.int kd n] ∧ (Lit.int kd n).wf = true
def strP (cs : List Value) (s : ByteArray) : Prop := cs = [.string s] ∧ s.size ≤ maxLen
def sliceP {α : Type} (lk : Lk) (sz : Nat) (Φ : List Value → α → Prop) (cs : List Value) (l : List α) : Prop :=
  ∃ (p : Option Addr) (n c : Nat), cs = [.slice p n c] ∧ l.length = n ∧ n ≤ c ∧ c ≤ maxLen ∧ (p = none → n = 0 ∧ c = 0) ∧ SlAt lk sz Φ p l
theorem opn_int {kd : IntKind} (ht : P.underlying t = some (.int kd)) : Opn enc P w t (intP kd) := by
  intro fuel cs x h
  obtain ⟨n, rfl, _, hw⟩ := DataW.trod_int ht h
  exact ⟨n, rfl, hw⟩
theorem opn_string (ht : P.underlying t = some .string) : Opn enc P w t strP := by
  intro fuel cs x h
  obtain ⟨s, rfl, _, hs⟩ := DataW.trod_string ht h
  exact ⟨s, rfl, hs⟩
theorem choose_list {α : Type} {Q : Nat → α → Prop} : ∀ n : Nat, (∀ i, i < n → ∃ a, Q i a) → ∃ l : List α, l.length = n ∧ ∀ i (h : i < l.length), Q i l[i]
  | 0, _ => ⟨[], rfl, fun i h => absurd h (by simp)⟩
  | n + 1, h => by
    obtain ⟨l, hl, hq⟩ := choose_list n (fun i hi => h i (by omega))
    obtain ⟨a, ha⟩ := h n (by omega)
    refine ⟨l ++ [a], by simp [hl], fun i hi => ?_⟩
    by_cases hc : i < l.length
    · rw [List.getElem_append_left hc]; exact hq i hc
    · have : i = n := by simp at hi; omega
      subst this
      rw [List.getElem_append_right (by omega)]
      simpa [hl] using ha
theorem opn_slice {α : Type} {Φ : List Value → α → Prop} {sz : Nat} (ht : P.underlying t = some (.slice e)) (hc : P.cellsOf e = sz) (hp : 0 < sz) (he : Opn enc P w e Φ) : Opn enc P w t (sliceP (lkW w) sz Φ) := by
  intro fuel cs x h
  rcases DataW.trod_slice ht h with ⟨rfl, _⟩ | ⟨a, len, cap, elems, rest, n, _, rfl, _, _, hl, hm, hlen, hel, _, _⟩
  · exact ⟨[], none, 0, 0, rfl, rfl, Nat.le_refl _, Nat.zero_le _, fun _ => ⟨rfl, rfl⟩, SlAt.nil⟩
  · rw [hc] at hel
    have each : ∀ i, i < len → ∃ y, ∃ c : List Value, (a.add (i * sz)) = ⟨a.block, a.off + i * sz, none⟩ ∧ blkW w a.block = some c ∧ a.off + i * sz + sz ≤ c.length ∧ Φ ((c.drop (a.off + i * sz)).take sz) y := by
      intro i hi
      have h1 := hel i hi
      rw [List.getElem?_eq_getElem (by omega), Option.bind_eq_some_iff] at h1
      obtain ⟨cs', h2, h3⟩ := h1
      obtain ⟨c, e1, e2, e3, rfl⟩ := cellsB hp h2
      have hb : (a.add (i * sz)).block = a.block := by unfold Addr.add; split <;> rfl
      have ho : (a.add (i * sz)).off = a.off + i * sz := add_off a _
      rw [hb, ho] at e1
      rw [hb] at e2
      rw [ho] at e3 h3
      obtain ⟨y, hy⟩ := he _ _ _ h3
      exact ⟨y, c, e1, e2, e3, hy⟩
    obtain ⟨l, hll, hq⟩ := choose_list len each
    refine ⟨l, some a, len, cap, rfl, hll, hl, hm, (fun h => by cases h), fun hpos => ?_⟩
    obtain ⟨c, e1, e2, _, _⟩ := hq 0 hpos
    have hsp : a = ⟨a.block, a.off, none⟩ := by
      have h0 : a.add 0 = a := by simp [Addr.add]
      rw [Nat.zero_mul, h0] at e1
      exact e1
    refine ⟨a.block, a.off, c, by rw [← hsp], e2, fun i hi => ?_⟩
    obtain ⟨c', _, f2, f3, f4⟩ := hq i hi
    have : c' = c := by rw [e2] at f2; exact (Option.some.inj f2).symm
    subst this
    exact ⟨f3, f4⟩
theorem opn_fields {fs : Array Field} {fuel : Nat} {cs : List Value} {x : DataW H × List MemPlace} (ht : P.underlying t = some (.struct fs)) (h : DataW.trod enc P w 0 (fun _ => true) true fuel t cs = some x) :
    cs.length = P.cellsOf t ∧ ∀ (i : Nat) (f : Field), fs[i]? = some f → ∀ {α : Type} {Φ : List Value → α → Prop}, Opn enc P w f.type Φ → ∃ a, Φ ((cs.drop f.offset).take (P.cellsOf f.type)) a := by
  obtain ⟨xs, n, _, _, hl, hxl, hf⟩ := DataW.trod_struct ht h
  refine ⟨hl, fun i f hi α Φ ho => ?_⟩
  have h1 := hf i f hi
  have hlt : i < fs.size := (Array.getElem?_eq_some_iff.1 hi).1
  rw [List.getElem?_eq_getElem (by omega)] at h1
  exact ho _ _ _ h1
theorem opn_len {fs : Array Field} {fuel : Nat} {cs : List Value} {x : DataW H × List MemPlace} (ht : P.underlying t = some (.struct fs)) (h : DataW.trod enc P w 0 (fun _ => true) true fuel t cs = some x) {n : Nat} (hn : P.cellsOf t = n) : cs.length = n := by
  rw [← hn]; exact (opn_fields ht h).1
theorem opn_field {fs : Array Field} {fuel : Nat} {cs : List Value} {x : DataW H × List MemPlace} (ht : P.underlying t = some (.struct fs)) (h : DataW.trod enc P w 0 (fun _ => true) true fuel t cs = some x) (i tf off n : Nat)
    (hi : (fs[i]?).map (fun f => (f.type, f.offset)) = some (tf, off)) (hn : P.cellsOf tf = n) {α : Type} {Φ : List Value → α → Prop} (ho : Opn enc P w tf Φ) : ∃ a, Φ ((cs.drop off).take n) a := by
  cases hf : fs[i]? with
  | none => rw [hf] at hi; cases hi
  | some f =>
    rw [hf] at hi
    simp only [Option.map_some, Option.some.injEq, Prod.mk.injEq] at hi
    obtain ⟨rfl, rfl⟩ := hi
    subst hn
    exact (opn_fields ht h).2 i f hf ho
theorem open_slice {α : Type} {Φ : List Value → α → Prop} {r : Reach} {b0 : Nat} {v : Value} {d : DataW H} {ps : List MemPlace} {sz : Nat} (ht : P.underlying t = some (.slice e)) (hc : P.cellsOf e = sz) (hp : 0 < sz) (he : Opn enc P w e Φ)
    (hval : Value.okWide P w r b0 t v) (hd : DataW.Trod enc P w 0 (fun _ => true) true t v d ps) :
    ∃ (l : List α) (p : Option Addr) (c : Nat), v = .slice p l.length c ∧ l.length ≤ c ∧ c ≤ maxLen ∧ (p = none → l.length = 0 ∧ c = 0) ∧ SlAt (lkW w) sz Φ p l := by
  obtain ⟨p, n, c, rfl⟩ := okWide_slice ht hval
  obtain ⟨fuel, hf⟩ := hd
  obtain ⟨l, p', n', c', h1, h2, h3, h4, h5, h6⟩ := opn_slice ht hc hp he _ _ _ hf
  simp only [Value.cells, List.cons.injEq, Value.slice.injEq, and_true] at h1
  obtain ⟨rfl, rfl, rfl⟩ := h1
  exact ⟨l, p, c, by rw [h2], by omega, h4, by rw [h2]; exact h5, h6⟩
end Go.Eng
namespace Go.Eng
open Go Go.RowKit Wire
set_option linter.unusedVariables false
def scan (s : ByteArray) (p : Int → Bool) (i : Nat) : Bool := ((bts s).drop i).all fun c => p (c.toNat : Int)
def txtB (b : Int) : Bool := decide (32 ≤ b ∧ b ≤ 126)
def nameB (b : Int) : Bool := decide ((97 ≤ b ∧ b ≤ 122) ∨ (48 ≤ b ∧ b ≤ 57) ∨ b = 45)
def txtOk (s : ByteArray) : Bool := decide (s.size ≤ 300) && scan s txtB 0
def nameOk (s : ByteArray) : Bool := decide (1 ≤ s.size ∧ s.size ≤ 20) && scan s nameB 0
def fillOk (s : ByteArray) : Bool := decide (s.size ≠ 0) && txtOk s
def ascOk : Int → List Int → Bool
  | _, [] => true
  | last, x :: r => decide (last < x ∧ x ≤ 64) && ascOk x r
def Lab.ok (l : Lab) : Bool := decide (0 ≤ l.unt ∧ l.unt ≤ 1000000000 ∧ 0 ≤ l.appr ∧ l.appr ≤ 5 ∧ 0 ≤ l.den ∧ l.den ≤ 15) && ascOk 0 l.after
def Blk.noRef (b : Blk) : Bool := decide (b.story = 0 ∧ b.ref = 0)
def Blk.kindOk (b : Blk) : Bool :=
  if b.kind = 1 then fillOk b.text && b.noRef
  else if b.kind = 2 then fillOk b.text && b.noRef
  else if b.kind = 3 then txtOk b.text && decide (1 ≤ b.story ∧ b.story ≤ 64 ∧ 1 ≤ b.ref ∧ b.ref ≤ 1000)
  else if b.kind = 4 then fillOk b.text && b.noRef
  else if b.kind = 5 then nameOk b.text && b.noRef
  else false
def Blk.ok (b : Blk) : Bool := decide (1 ≤ b.id ∧ b.id ≤ 1000) && (b.lab.ok && b.kindOk)
def listGo : List Blk → List Blk → Bool
  | _, [] => true
  | seen, b :: r => b.ok && (seen.all (fun e => decide (e.id ≠ b.id)) && listGo (seen ++ [b]) r)
def listOk (l : List Blk) : Bool := decide (l.length ≤ 24) && listGo [] l
theorem scan_cons {s : ByteArray} {p : Int → Bool} {i : Nat} (h : i < s.size) : scan s p i = (p (bat s i) && scan s p (i + 1)) := by
  have hl : i < (bts s).length := h
  unfold scan
  rw [List.drop_eq_getElem_cons hl, List.all_cons, bat_get hl]
theorem scan_end {s : ByteArray} {p : Int → Bool} {i : Nat} (h : s.size ≤ i) : scan s p i = true := by
  unfold scan
  rw [List.drop_of_length_le (by rw [bts_len]; exact h)]; rfl
theorem scan_yes {s : ByteArray} {p : Int → Bool} {i : Nat} (h : i < s.size) (hp : p (bat s i) = true) : scan s p i = scan s p (i + 1) := by rw [scan_cons h, hp, Bool.true_and]
theorem scan_no {s : ByteArray} {p : Int → Bool} {i : Nat} (h : i < s.size) (hp : p (bat s i) = false) : scan s p i = false := by rw [scan_cons h, hp, Bool.false_and]
def IntsL (lk : Lk) (p : Option Addr) (l : List Int) : Prop :=
  0 < l.length → ∃ (b o : Nat) (c : List Value), p = some ⟨b, o, none⟩ ∧ lk b c ∧ ∀ i (h : i < l.length), c[o + i]? = some (.int .i64 l[i])
abbrev Lab.cells (l : Lab) (p : Option Addr) (c : Nat) : List Value := [.int .i64 l.unt, .slice p l.after.length c, .int .i64 l.appr, .int .i64 l.den]
abbrev Blk.cells (b : Blk) (p : Option Addr) (c : Nat) : List Value := [.int .i64 b.id, .int .i64 b.kind, .string b.text, .int .i64 b.story, .int .i64 b.ref, .int .i64 b.lab.unt, .slice p b.lab.after.length c, .int .i64 b.lab.appr, .int .i64 b.lab.den]
def Blk.Fits (b : Blk) : Prop := b.text.size ≤ 9223372036854775807 ∧ b.lab.after.length ≤ 9223372036854775807
def BlkL (lk : Lk) (cs : List Value) (b : Blk) : Prop := ∃ p c, cs = b.cells p c ∧ IntsL lk p b.lab.after ∧ b.Fits
def BlksL (lk : Lk) (p : Option Addr) (l : List Blk) : Prop :=
  0 < l.length → ∃ (b o : Nat) (c : List Value), p = some ⟨b, o, none⟩ ∧ lk b c ∧ ∀ i (h : i < l.length), o + i * 9 + 9 ≤ c.length ∧ BlkL lk ((c.drop (o + i * 9)).take 9) l[i]
def StrsL (lk : Lk) (p : Option Addr) (l : List ByteArray) : Prop :=
  0 < l.length → ∃ (b o : Nat) (c : List Value), p = some ⟨b, o, none⟩ ∧ lk b c ∧ ∀ i (h : i < l.length), c[o + i]? = some (.string l[i])
theorem IntsL.mono {lk lk' : Lk} {p : Option Addr} {l : List Int} (h : IntsL lk p l) (hl : ∀ b c, lk b c → lk' b c) : IntsL lk' p l := by
  intro hp
  obtain ⟨b, o, c, h1, h2, h3⟩ := h hp
  exact ⟨b, o, c, h1, hl b c h2, h3⟩
theorem BlkL.mono {lk lk' : Lk} {cs : List Value} {b : Blk} (h : BlkL lk cs b) (hl : ∀ b c, lk b c → lk' b c) : BlkL lk' cs b := by
  obtain ⟨p, c, h1, h2, h3⟩ := h
  exact ⟨p, c, h1, h2.mono hl, h3⟩
theorem BlksL.mono {lk lk' : Lk} {p : Option Addr} {l : List Blk} (h : BlksL lk p l) (hl : ∀ b c, lk b c → lk' b c) : BlksL lk' p l := by
  intro hp
  obtain ⟨b, o, c, h1, h2, h3⟩ := h hp
  exact ⟨b, o, c, h1, hl b c h2, fun i hi => ⟨(h3 i hi).1, (h3 i hi).2.mono hl⟩⟩
theorem StrsL.mono {lk lk' : Lk} {p : Option Addr} {l : List ByteArray} (h : StrsL lk p l) (hl : ∀ b c, lk b c → lk' b c) : StrsL lk' p l := by
  intro hp
  obtain ⟨b, o, c, h1, h2, h3⟩ := h hp
  exact ⟨b, o, c, h1, hl b c h2, h3⟩
theorem IntsL.get {lk : Lk} {p : Option Addr} {l : List Int} (h : IntsL lk p l) {i : Nat} (hi : i < l.length) : ∃ (b o : Nat) (c : List Value), p = some ⟨b, o, none⟩ ∧ lk b c ∧ c[o + i]? = some (.int .i64 l[i]) := by
  obtain ⟨b, o, c, h1, h2, h3⟩ := h (by omega)
  exact ⟨b, o, c, h1, h2, h3 i hi⟩
theorem BlksL.get {lk : Lk} {p : Option Addr} {l : List Blk} (h : BlksL lk p l) {i : Nat} (hi : i < l.length) :
    ∃ (b o : Nat) (c : List Value), p = some ⟨b, o, none⟩ ∧ lk b c ∧ o + i * 9 + 9 ≤ c.length ∧ BlkL lk ((c.drop (o + i * 9)).take 9) l[i] := by
  obtain ⟨b, o, c, h1, h2, h3⟩ := h (by omega)
  exact ⟨b, o, c, h1, h2, (h3 i hi).1, (h3 i hi).2⟩
theorem StrsL.get {lk : Lk} {p : Option Addr} {l : List ByteArray} (h : StrsL lk p l) {i : Nat} (hi : i < l.length) : ∃ (b o : Nat) (c : List Value), p = some ⟨b, o, none⟩ ∧ lk b c ∧ c[o + i]? = some (.string l[i]) := by
  obtain ⟨b, o, c, h1, h2, h3⟩ := h (by omega)
  exact ⟨b, o, c, h1, h2, h3 i hi⟩
abbrev PW (P : Program) (g : FuncId) (args : Array Value) (W : World) (v : Value) : Prop := Calls P g args W fun e W' => e = .returned v ∧ Below W.heap.size W W'
theorem CallH.pw {P : Program} {L : SHeap} {S : List Nat} {w0 : World} {g : FuncId} {args : Array Value} {v : Value} {K : Value → SHeap → Prop} (h : ∀ W, Mem L S w0 W → PW P g args W v) (hK : K v L) : CallH P g args L S w0 K :=
  fun W hm => (h W hm).mono fun e W' ⟨he, hb⟩ => ⟨v, L, he, hm.after hb, hK⟩
theorem finPW {v u : Value} {W : World} {L : SHeap} (h : v = u) : Fin (fun e W' => e = .returned u ∧ Below W.heap.size W W') L [] W v := fun _ hm => ⟨by rw [h], hm.kept.below⟩
theorem lkW_kept {w0 W : World} {L : SHeap} (hm : Mem L [] w0 W) : ∀ b c, lkW w0 b c → lkW W b c := fun b c h => blkW_kept hm.kept (by simp) h
def lkM (L : SHeap) (w0 : World) : Lk := fun b c => (∃ t fz, (b, Obj.cells ⟨c⟩ t fz) ∈ L) ∨ lkW w0 b c
theorem lkM_kept {w0 W : World} {L : SHeap} (hm : Mem L [] w0 W) : ∀ b c, lkM L w0 b c → lkW W b c := by
  rintro b c (⟨t, fz, h⟩ | h)
  · have := hm.here _ h
    simp only at this
    simp [lkW, blkW, this]
  · exact lkW_kept hm b c h
theorem lkM_old {w0 : World} {L : SHeap} : ∀ b c, lkW w0 b c → lkM L w0 b c := fun _ _ h => .inr h
end Go.Eng
namespace Go.Eng
open Go Go.RowKit Go.Proofs
set_option linter.unusedVariables false
set_option maxRecDepth 100000
def isText_c0 (s1 : ByteArray) (i : Int) (w0 : World) (R : Ending → World → Prop) : Prop :=
 AtE Tryz.prog 196 23 [.code (sub (Eng.body Tryz.f196) [1,1,0,1,0,0]), .inLoop (sub (Eng.body Tryz.f196) [1,1,0,1,0,0]), .inBlock 0, .code (sub (Eng.body Tryz.f196) [1,1,1])] [(0, .string s1), (3, .int .i64 i)] [] [] w0 (nrm R)
theorem isText_c0_vc (s1 : ByteArray) (i : Int) {R : Ending → World → Prop} {w0 : World}
  (H :
   ((i < (s1.size : Int)) →
    (0 ≤ i ∧ i < s1.size) ∧
    (((bat s1 i) < (32 : Int)) →
     Fin R [] [] w0 (.bool false)) ∧
     ((¬ ((bat s1 i) < (32 : Int))) →
     (0 ≤ i ∧ i < s1.size) ∧
     (((126 : Int) < (bat s1 i)) →
      Fin R [] [] w0 (.bool false)) ∧
      ((¬ ((126 : Int) < (bat s1 i))) →
      ∀ i1 : Int, i1 = (IntKind.i64.wrap (i + (1 : Int))) →
      isText_c0 s1 i1 w0 R))) ∧
    ((¬ (i < (s1.size : Int))) →
    Fin R [] [] w0 (.bool true))) :
  isText_c0 s1 i w0 R := by
 unfold isText_c0
 refine AtE.ru 8 ?_
 refine AtE.splitP 10 (p := i < (s1.size : Int)) (by kernel_rfl) (fun h2' => ?_) (fun h2' => ?_)
 ·replace H := H.1 h2'
  refine AtE.ru 8 ?_
  refine AtE.indexS (s := s1) (kd := .i64) (i := i) (by kernel_rfl) H.1 ?_
  replace H := H.2
  refine AtE.ru 2 ?_
  refine AtE.splitP 17 (p := (bat s1 i) < (32 : Int)) (by kernel_rfl) (fun h3' => ?_) (fun h3' => ?_)
  ·replace H := H.1 h3'
   refine AtE.ru 11 ?_
   exact AtE.ret Tryz.func196 (by kernel_rfl) H
  ·replace H := H.2 h3'
   refine AtE.ru 2 ?_
   refine AtE.indexS (s := s1) (kd := .i64) (i := i) (by kernel_rfl) H.1 ?_
   replace H := H.2
   refine AtE.ru 3 ?_
   refine AtE.splitP 22 (p := (126 : Int) < (bat s1 i)) (by kernel_rfl) (fun h4' => ?_) (fun h4' => ?_)
   ·replace H := H.1 h4'
    refine AtE.ru 5 ?_
    exact AtE.ret Tryz.func196 (by kernel_rfl) H
   ·replace H := H.2 h4'
    refine AtE.ru 7 ?_
    refine AtE.letI 3 (kd := .i64) (n := (IntKind.i64.wrap (i + (1 : Int)))) (by kernel_rfl) (fun i1 hi1 => ?_)
    replace H := H i1 hi1
    refine AtE.ru 2 ?_
    exact AtE.cut [] H (by kernel_rfl)
 ·replace H := H.2 h2'
  refine AtE.ru 6 ?_
  exact AtE.ret Tryz.func196 (by kernel_rfl) H
theorem isText_vc (s : ByteArray) {R : Ending → World → Prop} {w0 W : World} (hm : Mem [] [] w0 W)
  (H :
   (((300 : Int) < (s.size : Int)) →
    Fin R [] [] w0 (.bool false)) ∧
    ((¬ ((300 : Int) < (s.size : Int))) →
    isText_c0 s (0 : Int) w0 R)) :
  Calls Tryz.prog 196 ⟨[.string s]⟩ W R := by
 refine AtE.calls (nt := 23) Tryz.func196 (by kernel_rfl) hm ?_
 refine AtE.ru 11 ?_
 refine AtE.splitP 6 (p := (300 : Int) < (s.size : Int)) (by kernel_rfl) (fun h1' => ?_) (fun h1' => ?_)
 ·replace H := H.1 h1'
  refine AtE.ru 5 ?_
  exact AtE.ret Tryz.func196 (by kernel_rfl) H
 ·replace H := H.2 h1'
  refine AtE.ru 9 ?_
  exact AtE.cut [] H (by kernel_rfl)
def isName_c0 (s1 : ByteArray) (i : Int) (w0 : World) (R : Ending → World → Prop) : Prop :=
 AtE Tryz.prog 203 52 [.code (sub (Eng.body Tryz.f203) [1,1,0,1,0,0]), .inLoop (sub (Eng.body Tryz.f203) [1,1,0,1,0,0]), .inBlock 0, .code (sub (Eng.body Tryz.f203) [1,1,1])] [(0, .string s1), (3, .int .i64 i)] [] [] w0 (nrm R)
theorem isName_c0_vc (s1 : ByteArray) (i : Int) {R : Ending → World → Prop} {w0 : World}
  (H :
   ((i < (s1.size : Int)) →
    (0 ≤ i ∧ i < s1.size) ∧
    (((97 : Int) ≤ (bat s1 i)) →
     (0 ≤ i ∧ i < s1.size) ∧
     (0 ≤ i ∧ i < s1.size) ∧
     (((48 : Int) ≤ (bat s1 i)) →
      (0 ≤ i ∧ i < s1.size) ∧
      ((¬ ((bat s1 i) ≤ (122 : Int))) →
       ((¬ ((bat s1 i) ≤ (57 : Int))) →
        (0 ≤ i ∧ i < s1.size) ∧
        ((¬ ((bat s1 i) = (45 : Int))) →
         Fin R [] [] w0 (.bool false)) ∧
         (((bat s1 i) = (45 : Int)) →
         ∀ i1 : Int, i1 = (IntKind.i64.wrap (i + (1 : Int))) →
         isName_c0 s1 i1 w0 R)) ∧
        (((bat s1 i) ≤ (57 : Int)) →
        ∀ i2 : Int, i2 = (IntKind.i64.wrap (i + (1 : Int))) →
        isName_c0 s1 i2 w0 R)) ∧
       (((bat s1 i) ≤ (122 : Int)) →
       ∀ i3 : Int, i3 = (IntKind.i64.wrap (i + (1 : Int))) →
       isName_c0 s1 i3 w0 R)) ∧
      ((¬ ((48 : Int) ≤ (bat s1 i))) →
      ((¬ ((bat s1 i) ≤ (122 : Int))) →
       (0 ≤ i ∧ i < s1.size) ∧
       ((¬ ((bat s1 i) = (45 : Int))) →
        Fin R [] [] w0 (.bool false)) ∧
        (((bat s1 i) = (45 : Int)) →
        ∀ i4 : Int, i4 = (IntKind.i64.wrap (i + (1 : Int))) →
        isName_c0 s1 i4 w0 R)) ∧
       (((bat s1 i) ≤ (122 : Int)) →
       ∀ i5 : Int, i5 = (IntKind.i64.wrap (i + (1 : Int))) →
       isName_c0 s1 i5 w0 R))) ∧
     ((¬ ((97 : Int) ≤ (bat s1 i))) →
     (0 ≤ i ∧ i < s1.size) ∧
     (((48 : Int) ≤ (bat s1 i)) →
      (0 ≤ i ∧ i < s1.size) ∧
      ((¬ ((bat s1 i) ≤ (57 : Int))) →
       (0 ≤ i ∧ i < s1.size) ∧
       ((¬ ((bat s1 i) = (45 : Int))) →
        Fin R [] [] w0 (.bool false)) ∧
        (((bat s1 i) = (45 : Int)) →
        ∀ i6 : Int, i6 = (IntKind.i64.wrap (i + (1 : Int))) →
        isName_c0 s1 i6 w0 R)) ∧
       (((bat s1 i) ≤ (57 : Int)) →
       ∀ i7 : Int, i7 = (IntKind.i64.wrap (i + (1 : Int))) →
       isName_c0 s1 i7 w0 R)) ∧
      ((¬ ((48 : Int) ≤ (bat s1 i))) →
      (0 ≤ i ∧ i < s1.size) ∧
      ((¬ ((bat s1 i) = (45 : Int))) →
       Fin R [] [] w0 (.bool false)) ∧
       (((bat s1 i) = (45 : Int)) →
       ∀ i8 : Int, i8 = (IntKind.i64.wrap (i + (1 : Int))) →
       isName_c0 s1 i8 w0 R)))) ∧
    ((¬ (i < (s1.size : Int))) →
    Fin R [] [] w0 (.bool true))) :
  isName_c0 s1 i w0 R := by
 unfold isName_c0
 refine AtE.ru 8 ?_
 refine AtE.splitP 17 (p := i < (s1.size : Int)) (by kernel_rfl) (fun h3' => ?_) (fun h3' => ?_)
 ·replace H := H.1 h3'
  refine AtE.ru 8 ?_
  refine AtE.indexS (s := s1) (kd := .i64) (i := i) (by kernel_rfl) H.1 ?_
  replace H := H.2
  refine AtE.ru 2 ?_
  refine AtE.splitP 24 (p := (97 : Int) ≤ (bat s1 i)) (by kernel_rfl) (fun h4' => ?_) (fun h4' => ?_)
  ·replace H := H.1 h4'
   refine AtE.ru 2 ?_
   refine AtE.indexS (s := s1) (kd := .i64) (i := i) (by kernel_rfl) H.1 ?_
   replace H := H.2
   refine AtE.ru 8 ?_
   refine AtE.indexS (s := s1) (kd := .i64) (i := i) (by kernel_rfl) H.1 ?_
   replace H := H.2
   refine AtE.ru 2 ?_
   refine AtE.splitP 34 (p := (48 : Int) ≤ (bat s1 i)) (by kernel_rfl) (fun h5' => ?_) (fun h5' => ?_)
   ·replace H := H.1 h5'
    refine AtE.ru 2 ?_
    refine AtE.indexS (s := s1) (kd := .i64) (i := i) (by kernel_rfl) H.1 ?_
    replace H := H.2
    refine AtE.norm (k' := [.inRegion (regOps [.code (sub (Eng.body Tryz.f203) [1,1,0,1,0,0,1,0,0,1,0])]) [8,9,10], .code (sub (Eng.body Tryz.f203) [1,1,0,1,0,0,1,0,0,1,1]), .inBlock 1, .code (sub (Eng.body Tryz.f203) [1,1,0,1,0,0,1,1]), .inLoop (sub (Eng.body Tryz.f203) [1,1,0,1,0,0]), .inBlock 0, .code (sub (Eng.body Tryz.f203) [1,1,1])]) (e' := [(0, .string s1), (3, .int .i64 i), (4, .bool (decide ((bat s1 i) ≤ (122 : Int)))), (34, .bool true), (37, .int .u8 (bat s1 i))]) (L' := []) ?_ (by kernel_rfl)
    refine AtE.ru 9 ?_
    refine AtE.splitN 42 (p := (bat s1 i) ≤ (122 : Int)) (by kernel_rfl) (fun h6' => ?_) (fun h6' => ?_)
    ·replace H := H.1 h6'
     refine AtE.ru 4 ?_
     refine AtE.splitN 46 (p := (bat s1 i) ≤ (57 : Int)) (by kernel_rfl) (fun h7' => ?_) (fun h7' => ?_)
     ·replace H := H.1 h7'
      refine AtE.ru 2 ?_
      refine AtE.indexS (s := s1) (kd := .i64) (i := i) (by kernel_rfl) H.1 ?_
      replace H := H.2
      refine AtE.ru 3 ?_
      refine AtE.splitN 51 (p := (bat s1 i) = (45 : Int)) (by kernel_rfl) (fun h8' => ?_) (fun h8' => ?_)
      ·replace H := H.1 h8'
       refine AtE.ru 5 ?_
       exact AtE.ret Tryz.func203 (by kernel_rfl) H
      ·replace H := H.2 h8'
       refine AtE.ru 7 ?_
       refine AtE.letI 3 (kd := .i64) (n := (IntKind.i64.wrap (i + (1 : Int)))) (by kernel_rfl) (fun i1 hi1 => ?_)
       replace H := H i1 hi1
       refine AtE.ru 2 ?_
       exact AtE.cut [] H (by kernel_rfl)
     ·replace H := H.2 h7'
      refine AtE.ru 13 ?_
      refine AtE.letI 3 (kd := .i64) (n := (IntKind.i64.wrap (i + (1 : Int)))) (by kernel_rfl) (fun i2 hi2 => ?_)
      replace H := H i2 hi2
      refine AtE.ru 2 ?_
      exact AtE.cut [] H (by kernel_rfl)
    ·replace H := H.2 h6'
     refine AtE.ru 17 ?_
     refine AtE.letI 3 (kd := .i64) (n := (IntKind.i64.wrap (i + (1 : Int)))) (by kernel_rfl) (fun i3 hi3 => ?_)
     replace H := H i3 hi3
     refine AtE.ru 2 ?_
     exact AtE.cut [] H (by kernel_rfl)
   ·replace H := H.2 h5'
    refine AtE.ru 12 ?_
    refine AtE.splitN 42 (p := (bat s1 i) ≤ (122 : Int)) (by kernel_rfl) (fun h9' => ?_) (fun h9' => ?_)
    ·replace H := H.1 h9'
     refine AtE.norm (k' := [.inRegion (regOps [.code (sub (Eng.body Tryz.f203) [1,1,0,1,0,0,1,0,0,1,1,0])]) [3,4,5,6,7,8,9,10,11], .code (sub (Eng.body Tryz.f203) [1,1,0,1,0,0,1,0,0,1,1,1]), .inBlock 1, .code (sub (Eng.body Tryz.f203) [1,1,0,1,0,0,1,1]), .inLoop (sub (Eng.body Tryz.f203) [1,1,0,1,0,0]), .inBlock 0, .code (sub (Eng.body Tryz.f203) [1,1,1])]) (e' := [(0, .string s1), (3, .int .i64 i), (5, .bool false), (42, .bool true)]) (L' := []) ?_ (by kernel_rfl)
     refine AtE.ru 6 ?_
     refine AtE.indexS (s := s1) (kd := .i64) (i := i) (by kernel_rfl) H.1 ?_
     replace H := H.2
     refine AtE.ru 3 ?_
     refine AtE.splitN 51 (p := (bat s1 i) = (45 : Int)) (by kernel_rfl) (fun h10' => ?_) (fun h10' => ?_)
     ·replace H := H.1 h10'
      refine AtE.ru 5 ?_
      exact AtE.ret Tryz.func203 (by kernel_rfl) H
     ·replace H := H.2 h10'
      refine AtE.ru 7 ?_
      refine AtE.letI 3 (kd := .i64) (n := (IntKind.i64.wrap (i + (1 : Int)))) (by kernel_rfl) (fun i4 hi4 => ?_)
      replace H := H i4 hi4
      refine AtE.ru 2 ?_
      exact AtE.cut [] H (by kernel_rfl)
    ·replace H := H.2 h9'
     refine AtE.norm (k' := [.inRegion (regOps [.code (sub (Eng.body Tryz.f203) [1,1,0,1,0,0,1,0,0,1,1,0])]) [3,4,5,6,7,8,9,10,11], .code (sub (Eng.body Tryz.f203) [1,1,0,1,0,0,1,0,0,1,1,1]), .inBlock 1, .code (sub (Eng.body Tryz.f203) [1,1,0,1,0,0,1,1]), .inLoop (sub (Eng.body Tryz.f203) [1,1,0,1,0,0]), .inBlock 0, .code (sub (Eng.body Tryz.f203) [1,1,1])]) (e' := [(0, .string s1), (3, .int .i64 i), (5, .bool false), (42, .bool false)]) (L' := []) ?_ (by kernel_rfl)
     refine AtE.ru 17 ?_
     refine AtE.letI 3 (kd := .i64) (n := (IntKind.i64.wrap (i + (1 : Int)))) (by kernel_rfl) (fun i5 hi5 => ?_)
     replace H := H i5 hi5
     refine AtE.ru 2 ?_
     exact AtE.cut [] H (by kernel_rfl)
  ·replace H := H.2 h4'
   refine AtE.ru 11 ?_
   refine AtE.indexS (s := s1) (kd := .i64) (i := i) (by kernel_rfl) H.1 ?_
   replace H := H.2
   refine AtE.ru 2 ?_
   refine AtE.splitP 34 (p := (48 : Int) ≤ (bat s1 i)) (by kernel_rfl) (fun h11' => ?_) (fun h11' => ?_)
   ·replace H := H.1 h11'
    refine AtE.ru 2 ?_
    refine AtE.indexS (s := s1) (kd := .i64) (i := i) (by kernel_rfl) H.1 ?_
    replace H := H.2
    refine AtE.ru 13 ?_
    refine AtE.splitN 46 (p := (bat s1 i) ≤ (57 : Int)) (by kernel_rfl) (fun h12' => ?_) (fun h12' => ?_)
    ·replace H := H.1 h12'
     refine AtE.norm (k' := [.inRegion (regOps [.code (sub (Eng.body Tryz.f203) [1,1,0,1,0,0,1,0,0,1,1,0])]) [7,8,9,10,11], .code (sub (Eng.body Tryz.f203) [1,1,0,1,0,0,1,0,0,1,1,1]), .inBlock 1, .code (sub (Eng.body Tryz.f203) [1,1,0,1,0,0,1,1]), .inLoop (sub (Eng.body Tryz.f203) [1,1,0,1,0,0]), .inBlock 0, .code (sub (Eng.body Tryz.f203) [1,1,1])]) (e' := [(0, .string s1), (3, .int .i64 i), (46, .bool true)]) (L' := []) ?_ (by kernel_rfl)
     refine AtE.ru 2 ?_
     refine AtE.indexS (s := s1) (kd := .i64) (i := i) (by kernel_rfl) H.1 ?_
     replace H := H.2
     refine AtE.ru 3 ?_
     refine AtE.splitN 51 (p := (bat s1 i) = (45 : Int)) (by kernel_rfl) (fun h13' => ?_) (fun h13' => ?_)
     ·replace H := H.1 h13'
      refine AtE.ru 5 ?_
      exact AtE.ret Tryz.func203 (by kernel_rfl) H
     ·replace H := H.2 h13'
      refine AtE.ru 7 ?_
      refine AtE.letI 3 (kd := .i64) (n := (IntKind.i64.wrap (i + (1 : Int)))) (by kernel_rfl) (fun i6 hi6 => ?_)
      replace H := H i6 hi6
      refine AtE.ru 2 ?_
      exact AtE.cut [] H (by kernel_rfl)
    ·replace H := H.2 h12'
     refine AtE.norm (k' := [.inRegion (regOps [.code (sub (Eng.body Tryz.f203) [1,1,0,1,0,0,1,0,0,1,1,0])]) [7,8,9,10,11], .code (sub (Eng.body Tryz.f203) [1,1,0,1,0,0,1,0,0,1,1,1]), .inBlock 1, .code (sub (Eng.body Tryz.f203) [1,1,0,1,0,0,1,1]), .inLoop (sub (Eng.body Tryz.f203) [1,1,0,1,0,0]), .inBlock 0, .code (sub (Eng.body Tryz.f203) [1,1,1])]) (e' := [(0, .string s1), (3, .int .i64 i), (46, .bool false)]) (L' := []) ?_ (by kernel_rfl)
     refine AtE.ru 13 ?_
     refine AtE.letI 3 (kd := .i64) (n := (IntKind.i64.wrap (i + (1 : Int)))) (by kernel_rfl) (fun i7 hi7 => ?_)
     replace H := H i7 hi7
     refine AtE.ru 2 ?_
     exact AtE.cut [] H (by kernel_rfl)
   ·replace H := H.2 h11'
    refine AtE.ru 18 ?_
    refine AtE.indexS (s := s1) (kd := .i64) (i := i) (by kernel_rfl) H.1 ?_
    replace H := H.2
    refine AtE.ru 3 ?_
    refine AtE.splitN 51 (p := (bat s1 i) = (45 : Int)) (by kernel_rfl) (fun h14' => ?_) (fun h14' => ?_)
    ·replace H := H.1 h14'
     refine AtE.norm (k' := [.code (sub (Eng.body Tryz.f203) [1,1,0,1,0,0,1,0,0,1,1,1]), .inBlock 1, .code (sub (Eng.body Tryz.f203) [1,1,0,1,0,0,1,1]), .inLoop (sub (Eng.body Tryz.f203) [1,1,0,1,0,0]), .inBlock 0, .code (sub (Eng.body Tryz.f203) [1,1,1])]) (e' := [(0, .string s1), (3, .int .i64 i), (51, .bool true)]) (L' := []) ?_ (by kernel_rfl)
     refine AtE.ru 5 ?_
     exact AtE.ret Tryz.func203 (by kernel_rfl) H
    ·replace H := H.2 h14'
     refine AtE.norm (k' := [.code (sub (Eng.body Tryz.f203) [1,1,0,1,0,0,1,0,0,1,1,1]), .inBlock 1, .code (sub (Eng.body Tryz.f203) [1,1,0,1,0,0,1,1]), .inLoop (sub (Eng.body Tryz.f203) [1,1,0,1,0,0]), .inBlock 0, .code (sub (Eng.body Tryz.f203) [1,1,1])]) (e' := [(0, .string s1), (3, .int .i64 i), (51, .bool false)]) (L' := []) ?_ (by kernel_rfl)
     refine AtE.ru 7 ?_
     refine AtE.letI 3 (kd := .i64) (n := (IntKind.i64.wrap (i + (1 : Int)))) (by kernel_rfl) (fun i8 hi8 => ?_)
     replace H := H i8 hi8
     refine AtE.ru 2 ?_
     exact AtE.cut [] H (by kernel_rfl)
 ·replace H := H.2 h3'
  refine AtE.ru 6 ?_
  exact AtE.ret Tryz.func203 (by kernel_rfl) H
theorem isName_vc (s : ByteArray) {R : Ending → World → Prop} {w0 W : World} (hm : Mem [] [] w0 W)
  (H :
   (((s.size : Int) < (1 : Int)) →
    Fin R [] [] w0 (.bool false)) ∧
    ((¬ ((s.size : Int) < (1 : Int))) →
    (((20 : Int) < (s.size : Int)) →
     Fin R [] [] w0 (.bool false)) ∧
     ((¬ ((20 : Int) < (s.size : Int))) →
     isName_c0 s (0 : Int) w0 R))) :
  Calls Tryz.prog 203 ⟨[.string s]⟩ W R := by
 refine AtE.calls (nt := 52) Tryz.func203 (by kernel_rfl) hm ?_
 refine AtE.ru 11 ?_
 refine AtE.splitP 9 (p := (s.size : Int) < (1 : Int)) (by kernel_rfl) (fun h1' => ?_) (fun h1' => ?_)
 ·replace H := H.1 h1'
  refine AtE.ru 10 ?_
  exact AtE.ret Tryz.func203 (by kernel_rfl) H
 ·replace H := H.2 h1'
  refine AtE.ru 5 ?_
  refine AtE.splitP 13 (p := (20 : Int) < (s.size : Int)) (by kernel_rfl) (fun h2' => ?_) (fun h2' => ?_)
  ·replace H := H.1 h2'
   refine AtE.ru 5 ?_
   exact AtE.ret Tryz.func203 (by kernel_rfl) H
  ·replace H := H.2 h2'
   refine AtE.ru 9 ?_
   exact AtE.cut [] H (by kernel_rfl)
theorem rul1_vc (s : ByteArray) {R : Ending → World → Prop} {w0 W : World} (hm : Mem [] [] w0 W)
  (H :
   ((¬ s = (⟨#[]⟩ : ByteArray)) →
    CallH Tryz.prog 196 ⟨[.string s]⟩ [] [] w0 (fun v L' => ∃ (r1 : Bool), v = (.bool r1) ∧ L' = [] ∧
     Fin R [] [] w0 (.bool r1))) ∧
    ((s = (⟨#[]⟩ : ByteArray)) →
    Fin R [] [] w0 (.bool false))) :
  Calls Tryz.prog 195 ⟨[.string s]⟩ W R := by
 refine AtE.calls (nt := 9) Tryz.func195 (by kernel_rfl) hm ?_
 refine AtE.ru 9 ?_
 refine AtE.splitT 5 (x := s) (y := (⟨#[]⟩ : ByteArray)) (by kernel_rfl) (fun h1' => ?_) (fun h1' => ?_)
 ·replace H := H.1 h1'
  refine AtE.ru 1 ?_
  refine AtE.call 196 ⟨[.string s]⟩ (fun W => by kernel_rfl) (by kernel_rfl) H ?_
  clear H
  rintro _ _ ⟨r1, rfl, rfl, H⟩
  refine AtE.ru 3 ?_
  exact AtE.ret Tryz.func195 (by kernel_rfl) H
 ·replace H := H.2 h1'
  refine AtE.ru 5 ?_
  exact AtE.ret Tryz.func195 (by kernel_rfl) H
def eqInts_c0 (s11_p : Option Addr) (s11_l : Nat) (s11_c : Nat) (s21_p : Option Addr) (s21_l : Nat) (s21_c : Nat) (t12 : Int) (t13 : Int) (w0 : World) (R : Ending → World → Prop) : Prop :=
 AtE Tryz.prog 109 26 [.code (sub (Eng.body Tryz.f109) [1,1,0,1,0,0]), .inLoop (sub (Eng.body Tryz.f109) [1,1,0,1,0,0]), .inBlock 0, .code (sub (Eng.body Tryz.f109) [1,1,1])] [(0, .slice s11_p s11_l s11_c), (1, .slice s21_p s21_l s21_c), (12, .int .i64 t12), (13, .int .i64 t13)] [] [] w0 (nrm R)
theorem eqInts_c0_vc (s11_p : Option Addr) (s11_l : Nat) (s11_c : Nat) (s21_p : Option Addr) (s21_l : Nat) (s21_c : Nat) (t12 : Int) (t13 : Int) {R : Ending → World → Prop} {w0 : World}
  (H :
   ((t13 < t12) →
    ∃ s11_pb s11_po : Nat, s11_p = some ⟨s11_pb, s11_po, none⟩ ∧
    (0 ≤ t13 ∧ t13 < s11_l) ∧
    ∃ (cw : List Value) (m1 : Int), blkW w0 s11_pb = some cw ∧ cw[(s11_po + (Int.toNat t13))]? = some (.int .i64 m1) ∧
    ∃ s21_pb s21_po : Nat, s21_p = some ⟨s21_pb, s21_po, none⟩ ∧
    (0 ≤ t13 ∧ t13 < s21_l) ∧
    ∃ (cw1 : List Value) (m21 : Int), blkW w0 s21_pb = some cw1 ∧ cw1[(s21_po + (Int.toNat t13))]? = some (.int .i64 m21) ∧
    ((¬ (m1 = m21)) →
     Fin R [] [] w0 (.bool false)) ∧
     ((m1 = m21) →
     eqInts_c0 (some ⟨s11_pb, s11_po, none⟩) s11_l s11_c (some ⟨s21_pb, s21_po, none⟩) s21_l s21_c t12 (IntKind.i64.wrap (t13 + (1 : Int))) w0 R)) ∧
    ((¬ (t13 < t12)) →
    Fin R [] [] w0 (.bool true))) :
  eqInts_c0 s11_p s11_l s11_c s21_p s21_l s21_c t12 t13 w0 R := by
 unfold eqInts_c0
 refine AtE.ru 5 ?_
 refine AtE.splitP 14 (p := t13 < t12) (by kernel_rfl) (fun h2' => ?_) (fun h2' => ?_)
 ·replace H := H.1 h2'
  refine AtE.ru 10 ?_
  refine AtE.norm (k' := [.code (sub (Eng.body Tryz.f109) [1,1,0,1,0,0,1,1,0,0,1,0]), .code (sub (Eng.body Tryz.f109) [1,1,0,1,0,0,1,1,0,0,1,1]), .inBlock 1, .code (sub (Eng.body Tryz.f109) [1,1,0,1,0,0,1,1,1]), .inLoop (sub (Eng.body Tryz.f109) [1,1,0,1,0,0]), .inBlock 0, .code (sub (Eng.body Tryz.f109) [1,1,1])]) (e' := [(0, .slice s11_p s11_l s11_c), (1, .slice s21_p s21_l s21_c), (5, .int .i64 t13), (12, .int .i64 t12), (13, .int .i64 t13)]) (L' := []) ?_ (by kernel_rfl)
  refine AtE.draw 9 (by kernel_rfl) ?_
  refine AtQ.pu ?_
  refine AtQ.pu ?_
  obtain ⟨s11_pb, s11_po, rfl, H⟩ := H
  refine AtQ.indexAddrL (E := 3) (b := s11_pb) (o := s11_po) (len := s11_l) (cap := s11_c) (sz := 1) (o' := (s11_po + (Int.toNat t13))) (kd := .i64) (i := t13) (by kernel_rfl) H.1 (by omega) ?_
  replace H := H.2
  obtain ⟨cw, m1, hw, hx, H⟩ := H
  refine AtQ.loadW (b := s11_pb) (off := (s11_po + (Int.toNat t13))) (T := 3) (v := .int .i64 m1) (by kernel_rfl) List.not_mem_nil hw (valAt_one hx (by kernel_rfl)) ?_
  refine AtQ.pu ?_
  refine AtQ.pu ?_
  obtain ⟨s21_pb, s21_po, rfl, H⟩ := H
  refine AtQ.indexAddrL (E := 3) (b := s21_pb) (o := s21_po) (len := s21_l) (cap := s21_c) (sz := 1) (o' := (s21_po + (Int.toNat t13))) (kd := .i64) (i := t13) (by kernel_rfl) H.1 (by omega) ?_
  replace H := H.2
  obtain ⟨cw1, m21, hw, hx, H⟩ := H
  refine AtQ.loadW (b := s21_pb) (off := (s21_po + (Int.toNat t13))) (T := 3) (v := .int .i64 m21) (by kernel_rfl) List.not_mem_nil hw (valAt_one hx (by kernel_rfl)) ?_
  refine AtQ.pu ?_
  refine AtQ.done (by kernel_rfl) ?_
  refine AtE.ru 1 ?_
  refine AtE.splitN 24 (p := m1 = m21) (by kernel_rfl) (fun h3' => ?_) (fun h3' => ?_)
  ·replace H := H.1 h3'
   refine AtE.norm (k' := [.code (sub (Eng.body Tryz.f109) [1,1,0,1,0,0,1,1,0,0,1,1]), .inBlock 1, .code (sub (Eng.body Tryz.f109) [1,1,0,1,0,0,1,1,1]), .inLoop (sub (Eng.body Tryz.f109) [1,1,0,1,0,0]), .inBlock 0, .code (sub (Eng.body Tryz.f109) [1,1,1])]) (e' := [(0, .slice (some ⟨s11_pb, s11_po, none⟩) s11_l s11_c), (1, .slice (some ⟨s21_pb, s21_po, none⟩) s21_l s21_c), (12, .int .i64 t12), (13, .int .i64 t13), (24, .bool true)]) (L' := []) ?_ (by kernel_rfl)
   refine AtE.ru 5 ?_
   exact AtE.ret Tryz.func109 (by kernel_rfl) H
  ·replace H := H.2 h3'
   refine AtE.norm (k' := [.code (sub (Eng.body Tryz.f109) [1,1,0,1,0,0,1,1,0,0,1,1]), .inBlock 1, .code (sub (Eng.body Tryz.f109) [1,1,0,1,0,0,1,1,1]), .inLoop (sub (Eng.body Tryz.f109) [1,1,0,1,0,0]), .inBlock 0, .code (sub (Eng.body Tryz.f109) [1,1,1])]) (e' := [(0, .slice (some ⟨s11_pb, s11_po, none⟩) s11_l s11_c), (1, .slice (some ⟨s21_pb, s21_po, none⟩) s21_l s21_c), (12, .int .i64 t12), (13, .int .i64 t13), (24, .bool false)]) (L' := []) ?_ (by kernel_rfl)
   refine AtE.ru 8 ?_
   exact AtE.cut [] H (by kernel_rfl)
 ·replace H := H.2 h2'
  refine AtE.ru 6 ?_
  exact AtE.ret Tryz.func109 (by kernel_rfl) H
theorem eqInts_vc (s1_p : Option Addr) (s1_l : Nat) (s1_c : Nat) (s2_p : Option Addr) (s2_l : Nat) (s2_c : Nat) {R : Ending → World → Prop} {w0 W : World} (hm : Mem [] [] w0 W)
  (H :
   ((¬ ((s1_l : Int) = (s2_l : Int))) →
    Fin R [] [] w0 (.bool false)) ∧
    (((s1_l : Int) = (s2_l : Int)) →
    eqInts_c0 s1_p s1_l s1_c s2_p s2_l s2_c (s1_l : Int) (0 : Int) w0 R)) :
  Calls Tryz.prog 109 ⟨[.slice s1_p s1_l s1_c, .slice s2_p s2_l s2_c]⟩ W R := by
 refine AtE.calls (nt := 26) Tryz.func109 (by kernel_rfl) hm ?_
 refine AtE.ru 13 ?_
 refine AtE.splitN 10 (p := (s1_l : Int) = (s2_l : Int)) (by kernel_rfl) (fun h1' => ?_) (fun h1' => ?_)
 ·replace H := H.1 h1'
  refine AtE.ru 5 ?_
  exact AtE.ret Tryz.func109 (by kernel_rfl) H
 ·replace H := H.2 h1'
  refine AtE.ru 11 ?_
  exact AtE.cut [] H (by kernel_rfl)
end Go.Eng
namespace Go.Eng
open Go Go.RowKit Go.Proofs
set_option linter.unusedVariables false
set_option maxRecDepth 100000
abbrev labValidH0 (B : Nat) (bu : Int) (bp : Option Addr) (bl : Nat) (bc : Nat) (ba : Int) (bd : Int) (B1 : Nat) (B2 : Nat) (B3 : Nat) (B4 : Nat) : SHeap := [(B, .cells #[.int .i64 bu, .slice bp bl bc, .int .i64 ba, .int .i64 bd] 26), (B1, .cells #[.int .i64 bu, .int .i64 (0 : Int), .int .i64 (1000000000 : Int), .int .i64 ba, .int .i64 (0 : Int), .int .i64 (5 : Int), .int .i64 bd, .int .i64 (0 : Int), .int .i64 (15 : Int)] 202), (B2, .cells #[.int .i64 bu, .int .i64 (0 : Int), .int .i64 (1000000000 : Int)] 202), (B3, .cells #[.int .i64 ba, .int .i64 (0 : Int), .int .i64 (5 : Int)] 202), (B4, .cells #[.int .i64 bd, .int .i64 (0 : Int), .int .i64 (15 : Int)] 202)]
abbrev labValidH1 (B : Nat) (bu : Int) (bp : Option Addr) (bl : Nat) (bc : Nat) (ba : Int) (bd : Int) (B1 : Nat) (B2 : Nat) : SHeap := [(B, .cells #[.int .i64 bu, .slice bp bl bc, .int .i64 ba, .int .i64 bd] 26), (B1, .cells #[.int .i64 bu, .int .i64 (0 : Int), .int .i64 (1000000000 : Int), .int .i64 ba, .int .i64 (0 : Int), .int .i64 (5 : Int), .int .i64 bd, .int .i64 (0 : Int), .int .i64 (15 : Int)] 202), (B2, .cells #[.int .i64 bu, .int .i64 (0 : Int), .int .i64 (1000000000 : Int)] 202)]
abbrev labValidH2 (B : Nat) (bu : Int) (bp : Option Addr) (bl : Nat) (bc : Nat) (ba : Int) (bd : Int) (B1 : Nat) (B2 : Nat) (B3 : Nat) : SHeap := [(B, .cells #[.int .i64 bu, .slice bp bl bc, .int .i64 ba, .int .i64 bd] 26), (B1, .cells #[.int .i64 bu, .int .i64 (0 : Int), .int .i64 (1000000000 : Int), .int .i64 ba, .int .i64 (0 : Int), .int .i64 (5 : Int), .int .i64 bd, .int .i64 (0 : Int), .int .i64 (15 : Int)] 202), (B2, .cells #[.int .i64 bu, .int .i64 (0 : Int), .int .i64 (1000000000 : Int)] 202), (B3, .cells #[.int .i64 ba, .int .i64 (0 : Int), .int .i64 (5 : Int)] 202)]
abbrev labValidH3 (B5 : Nat) (m1 : Int) (last : Int) (B6 : Nat) : SHeap := [(B5, .cells #[.int .i64 m1, .int .i64 (IntKind.i64.wrap (last + (1 : Int))), .int .i64 (64 : Int)] 202), (B6, .cells #[.int .i64 m1, .int .i64 (IntKind.i64.wrap (last + (1 : Int))), .int .i64 (64 : Int)] 202)]
def labValid_c0 (last : Int) (t19_p : Option Addr) (t19_l : Nat) (t19_c : Nat) (t20 : Int) (t21 : Int) (w0 : World) (R : Ending → World → Prop) : Prop :=
 AtE Tryz.prog 102 34 [.code (sub (Eng.body Tryz.f102) [1,1,1,0,1,0,0]), .inLoop (sub (Eng.body Tryz.f102) [1,1,1,0,1,0,0]), .inBlock 0, .code (sub (Eng.body Tryz.f102) [1,1,1,1])] [(3, .int .i64 last), (19, .slice t19_p t19_l t19_c), (20, .int .i64 t20), (21, .int .i64 t21)] [] [] w0 (nrm R)
theorem labValid_c0_vc (last : Int) (t19_p : Option Addr) (t19_l : Nat) (t19_c : Nat) (t20 : Int) (t21 : Int) {R : Ending → World → Prop} {w0 : World}
  (H :
   ((t21 < t20) →
    ∃ t19_pb t19_po : Nat, t19_p = some ⟨t19_pb, t19_po, none⟩ ∧
    (0 ≤ t21 ∧ t21 < t19_l) ∧
    ∃ (cw : List Value) (m1 : Int), blkW w0 t19_pb = some cw ∧ cw[(t19_po + (Int.toNat t21))]? = some (.int .i64 m1) ∧
    ∀ B5 : Nat,
    ∀ B6 : Nat,
    ((m1 < (IntKind.i64.wrap (last + (1 : Int)))) →
     Fin R (labValidH3 B5 m1 last B6) [] w0 (.bool false)) ∧
     ((¬ (m1 < (IntKind.i64.wrap (last + (1 : Int))))) →
     (((64 : Int) < m1) →
      Fin R (labValidH3 B5 m1 last B6) [] w0 (.bool false)) ∧
      ((¬ ((64 : Int) < m1)) →
      labValid_c0 m1 (some ⟨t19_pb, t19_po, none⟩) t19_l t19_c t20 (IntKind.i64.wrap (t21 + (1 : Int))) w0 R))) ∧
    ((¬ (t21 < t20)) →
    Fin R [] [] w0 (.bool true))) :
  labValid_c0 last t19_p t19_l t19_c t20 t21 w0 R := by
 unfold labValid_c0
 refine AtE.ru 5 ?_
 refine AtE.splitP 22 (p := t21 < t20) (by kernel_rfl) (fun h7' => ?_) (fun h7' => ?_)
 ·replace H := H.1 h7'
  refine AtE.ru 6 ?_
  obtain ⟨t19_pb, t19_po, rfl, H⟩ := H
  refine AtE.indexAddrL (E := 3) (b := t19_pb) (o := t19_po) (len := t19_l) (cap := t19_c) (sz := 1) (o' := (t19_po + (Int.toNat t21))) (kd := .i64) (i := t21) (by kernel_rfl) H.1 (by omega) ?_
  replace H := H.2
  obtain ⟨cw, m1, hw, hx, H⟩ := H
  refine AtE.loadW (b := t19_pb) (off := (t19_po + (Int.toNat t21))) (T := 3) (v := .int .i64 m1) (by kernel_rfl) List.not_mem_nil hw (valAt_one hx (by kernel_rfl)) ?_
  refine AtE.ru 9 ?_
  refine AtE.new (fun B => .slice (some ⟨B, 0, none⟩) 1 1) (.cells #[.int .i64 m1, .int .i64 (IntKind.i64.wrap (last + (1 : Int))), .int .i64 (64 : Int)] 202) (fun W => by kernel_rfl) (by kernel_rfl) (fun B5 => ?_)
  replace H := H B5
  refine AtE.norm (k' := [.inRegion (regOps [.code (sub (Eng.body Tryz.f102) [1,1,1,0,1,0,0,1,1,0,0,1,0,0])]) [5,6], .code (sub (Eng.body Tryz.f102) [1,1,1,0,1,0,0,1,1,0,0,1,0,1]), .code (sub (Eng.body Tryz.f102) [1,1,1,0,1,0,0,1,1,0,0,1,1]), .inBlock 1, .code (sub (Eng.body Tryz.f102) [1,1,1,0,1,0,0,1,1,1]), .inLoop (sub (Eng.body Tryz.f102) [1,1,1,0,1,0,0]), .inBlock 0, .code (sub (Eng.body Tryz.f102) [1,1,1,1])]) (e' := [(5, .int .i64 m1), (19, .slice (some ⟨t19_pb, t19_po, none⟩) t19_l t19_c), (20, .int .i64 t20), (21, .int .i64 t21), (29, .slice (some ⟨B5, 0, none⟩) 1 1)]) (L' := [(B5, .cells #[.int .i64 m1, .int .i64 (IntKind.i64.wrap (last + (1 : Int))), .int .i64 (64 : Int)] 202)]) ?_ (by kernel_rfl)
  refine AtE.inl 149 ⟨[.slice (some ⟨B5, 0, none⟩) 1 1]⟩ (fun W => by kernel_rfl) (by kernel_rfl) (fun W hm => AtE.calls (nt := 24) Tryz.func149 (by kernel_rfl) hm ?_)
  refine AtE.ru 25 ?_
  refine AtE.load 0 0 (T := 202) (v := .agg #[.int .i64 m1, .int .i64 (IntKind.i64.wrap (last + (1 : Int))), .int .i64 (64 : Int)]) (by kernel_rfl) ?_
  refine AtE.new (fun B => .pointer (some ⟨B, 0, none⟩)) (.cells #[.int .i64 (0 : Int), .int .i64 (0 : Int), .int .i64 (0 : Int)] 202) (fun W => by kernel_rfl) (by kernel_rfl) (fun B6 => ?_)
  replace H := H B6
  refine AtE.store 1 0 (T := 202) (v := .agg #[.int .i64 m1, .int .i64 (IntKind.i64.wrap (last + (1 : Int))), .int .i64 (64 : Int)]) (by kernel_rfl) ?_
  refine AtE.ru 4 ?_
  refine AtE.load 1 0 (T := 3) (v := .int .i64 m1) (by kernel_rfl) ?_
  refine AtE.ru 1 ?_
  refine AtE.load 1 1 (T := 3) (v := .int .i64 (IntKind.i64.wrap (last + (1 : Int)))) (by kernel_rfl) ?_
  refine AtE.ru 2 ?_
  refine AtE.splitP 16 (p := m1 < (IntKind.i64.wrap (last + (1 : Int)))) (by kernel_rfl) (fun h8' => ?_) (fun h8' => ?_)
  ·replace H := H.1 h8'
   refine AtE.ru 12 ?_
   refine AtE.retK (v := (.bool false)) Tryz.func149 (by kernel_rfl) ?_
   refine AtE.norm (k' := [.inRegion (regOps [.code (sub (Eng.body Tryz.f102) [1,1,1,0,1,0,0,1,1,0,0,1,0,0])]) [6], .code (sub (Eng.body Tryz.f102) [1,1,1,0,1,0,0,1,1,0,0,1,0,1]), .code (sub (Eng.body Tryz.f102) [1,1,1,0,1,0,0,1,1,0,0,1,1]), .inBlock 1, .code (sub (Eng.body Tryz.f102) [1,1,1,0,1,0,0,1,1,1]), .inLoop (sub (Eng.body Tryz.f102) [1,1,1,0,1,0,0]), .inBlock 0, .code (sub (Eng.body Tryz.f102) [1,1,1,1])]) (e' := [(5, .int .i64 m1), (19, .slice (some ⟨t19_pb, t19_po, none⟩) t19_l t19_c), (20, .int .i64 t20), (21, .int .i64 t21), (30, .bool false)]) (L' := (labValidH3 B5 m1 last B6)) ?_ (by kernel_rfl)
   refine AtE.ru 7 ?_
   exact AtE.ret Tryz.func102 (by kernel_rfl) H
  ·replace H := H.2 h8'
   refine AtE.ru 1 ?_
   refine AtE.load 1 0 (T := 3) (v := .int .i64 m1) (by kernel_rfl) ?_
   refine AtE.norm (k' := [.inRegion (regOps [.code (sub (Eng.body Tryz.f149) [1,0,1,0,0,1,1,0,0,1,0])]) [8,9,10,11], .code (sub (Eng.body Tryz.f149) [1,0,1,0,0,1,1,0,0,1,1]), .inBlock 1, .code (sub (Eng.body Tryz.f149) [1,0,1,0,0,1,1,1]), .inLoop (sub (Eng.body Tryz.f149) [1,0,1,0,0]), .inBlock 0, .code (sub (Eng.body Tryz.f149) [1,1])]) (e' := [(4, .pointer (some ⟨B6, 0, none⟩)), (5, .slice (some ⟨B5, 0, none⟩) 1 1), (6, .int .i64 (1 : Int)), (7, .int .i64 (0 : Int)), (16, .bool false), (18, .int .i64 m1)]) (L' := (labValidH3 B5 m1 last B6)) ?_ (by kernel_rfl)
   refine AtE.ru 1 ?_
   refine AtE.load 1 2 (T := 3) (v := .int .i64 (64 : Int)) (by kernel_rfl) ?_
   refine AtE.ru 3 ?_
   refine AtE.splitP 22 (p := (64 : Int) < m1) (by kernel_rfl) (fun h9' => ?_) (fun h9' => ?_)
   ·replace H := H.1 h9'
    refine AtE.ru 5 ?_
    refine AtE.retK (v := (.bool false)) Tryz.func149 (by kernel_rfl) ?_
    refine AtE.ru 7 ?_
    exact AtE.ret Tryz.func102 (by kernel_rfl) H
   ·replace H := H.2 h9'
    refine AtE.ru 19 ?_
    refine AtE.retK (v := (.bool true)) Tryz.func149 (by kernel_rfl) ?_
    refine AtE.ru 14 ?_
    exact AtE.cut [] H (by kernel_rfl)
 ·replace H := H.2 h7'
  refine AtE.ru 6 ?_
  exact AtE.ret Tryz.func102 (by kernel_rfl) H
theorem labValid_vc (bu : Int) (bp : Option Addr) (bl : Nat) (bc : Nat) (ba : Int) (bd : Int) {R : Ending → World → Prop} {w0 W : World} (hm : Mem [] [] w0 W)
  (H :
   ∀ B : Nat,
   ∀ B1 : Nat,
   ∀ B2 : Nat,
   ((bu < (0 : Int)) →
    Fin R (labValidH1 B bu bp bl bc ba bd B1 B2) [] w0 (.bool false)) ∧
    ((¬ (bu < (0 : Int))) →
    (((1000000000 : Int) < bu) →
     Fin R (labValidH1 B bu bp bl bc ba bd B1 B2) [] w0 (.bool false)) ∧
     ((¬ ((1000000000 : Int) < bu)) →
     ∀ B3 : Nat,
     ((ba < (0 : Int)) →
      Fin R (labValidH2 B bu bp bl bc ba bd B1 B2 B3) [] w0 (.bool false)) ∧
      ((¬ (ba < (0 : Int))) →
      (((5 : Int) < ba) →
       Fin R (labValidH2 B bu bp bl bc ba bd B1 B2 B3) [] w0 (.bool false)) ∧
       ((¬ ((5 : Int) < ba)) →
       ∀ B4 : Nat,
       ((bd < (0 : Int)) →
        Fin R (labValidH0 B bu bp bl bc ba bd B1 B2 B3 B4) [] w0 (.bool false)) ∧
        ((¬ (bd < (0 : Int))) →
        (((15 : Int) < bd) →
         Fin R (labValidH0 B bu bp bl bc ba bd B1 B2 B3 B4) [] w0 (.bool false)) ∧
         ((¬ ((15 : Int) < bd)) →
         labValid_c0 (0 : Int) bp bl bc (bl : Int) (0 : Int) w0 R))))))) :
  Calls Tryz.prog 102 ⟨[.agg #[.int .i64 bu, .slice bp bl bc, .int .i64 ba, .int .i64 bd]]⟩ W R := by
 refine AtE.calls (nt := 34) Tryz.func102 (by kernel_rfl) hm ?_
 refine AtE.ru 2 ?_
 refine AtE.new (fun B => .pointer (some ⟨B, 0, none⟩)) (.cells #[.int .i64 bu, .slice bp bl bc, .int .i64 ba, .int .i64 bd] 26) (fun W => by kernel_rfl) (by kernel_rfl) (fun B => ?_)
 replace H := H B
 refine AtE.ru 6 ?_
 refine AtE.load 0 0 (T := 3) (v := .int .i64 bu) (by kernel_rfl) ?_
 refine AtE.ru 2 ?_
 refine AtE.load 0 2 (T := 3) (v := .int .i64 ba) (by kernel_rfl) ?_
 refine AtE.ru 2 ?_
 refine AtE.load 0 3 (T := 3) (v := .int .i64 bd) (by kernel_rfl) ?_
 refine AtE.ru 1 ?_
 refine AtE.new (fun B => .slice (some ⟨B, 0, none⟩) 3 3) (.cells #[.int .i64 bu, .int .i64 (0 : Int), .int .i64 (1000000000 : Int), .int .i64 ba, .int .i64 (0 : Int), .int .i64 (5 : Int), .int .i64 bd, .int .i64 (0 : Int), .int .i64 (15 : Int)] 202) (fun W => by kernel_rfl) (by kernel_rfl) (fun B1 => ?_)
 replace H := H B1
 refine AtE.norm (k' := [.inRegion (regOps [.code (sub (Eng.body Tryz.f102) [1,0,0])]) [10,11], .code (sub (Eng.body Tryz.f102) [1,0,1]), .code (sub (Eng.body Tryz.f102) [1,1])]) (e' := [(1, .pointer (some ⟨B, 0, none⟩)), (15, .slice (some ⟨B1, 0, none⟩) 3 3)]) (L' := [(B, .cells #[.int .i64 bu, .slice bp bl bc, .int .i64 ba, .int .i64 bd] 26), (B1, .cells #[.int .i64 bu, .int .i64 (0 : Int), .int .i64 (1000000000 : Int), .int .i64 ba, .int .i64 (0 : Int), .int .i64 (5 : Int), .int .i64 bd, .int .i64 (0 : Int), .int .i64 (15 : Int)] 202)]) ?_ (by kernel_rfl)
 refine AtE.inl 149 ⟨[.slice (some ⟨B1, 0, none⟩) 3 3]⟩ (fun W => by kernel_rfl) (by kernel_rfl) (fun W hm => AtE.calls (nt := 24) Tryz.func149 (by kernel_rfl) hm ?_)
 refine AtE.ru 25 ?_
 refine AtE.load 1 0 (T := 202) (v := .agg #[.int .i64 bu, .int .i64 (0 : Int), .int .i64 (1000000000 : Int)]) (by kernel_rfl) ?_
 refine AtE.new (fun B => .pointer (some ⟨B, 0, none⟩)) (.cells #[.int .i64 (0 : Int), .int .i64 (0 : Int), .int .i64 (0 : Int)] 202) (fun W => by kernel_rfl) (by kernel_rfl) (fun B2 => ?_)
 replace H := H B2
 refine AtE.store 2 0 (T := 202) (v := .agg #[.int .i64 bu, .int .i64 (0 : Int), .int .i64 (1000000000 : Int)]) (by kernel_rfl) ?_
 refine AtE.ru 4 ?_
 refine AtE.load 2 0 (T := 3) (v := .int .i64 bu) (by kernel_rfl) ?_
 refine AtE.ru 1 ?_
 refine AtE.load 2 1 (T := 3) (v := .int .i64 (0 : Int)) (by kernel_rfl) ?_
 refine AtE.ru 2 ?_
 refine AtE.splitP 16 (p := bu < (0 : Int)) (by kernel_rfl) (fun h1' => ?_) (fun h1' => ?_)
 ·replace H := H.1 h1'
  refine AtE.ru 12 ?_
  refine AtE.retK (v := (.bool false)) Tryz.func149 (by kernel_rfl) ?_
  refine AtE.norm (k' := [.inRegion (regOps [.code (sub (Eng.body Tryz.f102) [1,0,0])]) [11], .code (sub (Eng.body Tryz.f102) [1,0,1]), .code (sub (Eng.body Tryz.f102) [1,1])]) (e' := [(1, .pointer (some ⟨B, 0, none⟩)), (16, .bool false)]) (L' := (labValidH1 B bu bp bl bc ba bd B1 B2)) ?_ (by kernel_rfl)
  refine AtE.ru 7 ?_
  exact AtE.ret Tryz.func102 (by kernel_rfl) H
 ·replace H := H.2 h1'
  refine AtE.ru 1 ?_
  refine AtE.load 2 0 (T := 3) (v := .int .i64 bu) (by kernel_rfl) ?_
  refine AtE.norm (k' := [.inRegion (regOps [.code (sub (Eng.body Tryz.f149) [1,0,1,0,0,1,1,0,0,1,0])]) [8,9,10,11], .code (sub (Eng.body Tryz.f149) [1,0,1,0,0,1,1,0,0,1,1]), .inBlock 1, .code (sub (Eng.body Tryz.f149) [1,0,1,0,0,1,1,1]), .inLoop (sub (Eng.body Tryz.f149) [1,0,1,0,0]), .inBlock 0, .code (sub (Eng.body Tryz.f149) [1,1])]) (e' := [(4, .pointer (some ⟨B2, 0, none⟩)), (5, .slice (some ⟨B1, 0, none⟩) 3 3), (6, .int .i64 (3 : Int)), (7, .int .i64 (0 : Int)), (16, .bool false), (18, .int .i64 bu)]) (L' := (labValidH1 B bu bp bl bc ba bd B1 B2)) ?_ (by kernel_rfl)
  refine AtE.ru 1 ?_
  refine AtE.load 2 2 (T := 3) (v := .int .i64 (1000000000 : Int)) (by kernel_rfl) ?_
  refine AtE.ru 3 ?_
  refine AtE.splitP 22 (p := (1000000000 : Int) < bu) (by kernel_rfl) (fun h2' => ?_) (fun h2' => ?_)
  ·replace H := H.1 h2'
   refine AtE.ru 5 ?_
   refine AtE.retK (v := (.bool false)) Tryz.func149 (by kernel_rfl) ?_
   refine AtE.ru 7 ?_
   exact AtE.ret Tryz.func102 (by kernel_rfl) H
  ·replace H := H.2 h2'
   refine AtE.ru 20 ?_
   refine AtE.load 1 3 (T := 202) (v := .agg #[.int .i64 ba, .int .i64 (0 : Int), .int .i64 (5 : Int)]) (by kernel_rfl) ?_
   refine AtE.new (fun B => .pointer (some ⟨B, 0, none⟩)) (.cells #[.int .i64 (0 : Int), .int .i64 (0 : Int), .int .i64 (0 : Int)] 202) (fun W => by kernel_rfl) (by kernel_rfl) (fun B3 => ?_)
   replace H := H B3
   refine AtE.store 3 0 (T := 202) (v := .agg #[.int .i64 ba, .int .i64 (0 : Int), .int .i64 (5 : Int)]) (by kernel_rfl) ?_
   refine AtE.ru 4 ?_
   refine AtE.load 3 0 (T := 3) (v := .int .i64 ba) (by kernel_rfl) ?_
   refine AtE.ru 1 ?_
   refine AtE.load 3 1 (T := 3) (v := .int .i64 (0 : Int)) (by kernel_rfl) ?_
   refine AtE.norm (k' := [.inRegion (regOps [.code (sub (Eng.body Tryz.f149) [1,0,1,0,0,1,1,0,0,1,0])]) [4,5,6,7,8,9,10,11], .code (sub (Eng.body Tryz.f149) [1,0,1,0,0,1,1,0,0,1,1]), .inBlock 1, .code (sub (Eng.body Tryz.f149) [1,0,1,0,0,1,1,1]), .inLoop (sub (Eng.body Tryz.f149) [1,0,1,0,0]), .inBlock 0, .code (sub (Eng.body Tryz.f149) [1,1])]) (e' := [(4, .pointer (some ⟨B3, 0, none⟩)), (5, .slice (some ⟨B1, 0, none⟩) 3 3), (6, .int .i64 (3 : Int)), (7, .int .i64 (1 : Int)), (12, .int .i64 ba), (14, .int .i64 (0 : Int))]) (L' := (labValidH2 B bu bp bl bc ba bd B1 B2 B3)) ?_ (by kernel_rfl)
   refine AtE.ru 2 ?_
   refine AtE.splitP 16 (p := ba < (0 : Int)) (by kernel_rfl) (fun h3' => ?_) (fun h3' => ?_)
   ·replace H := H.1 h3'
    refine AtE.ru 12 ?_
    refine AtE.retK (v := (.bool false)) Tryz.func149 (by kernel_rfl) ?_
    refine AtE.ru 7 ?_
    exact AtE.ret Tryz.func102 (by kernel_rfl) H
   ·replace H := H.2 h3'
    refine AtE.ru 1 ?_
    refine AtE.load 3 0 (T := 3) (v := .int .i64 ba) (by kernel_rfl) ?_
    refine AtE.ru 1 ?_
    refine AtE.load 3 2 (T := 3) (v := .int .i64 (5 : Int)) (by kernel_rfl) ?_
    refine AtE.ru 3 ?_
    refine AtE.splitP 22 (p := (5 : Int) < ba) (by kernel_rfl) (fun h4' => ?_) (fun h4' => ?_)
    ·replace H := H.1 h4'
     refine AtE.ru 5 ?_
     refine AtE.retK (v := (.bool false)) Tryz.func149 (by kernel_rfl) ?_
     refine AtE.ru 7 ?_
     exact AtE.ret Tryz.func102 (by kernel_rfl) H
    ·replace H := H.2 h4'
     refine AtE.ru 20 ?_
     refine AtE.load 1 6 (T := 202) (v := .agg #[.int .i64 bd, .int .i64 (0 : Int), .int .i64 (15 : Int)]) (by kernel_rfl) ?_
     refine AtE.new (fun B => .pointer (some ⟨B, 0, none⟩)) (.cells #[.int .i64 (0 : Int), .int .i64 (0 : Int), .int .i64 (0 : Int)] 202) (fun W => by kernel_rfl) (by kernel_rfl) (fun B4 => ?_)
     replace H := H B4
     refine AtE.store 4 0 (T := 202) (v := .agg #[.int .i64 bd, .int .i64 (0 : Int), .int .i64 (15 : Int)]) (by kernel_rfl) ?_
     refine AtE.norm (k' := [.inRegion (regOps [.code (sub (Eng.body Tryz.f149) [1,0,1,0,0,1,1,0,0,0])]) [], .code (sub (Eng.body Tryz.f149) [1,0,1,0,0,1,1,0,0,1]), .inBlock 1, .code (sub (Eng.body Tryz.f149) [1,0,1,0,0,1,1,1]), .inLoop (sub (Eng.body Tryz.f149) [1,0,1,0,0]), .inBlock 0, .code (sub (Eng.body Tryz.f149) [1,1])]) (e' := [(4, .pointer (some ⟨B4, 0, none⟩)), (5, .slice (some ⟨B1, 0, none⟩) 3 3), (6, .int .i64 (3 : Int)), (7, .int .i64 (2 : Int))]) (L' := (labValidH0 B bu bp bl bc ba bd B1 B2 B3 B4)) ?_ (by kernel_rfl)
     refine AtE.ru 4 ?_
     refine AtE.load 4 0 (T := 3) (v := .int .i64 bd) (by kernel_rfl) ?_
     refine AtE.ru 1 ?_
     refine AtE.load 4 1 (T := 3) (v := .int .i64 (0 : Int)) (by kernel_rfl) ?_
     refine AtE.ru 2 ?_
     refine AtE.splitP 16 (p := bd < (0 : Int)) (by kernel_rfl) (fun h5' => ?_) (fun h5' => ?_)
     ·replace H := H.1 h5'
      refine AtE.ru 12 ?_
      refine AtE.retK (v := (.bool false)) Tryz.func149 (by kernel_rfl) ?_
      refine AtE.ru 7 ?_
      exact AtE.ret Tryz.func102 (by kernel_rfl) H
     ·replace H := H.2 h5'
      refine AtE.ru 1 ?_
      refine AtE.load 4 0 (T := 3) (v := .int .i64 bd) (by kernel_rfl) ?_
      refine AtE.ru 1 ?_
      refine AtE.load 4 2 (T := 3) (v := .int .i64 (15 : Int)) (by kernel_rfl) ?_
      refine AtE.ru 3 ?_
      refine AtE.splitP 22 (p := (15 : Int) < bd) (by kernel_rfl) (fun h6' => ?_) (fun h6' => ?_)
      ·replace H := H.1 h6'
       refine AtE.ru 5 ?_
       refine AtE.retK (v := (.bool false)) Tryz.func149 (by kernel_rfl) ?_
       refine AtE.norm (k' := [.inRegion (regOps [.code (sub (Eng.body Tryz.f102) [1,0,0])]) [11], .code (sub (Eng.body Tryz.f102) [1,0,1]), .code (sub (Eng.body Tryz.f102) [1,1])]) (e' := [(1, .pointer (some ⟨B, 0, none⟩)), (16, .bool false)]) (L' := (labValidH0 B bu bp bl bc ba bd B1 B2 B3 B4)) ?_ (by kernel_rfl)
       refine AtE.ru 7 ?_
       exact AtE.ret Tryz.func102 (by kernel_rfl) H
      ·replace H := H.2 h6'
       refine AtE.ru 19 ?_
       refine AtE.retK (v := (.bool true)) Tryz.func149 (by kernel_rfl) ?_
       refine AtE.norm (k' := [.inRegion (regOps [.code (sub (Eng.body Tryz.f102) [1,0,0])]) [11], .code (sub (Eng.body Tryz.f102) [1,0,1]), .code (sub (Eng.body Tryz.f102) [1,1])]) (e' := [(1, .pointer (some ⟨B, 0, none⟩)), (16, .bool true)]) (L' := (labValidH0 B bu bp bl bc ba bd B1 B2 B3 B4)) ?_ (by kernel_rfl)
       refine AtE.ru 12 ?_
       refine AtE.load 0 1 (T := 24) (v := .slice bp bl bc) (by kernel_rfl) ?_
       refine AtE.ru 5 ?_
       exact AtE.cut [] H (by kernel_rfl)
abbrev labSameH0 (B : Nat) (xu : Int) (xp : Option Addr) (xl : Nat) (xc : Nat) (xa : Int) (xd : Int) (B1 : Nat) (yu : Int) (yp : Option Addr) (yl : Nat) (yc : Nat) (ya : Int) (yd : Int) : SHeap := [(B, .cells #[.int .i64 xu, .slice xp xl xc, .int .i64 xa, .int .i64 xd] 26), (B1, .cells #[.int .i64 yu, .slice yp yl yc, .int .i64 ya, .int .i64 yd] 26)]
theorem labSame_vc (xu : Int) (xp : Option Addr) (xl : Nat) (xc : Nat) (xa : Int) (xd : Int) (yu : Int) (yp : Option Addr) (yl : Nat) (yc : Nat) (ya : Int) (yd : Int) {R : Ending → World → Prop} {w0 W : World} (hm : Mem [] [] w0 W)
  (H :
   ∀ B : Nat,
   ∀ B1 : Nat,
   ((xu = yu) →
    CallH Tryz.prog 109 ⟨[.slice xp xl xc, .slice yp yl yc]⟩ (labSameH0 B xu xp xl xc xa xd B1 yu yp yl yc ya yd) [] w0 (fun v L' => ∃ (r1 : Bool), v = (.bool r1) ∧ L' = (labSameH0 B xu xp xl xc xa xd B1 yu yp yl yc ya yd) ∧
     ((r1 = true) →
      ((xa = ya) →
       Fin R (labSameH0 B xu xp xl xc xa xd B1 yu yp yl yc ya yd) [] w0 (.bool (decide (xd = yd)))) ∧
       ((¬ (xa = ya)) →
       Fin R (labSameH0 B xu xp xl xc xa xd B1 yu yp yl yc ya yd) [] w0 (.bool false))) ∧
      ((r1 = false) →
      Fin R (labSameH0 B xu xp xl xc xa xd B1 yu yp yl yc ya yd) [] w0 (.bool false)))) ∧
    ((¬ (xu = yu)) →
    Fin R (labSameH0 B xu xp xl xc xa xd B1 yu yp yl yc ya yd) [] w0 (.bool false))) :
  Calls Tryz.prog 63 ⟨[.agg #[.int .i64 xu, .slice xp xl xc, .int .i64 xa, .int .i64 xd], .agg #[.int .i64 yu, .slice yp yl yc, .int .i64 ya, .int .i64 yd]]⟩ W R := by
 refine AtE.calls (nt := 31) Tryz.func63 (by kernel_rfl) hm ?_
 refine AtE.ru 2 ?_
 refine AtE.new (fun B => .pointer (some ⟨B, 0, none⟩)) (.cells #[.int .i64 xu, .slice xp xl xc, .int .i64 xa, .int .i64 xd] 26) (fun W => by kernel_rfl) (by kernel_rfl) (fun B => ?_)
 replace H := H B
 refine AtE.new (fun B => .pointer (some ⟨B, 0, none⟩)) (.cells #[.int .i64 yu, .slice yp yl yc, .int .i64 ya, .int .i64 yd] 26) (fun W => by kernel_rfl) (by kernel_rfl) (fun B1 => ?_)
 replace H := H B1
 refine AtE.ru 5 ?_
 refine AtE.load 0 0 (T := 3) (v := .int .i64 xu) (by kernel_rfl) ?_
 refine AtE.ru 1 ?_
 refine AtE.load 1 0 (T := 3) (v := .int .i64 yu) (by kernel_rfl) ?_
 refine AtE.ru 2 ?_
 refine AtE.splitP 10 (p := xu = yu) (by kernel_rfl) (fun h1' => ?_) (fun h1' => ?_)
 ·replace H := H.1 h1'
  refine AtE.ru 1 ?_
  refine AtE.load 0 1 (T := 24) (v := .slice xp xl xc) (by kernel_rfl) ?_
  refine AtE.ru 1 ?_
  refine AtE.load 1 1 (T := 24) (v := .slice yp yl yc) (by kernel_rfl) ?_
  refine AtE.norm (k' := [.inRegion (regOps [.code (sub (Eng.body Tryz.f63) [1,0])]) [10,11,12,13,14,15,16,17,18,19,20,21,22,23,24,25,26], .code (sub (Eng.body Tryz.f63) [1,1])]) (e' := [(2, .pointer (some ⟨B, 0, none⟩)), (3, .pointer (some ⟨B1, 0, none⟩)), (10, .bool true), (12, .slice xp xl xc), (14, .slice yp yl yc)]) (L' := (labSameH0 B xu xp xl xc xa xd B1 yu yp yl yc ya yd)) ?_ (by kernel_rfl)
  refine AtE.call 109 ⟨[.slice xp xl xc, .slice yp yl yc]⟩ (fun W => by kernel_rfl) (by kernel_rfl) H ?_
  clear H
  rintro _ _ ⟨r1, rfl, rfl, H⟩
  refine AtE.ru 2 ?_
  refine AtE.split 17 (b := r1) (by kernel_rfl) (fun h2' => ?_) (fun h2' => ?_)
  ·replace H := H.1 h2'
   refine AtE.ru 1 ?_
   refine AtE.load 0 2 (T := 3) (v := .int .i64 xa) (by kernel_rfl) ?_
   refine AtE.ru 1 ?_
   refine AtE.load 1 2 (T := 3) (v := .int .i64 ya) (by kernel_rfl) ?_
   refine AtE.ru 3 ?_
   refine AtE.splitP 24 (p := xa = ya) (by kernel_rfl) (fun h3' => ?_) (fun h3' => ?_)
   ·replace H := H.1 h3'
    refine AtE.ru 1 ?_
    refine AtE.load 0 3 (T := 3) (v := .int .i64 xd) (by kernel_rfl) ?_
    refine AtE.ru 1 ?_
    refine AtE.load 1 3 (T := 3) (v := .int .i64 yd) (by kernel_rfl) ?_
    refine AtE.norm (k' := [.inRegion (regOps [.code (sub (Eng.body Tryz.f63) [1,0])]) [24,25,26], .code (sub (Eng.body Tryz.f63) [1,1])]) (e' := [(24, .bool true), (26, .int .i64 xd), (28, .int .i64 yd)]) (L' := (labSameH0 B xu xp xl xc xa xd B1 yu yp yl yc ya yd)) ?_ (by kernel_rfl)
    refine AtE.ru 4 ?_
    exact AtE.ret Tryz.func63 (by kernel_rfl) H
   ·replace H := H.2 h3'
    refine AtE.ru 8 ?_
    exact AtE.ret Tryz.func63 (by kernel_rfl) H
  ·replace H := H.2 h2'
   refine AtE.ru 15 ?_
   exact AtE.ret Tryz.func63 (by kernel_rfl) H
 ·replace H := H.2 h1'
  refine AtE.ru 22 ?_
  exact AtE.ret Tryz.func63 (by kernel_rfl) H
end Go.Eng
namespace Go.Eng
open Go Go.RowKit Go.Proofs Wire
set_option linter.unusedVariables false
theorem finEq {R : Ending → World → Prop} {L : SHeap} {S : List Nat} {w0 : World} {v u : Value} (h : Fin R L S w0 u) (e : v = u) : Fin R L S w0 v := e ▸ h
theorem isText_loop {s : ByteArray} (hs : s.size ≤ 9223372036854775807) {w0 : World} {R : Ending → World → Prop} : ∀ (g i : Nat), g + i = s.size → Fin R [] [] w0 (.bool (scan s txtB i)) → isText_c0 s (i : Int) w0 R
  | 0, i, hg, H => by
    apply isText_c0_vc
    exact no (by omega) (finEq H (by rw [scan_end (by omega)]))
  | g + 1, i, hg, H => by
    apply isText_c0_vc
    have hi : i < s.size := by omega
    refine yes (by omega) ⟨by omega, fun h => finEq H ?_, fun h => ⟨by omega, fun h2 => finEq H ?_, fun h2 => ?_⟩⟩
    · rw [scan_no hi (decide_eq_false (by omega))]
    · rw [scan_no hi (decide_eq_false (by omega))]
    · rintro _ rfl
      rw [wi64 (by omega), show (i : Int) + 1 = ((i + 1 : Nat) : Int) by omega]
      rw [scan_yes hi (decide_eq_true (by omega))] at H
      exact isText_loop hs g (i + 1) (by omega) H
theorem isText_c (s : ByteArray) (hs : s.size ≤ 9223372036854775807) : PureC Tryz.prog 196 ⟨[.string s]⟩ (.bool (txtOk s)) := by
  intro W
  refine isText_vc s (Mem.start [] W) ⟨fun h => finPure ?_, fun h => isText_loop hs s.size 0 (by omega) (finPure ?_)⟩
  · rw [txtOk, decide_eq_false (by omega), Bool.false_and]
  · rw [txtOk, decide_eq_true (by omega), Bool.true_and]
theorem isName_loop {s : ByteArray} (hs : s.size ≤ 9223372036854775807) {w0 : World} {R : Ending → World → Prop} : ∀ (g i : Nat), g + i = s.size → Fin R [] [] w0 (.bool (scan s nameB i)) → isName_c0 s (i : Int) w0 R
  | 0, i, hg, H => by
    apply isName_c0_vc
    exact no (by omega) (finEq H (by rw [scan_end (by omega)]))
  | g + 1, i, hg, H => by
    apply isName_c0_vc
    have hi : i < s.size := by omega
    have next : nameB (bat s i) = true → ∀ x : Int, x = IntKind.i64.wrap ((i : Int) + 1) → isName_c0 s x w0 R := by
      rintro hn _ rfl
      rw [wi64 (by omega), show (i : Int) + 1 = ((i + 1 : Nat) : Int) by omega]
      rw [scan_yes hi hn] at H
      exact isName_loop hs g (i + 1) (by omega) H
    have stop : nameB (bat s i) = false → Fin R [] [] w0 (.bool false) := fun hn => finEq H (by rw [scan_no hi hn])
    refine yes (by omega) ?_
    repeat' (first
      | refine And.intro ?_ ?_
      | omega
      | exact stop (decide_eq_false (by omega))
      | exact next (decide_eq_true (by omega))
      | intro _)
theorem isName_c (s : ByteArray) (hs : s.size ≤ 9223372036854775807) : PureC Tryz.prog 203 ⟨[.string s]⟩ (.bool (nameOk s)) := by
  intro W
  refine isName_vc s (Mem.start [] W) ⟨fun h => finPure ?_, fun h => ⟨fun h2 => finPure ?_, fun h2 => isName_loop hs s.size 0 (by omega) (finPure ?_)⟩⟩
  · rw [nameOk, decide_eq_false (by omega), Bool.false_and]
  · rw [nameOk, decide_eq_false (by omega), Bool.false_and]
  · rw [nameOk, decide_eq_true (by omega), Bool.true_and]
theorem ba_nil {s : ByteArray} : s = (⟨#[]⟩ : ByteArray) ↔ s.size = 0 := ⟨fun h => by rw [h]; rfl, fun h => bts_inj (by rw [bts_nil]; exact List.length_eq_zero_iff.1 (by rw [bts_len]; exact h))⟩
theorem rul1_c (s : ByteArray) (hs : s.size ≤ 9223372036854775807) : PureC Tryz.prog 195 ⟨[.string s]⟩ (.bool (fillOk s)) := by
  intro W
  refine rul1_vc s (Mem.start [] W) ⟨fun h => CallH.pure (isText_c s hs) ⟨_, rfl, rfl, finPure ?_⟩, fun h => finPure ?_⟩
  · rw [fillOk, decide_eq_true (show s.size ≠ 0 from fun h0 => h (ba_nil.2 h0)), Bool.true_and]
  · rw [fillOk, decide_eq_false (show ¬ s.size ≠ 0 from fun h0 => h0 (ba_nil.1 h)), Bool.false_and]
theorem drop_eq {α : Type} {a b : List α} {i : Nat} (h1 : i < a.length) (h2 : i < b.length) : (a.drop i = b.drop i) = (a[i] = b[i] ∧ a.drop (i + 1) = b.drop (i + 1)) := by
  rw [List.drop_eq_getElem_cons h1, List.drop_eq_getElem_cons h2]
  simp only [List.cons.injEq]
theorem eqInts_loop {w0 : World} {p q : Option Addr} {cp cq : Nat} {R : Ending → World → Prop} {a b : List Int} (ha : IntsL (lkW w0) p a) (hb : IntsL (lkW w0) q b) (hl : a.length = b.length) (hm : a.length ≤ 9223372036854775807) :
    ∀ (g i : Nat), g + i = a.length → Fin R [] [] w0 (.bool (decide (a.drop i = b.drop i))) → eqInts_c0 p a.length cp q b.length cq (a.length : Int) (i : Int) w0 R
  | 0, i, hg, H => by
    apply eqInts_c0_vc
    refine no (by omega) (finEq H ?_)
    rw [List.drop_of_length_le (by omega), List.drop_of_length_le (by omega)]
    simp
  | g + 1, i, hg, H => by
    apply eqInts_c0_vc
    have h1 : i < a.length := by omega
    have h2 : i < b.length := by omega
    obtain ⟨B1, o1, c1, rfl, e2, e3⟩ := ha.get h1
    obtain ⟨B2, o2, c2, rfl, f2, f3⟩ := hb.get h2
    simp only [drop_eq h1 h2] at H
    refine yes (by omega) ⟨B1, o1, rfl, by omega, c1, a[i], e2, by simpa using e3, B2, o2, rfl, by omega, c2, b[i], f2, by simpa using f3, fun h => finEq H ?_, fun h => ?_⟩
    · simp [h]
    · rw [wi64 (by omega), show (i : Int) + 1 = ((i + 1 : Nat) : Int) by omega]
      refine eqInts_loop ha hb hl hm g (i + 1) (by omega) (finEq H ?_)
      simp [h]
theorem eqInts_c {W : World} {p q : Option Addr} {cp cq : Nat} {a b : List Int} (ha : IntsL (lkW W) p a) (hb : IntsL (lkW W) q b) (hm : a.length ≤ 9223372036854775807) :
    PW Tryz.prog 109 ⟨[.slice p a.length cp, .slice q b.length cq]⟩ W (.bool (decide (a = b))) := by
  refine eqInts_vc p a.length cp q b.length cq (Mem.start [] W) ⟨fun h => finPW ?_, fun h => eqInts_loop ha hb (by omega) hm a.length 0 (by omega) (finPW ?_)⟩
  · rw [decide_eq_false]
    intro hab; subst hab; exact h rfl
  · simp
theorem labValid_loop {w0 : World} {p : Option Addr} {cp : Nat} {R : Ending → World → Prop} {a : List Int} (ha : IntsL (lkW w0) p a) (hm : a.length ≤ 9223372036854775807) (HR : ∀ L v, Fin R [] [] w0 v → Fin R L [] w0 v) :
    ∀ (g i : Nat) (last : Int), 0 ≤ last → last ≤ 64 → g + i = a.length → Fin R [] [] w0 (.bool (ascOk last (a.drop i))) → labValid_c0 last p a.length cp (a.length : Int) (i : Int) w0 R
  | 0, i, last, _, _, hg, H => by
    apply labValid_c0_vc
    refine no (by omega) (finEq H ?_)
    rw [List.drop_of_length_le (by omega)]; rfl
  | g + 1, i, last, l0, l1, hg, H => by
    apply labValid_c0_vc
    have h1 : i < a.length := by omega
    obtain ⟨B1, o1, c1, rfl, e2, e3⟩ := ha.get h1
    rw [List.drop_eq_getElem_cons h1] at H
    rw [wi64 (x := last + 1) (by omega)]
    refine yes (by omega) ⟨B1, o1, rfl, by omega, c1, a[i], e2, by simpa using e3, fun B5 B6 => ⟨fun h => HR _ _ (finEq H ?_), fun h => ⟨fun h2 => HR _ _ (finEq H ?_), fun h2 => ?_⟩⟩⟩
    · rw [ascOk, decide_eq_false (by omega), Bool.false_and]
    · rw [ascOk, decide_eq_false (by omega), Bool.false_and]
    · rw [wi64 (by omega), show (i : Int) + 1 = ((i + 1 : Nat) : Int) by omega]
      refine labValid_loop ha hm HR g (i + 1) a[i] (by omega) (by omega) (by omega) (finEq H ?_)
      rw [ascOk, decide_eq_true (by omega), Bool.true_and]
theorem pwLoose {W : World} {u : Value} : ∀ (L : SHeap) v, Fin (fun e W' => e = .returned u ∧ Below W.heap.size W W') [] [] W v → Fin (fun e W' => e = .returned u ∧ Below W.heap.size W W') L [] W v :=
  fun L v h W' hm => h W' ⟨by simp, by simp, by simp, hm.kept⟩
theorem labValid_c {W : World} {p : Option Addr} {c : Nat} {l : Lab} (h : IntsL (lkW W) p l.after) (hm : l.after.length ≤ 9223372036854775807) : PW Tryz.prog 102 ⟨[.agg ⟨l.cells p c⟩]⟩ W (.bool l.ok) := by
  refine labValid_vc l.unt p l.after.length c l.appr l.den (Mem.start [] W) fun B B1 B2 => ?_
  have stop : ¬ (0 ≤ l.unt ∧ l.unt ≤ 1000000000 ∧ 0 ≤ l.appr ∧ l.appr ≤ 5 ∧ 0 ≤ l.den ∧ l.den ≤ 15) → (Value.bool false) = .bool l.ok := fun hn => by rw [Lab.ok, decide_eq_false hn, Bool.false_and]
  refine ⟨fun h => finPW (stop (by omega)), fun h1 => ⟨fun h => finPW (stop (by omega)), fun h2 B3 => ⟨fun h => finPW (stop (by omega)), fun h3 => ⟨fun h => finPW (stop (by omega)), fun h4 B4 => ⟨fun h => finPW (stop (by omega)), fun h5 => ⟨fun h => finPW (stop (by omega)), fun h6 => ?_⟩⟩⟩⟩⟩⟩
  refine labValid_loop h hm pwLoose l.after.length 0 0 (by omega) (by omega) (by omega) (finPW ?_)
  rw [Lab.ok, decide_eq_true (by omega), Bool.true_and]; rfl
theorem Lab.ext' {x y : Lab} : x = y ↔ x.unt = y.unt ∧ x.after = y.after ∧ x.appr = y.appr ∧ x.den = y.den := by
  cases x; cases y; simp
theorem Lab.ne {x y : Lab} (h : ¬ (x.unt = y.unt ∧ x.after = y.after ∧ x.appr = y.appr ∧ x.den = y.den)) : (Value.bool false) = .bool (decide (x = y)) := by
  rw [decide_eq_false (fun e => h (Lab.ext'.1 e))]
theorem labSame_c {W : World} {p q : Option Addr} {c d : Nat} {x y : Lab} (hx : IntsL (lkW W) p x.after) (hy : IntsL (lkW W) q y.after) (hm : x.after.length ≤ 9223372036854775807) :
    PW Tryz.prog 63 ⟨[.agg ⟨x.cells p c⟩, .agg ⟨y.cells q d⟩]⟩ W (.bool (decide (x = y))) := by
  refine labSame_vc x.unt p x.after.length c x.appr x.den y.unt q y.after.length d y.appr y.den (Mem.start [] W) fun B B1 => ⟨fun h1 => ?_, fun h1 => finPW (Lab.ne fun h => h1 h.1)⟩
  refine CallH.pw (fun W' hm' => eqInts_c (hx.mono (lkW_kept hm')) (hy.mono (lkW_kept hm')) hm) ⟨_, rfl, rfl, fun h2 => ⟨fun h3 => finPW ?_, fun h3 => finPW (Lab.ne fun h => h3 h.2.2.1)⟩, fun h2 => finPW (Lab.ne fun h => of_decide_eq_false h2 h.2.1)⟩
  have h2 := of_decide_eq_true h2
  simp only [Lab.ext', h1, h2, h3, true_and]
end Go.Eng
namespace Go.Eng
open Go Go.RowKit Go.Proofs
set_option linter.unusedVariables false
set_option maxRecDepth 100000
theorem rules_vc  {R : Ending → World → Prop} {w0 W : World} (hm : Mem [] [] w0 W)
  (H :
   ∀ B : Nat,
   Fin R [(B, .map #[{ key := .int .i64 (1 : Int), val := .agg #[.func (.func 195) #[] #[], .bool false, .func (.func 197) #[] #[]], born := 0 }, { key := .int .i64 (2 : Int), val := .agg #[.func (.func 195) #[] #[], .bool false, .func (.func 198) #[] #[]], born := 1 }, { key := .int .i64 (3 : Int), val := .agg #[.func (.func 196) #[] #[], .bool true, .func (.func 201) #[] #[]], born := 2 }, { key := .int .i64 (4 : Int), val := .agg #[.func (.func 195) #[] #[], .bool false, .func (.func 202) #[] #[]], born := 3 }, { key := .int .i64 (5 : Int), val := .agg #[.func (.func 203) #[] #[], .bool false, .func (.func 204) #[] #[]], born := 4 }] 5)] [] w0 (.map (some B))) :
  Calls Tryz.prog 176 ⟨[]⟩ W R := by
 refine AtE.calls (nt := 12) Tryz.func176 (by kernel_rfl) hm ?_
 refine AtE.ru 10 ?_
 refine AtE.new (fun B => .map (some B)) (.map #[] 0) (fun W => by kernel_rfl) (by kernel_rfl) (fun B => ?_)
 replace H := H B
 refine AtE.ru 2 ?_
 refine AtE.insert 0 (b := B) (c := 0) (es := #[]) (kt := 3) (et := 243) (kd := .i64) (n := (1 : Int)) (v := .agg #[.func (.func 195) #[] #[], .bool false, .func (.func 197) #[] #[]]) (n' := 1) (by kernel_rfl) rfl ?_
 refine AtE.norm (k' := [.inRegion (regOps [.code (sub (Eng.body Tryz.f176) [1,1,0])]) [4,5,6,7,8,9,10,11,12,13,14,15], .code (sub (Eng.body Tryz.f176) [1,1,1])]) (e' := [(1, .func (.func 195) #[] #[]), (2, .map (some B))]) (L' := [(B, .map #[{ key := .int .i64 (1 : Int), val := .agg #[.func (.func 195) #[] #[], .bool false, .func (.func 197) #[] #[]], born := 0 }] 1)]) ?_ (by kernel_rfl)
 refine AtE.ru 2 ?_
 refine AtE.insert 0 (b := B) (c := 1) (es := #[{ key := .int .i64 (1 : Int), val := .agg #[.func (.func 195) #[] #[], .bool false, .func (.func 197) #[] #[]], born := 0 }]) (kt := 3) (et := 243) (kd := .i64) (n := (2 : Int)) (v := .agg #[.func (.func 195) #[] #[], .bool false, .func (.func 198) #[] #[]]) (n' := 2) (by kernel_rfl) rfl ?_
 refine AtE.norm (k' := [.inRegion (regOps [.code (sub (Eng.body Tryz.f176) [1,1,0])]) [7,8,9,10,11,12,13,14,15], .code (sub (Eng.body Tryz.f176) [1,1,1])]) (e' := [(1, .func (.func 195) #[] #[]), (2, .map (some B))]) (L' := [(B, .map #[{ key := .int .i64 (1 : Int), val := .agg #[.func (.func 195) #[] #[], .bool false, .func (.func 197) #[] #[]], born := 0 }, { key := .int .i64 (2 : Int), val := .agg #[.func (.func 195) #[] #[], .bool false, .func (.func 198) #[] #[]], born := 1 }] 2)]) ?_ (by kernel_rfl)
 refine AtE.ru 1 ?_
 refine AtE.insert 0 (b := B) (c := 2) (es := #[{ key := .int .i64 (1 : Int), val := .agg #[.func (.func 195) #[] #[], .bool false, .func (.func 197) #[] #[]], born := 0 }, { key := .int .i64 (2 : Int), val := .agg #[.func (.func 195) #[] #[], .bool false, .func (.func 198) #[] #[]], born := 1 }]) (kt := 3) (et := 243) (kd := .i64) (n := (3 : Int)) (v := .agg #[.func (.func 196) #[] #[], .bool true, .func (.func 201) #[] #[]]) (n' := 3) (by kernel_rfl) rfl ?_
 refine AtE.norm (k' := [.inRegion (regOps [.code (sub (Eng.body Tryz.f176) [1,1,0])]) [9,10,11,12,13,14,15], .code (sub (Eng.body Tryz.f176) [1,1,1])]) (e' := [(1, .func (.func 195) #[] #[]), (2, .map (some B))]) (L' := [(B, .map #[{ key := .int .i64 (1 : Int), val := .agg #[.func (.func 195) #[] #[], .bool false, .func (.func 197) #[] #[]], born := 0 }, { key := .int .i64 (2 : Int), val := .agg #[.func (.func 195) #[] #[], .bool false, .func (.func 198) #[] #[]], born := 1 }, { key := .int .i64 (3 : Int), val := .agg #[.func (.func 196) #[] #[], .bool true, .func (.func 201) #[] #[]], born := 2 }] 3)]) ?_ (by kernel_rfl)
 refine AtE.ru 2 ?_
 refine AtE.insert 0 (b := B) (c := 3) (es := #[{ key := .int .i64 (1 : Int), val := .agg #[.func (.func 195) #[] #[], .bool false, .func (.func 197) #[] #[]], born := 0 }, { key := .int .i64 (2 : Int), val := .agg #[.func (.func 195) #[] #[], .bool false, .func (.func 198) #[] #[]], born := 1 }, { key := .int .i64 (3 : Int), val := .agg #[.func (.func 196) #[] #[], .bool true, .func (.func 201) #[] #[]], born := 2 }]) (kt := 3) (et := 243) (kd := .i64) (n := (4 : Int)) (v := .agg #[.func (.func 195) #[] #[], .bool false, .func (.func 202) #[] #[]]) (n' := 4) (by kernel_rfl) rfl ?_
 refine AtE.norm (k' := [.inRegion (regOps [.code (sub (Eng.body Tryz.f176) [1,1,0])]) [12,13,14,15], .code (sub (Eng.body Tryz.f176) [1,1,1])]) (e' := [(2, .map (some B))]) (L' := [(B, .map #[{ key := .int .i64 (1 : Int), val := .agg #[.func (.func 195) #[] #[], .bool false, .func (.func 197) #[] #[]], born := 0 }, { key := .int .i64 (2 : Int), val := .agg #[.func (.func 195) #[] #[], .bool false, .func (.func 198) #[] #[]], born := 1 }, { key := .int .i64 (3 : Int), val := .agg #[.func (.func 196) #[] #[], .bool true, .func (.func 201) #[] #[]], born := 2 }, { key := .int .i64 (4 : Int), val := .agg #[.func (.func 195) #[] #[], .bool false, .func (.func 202) #[] #[]], born := 3 }] 4)]) ?_ (by kernel_rfl)
 refine AtE.ru 1 ?_
 refine AtE.insert 0 (b := B) (c := 4) (es := #[{ key := .int .i64 (1 : Int), val := .agg #[.func (.func 195) #[] #[], .bool false, .func (.func 197) #[] #[]], born := 0 }, { key := .int .i64 (2 : Int), val := .agg #[.func (.func 195) #[] #[], .bool false, .func (.func 198) #[] #[]], born := 1 }, { key := .int .i64 (3 : Int), val := .agg #[.func (.func 196) #[] #[], .bool true, .func (.func 201) #[] #[]], born := 2 }, { key := .int .i64 (4 : Int), val := .agg #[.func (.func 195) #[] #[], .bool false, .func (.func 202) #[] #[]], born := 3 }]) (kt := 3) (et := 243) (kd := .i64) (n := (5 : Int)) (v := .agg #[.func (.func 203) #[] #[], .bool false, .func (.func 204) #[] #[]]) (n' := 5) (by kernel_rfl) rfl ?_
 refine AtE.norm (k' := [.inRegion (regOps [.code (sub (Eng.body Tryz.f176) [1,1,0])]) [14,15], .code (sub (Eng.body Tryz.f176) [1,1,1])]) (e' := [(2, .map (some B))]) (L' := [(B, .map #[{ key := .int .i64 (1 : Int), val := .agg #[.func (.func 195) #[] #[], .bool false, .func (.func 197) #[] #[]], born := 0 }, { key := .int .i64 (2 : Int), val := .agg #[.func (.func 195) #[] #[], .bool false, .func (.func 198) #[] #[]], born := 1 }, { key := .int .i64 (3 : Int), val := .agg #[.func (.func 196) #[] #[], .bool true, .func (.func 201) #[] #[]], born := 2 }, { key := .int .i64 (4 : Int), val := .agg #[.func (.func 195) #[] #[], .bool false, .func (.func 202) #[] #[]], born := 3 }, { key := .int .i64 (5 : Int), val := .agg #[.func (.func 203) #[] #[], .bool false, .func (.func 204) #[] #[]], born := 4 }] 5)]) ?_ (by kernel_rfl)
 refine AtE.ru 3 ?_
 exact AtE.ret Tryz.func176 (by kernel_rfl) H
abbrev followsH0 (B : Nat) (bi : Int) (bk : Int) (bt : ByteArray) (bs : Int) (br : Int) (bu : Int) (bp : Option Addr) (bl : Nat) (bc : Nat) (ba : Int) (bd : Int) (B3 : Nat) : SHeap := [(B, .cells #[.int .i64 bi, .int .i64 bk, .string bt, .int .i64 bs, .int .i64 br, .int .i64 bu, .slice bp bl bc, .int .i64 ba, .int .i64 bd] 89), (B3, .cells #[.func (.func 196) #[] #[], .bool true, .func (.func 201) #[] #[]] 243)]
abbrev followsH1 (B : Nat) (bi : Int) (bk : Int) (bt : ByteArray) (bs : Int) (br : Int) (bu : Int) (bp : Option Addr) (bl : Nat) (bc : Nat) (ba : Int) (bd : Int) (B1 : Nat) : SHeap := [(B, .cells #[.int .i64 bi, .int .i64 bk, .string bt, .int .i64 bs, .int .i64 br, .int .i64 bu, .slice bp bl bc, .int .i64 ba, .int .i64 bd] 89), (B1, .cells #[.func (.func 195) #[] #[], .bool false, .func (.func 197) #[] #[]] 243)]
abbrev followsH2 (B : Nat) (bi : Int) (bk : Int) (bt : ByteArray) (bs : Int) (br : Int) (bu : Int) (bp : Option Addr) (bl : Nat) (bc : Nat) (ba : Int) (bd : Int) (B2 : Nat) : SHeap := [(B, .cells #[.int .i64 bi, .int .i64 bk, .string bt, .int .i64 bs, .int .i64 br, .int .i64 bu, .slice bp bl bc, .int .i64 ba, .int .i64 bd] 89), (B2, .cells #[.func (.func 195) #[] #[], .bool false, .func (.func 198) #[] #[]] 243)]
abbrev followsH3 (B : Nat) (bi : Int) (bk : Int) (bt : ByteArray) (bs : Int) (br : Int) (bu : Int) (bp : Option Addr) (bl : Nat) (bc : Nat) (ba : Int) (bd : Int) (B4 : Nat) : SHeap := [(B, .cells #[.int .i64 bi, .int .i64 bk, .string bt, .int .i64 bs, .int .i64 br, .int .i64 bu, .slice bp bl bc, .int .i64 ba, .int .i64 bd] 89), (B4, .cells #[.func (.func 195) #[] #[], .bool false, .func (.func 202) #[] #[]] 243)]
abbrev followsH4 (B : Nat) (bi : Int) (bk : Int) (bt : ByteArray) (bs : Int) (br : Int) (bu : Int) (bp : Option Addr) (bl : Nat) (bc : Nat) (ba : Int) (bd : Int) (B5 : Nat) : SHeap := [(B, .cells #[.int .i64 bi, .int .i64 bk, .string bt, .int .i64 bs, .int .i64 br, .int .i64 bu, .slice bp bl bc, .int .i64 ba, .int .i64 bd] 89), (B5, .cells #[.func (.func 203) #[] #[], .bool false, .func (.func 204) #[] #[]] 243)]
abbrev followsH5 (B : Nat) (bi : Int) (bk : Int) (bt : ByteArray) (bs : Int) (br : Int) (bu : Int) (bp : Option Addr) (bl : Nat) (bc : Nat) (ba : Int) (bd : Int) : SHeap := [(B, .cells #[.int .i64 bi, .int .i64 bk, .string bt, .int .i64 bs, .int .i64 br, .int .i64 bu, .slice bp bl bc, .int .i64 ba, .int .i64 bd] 89)]
theorem follows_vc (bi : Int) (bk : Int) (bt : ByteArray) (bs : Int) (br : Int) (bu : Int) (bp : Option Addr) (bl : Nat) (bc : Nat) (ba : Int) (bd : Int) (mb : Nat) {R : Ending → World → Prop} {w0 W : World} (hm : Mem [] [] w0 W)
  (H :
   ∀ B : Nat,
   (w0.heap[mb]? = some (.map #[{ key := .int .i64 (1 : Int), val := .agg #[.func (.func 195) #[] #[], .bool false, .func (.func 197) #[] #[]], born := 0 }, { key := .int .i64 (2 : Int), val := .agg #[.func (.func 195) #[] #[], .bool false, .func (.func 198) #[] #[]], born := 1 }, { key := .int .i64 (3 : Int), val := .agg #[.func (.func 196) #[] #[], .bool true, .func (.func 201) #[] #[]], born := 2 }, { key := .int .i64 (4 : Int), val := .agg #[.func (.func 195) #[] #[], .bool false, .func (.func 202) #[] #[]], born := 3 }, { key := .int .i64 (5 : Int), val := .agg #[.func (.func 203) #[] #[], .bool false, .func (.func 204) #[] #[]], born := 4 }] 5)) ∧
   ((bk = (1 : Int)) →
    ∀ B1 : Nat,
    ((bi < (1 : Int)) →
     Fin R (followsH1 B bi bk bt bs br bu bp bl bc ba bd B1) [] w0 (.bool false)) ∧
     ((¬ (bi < (1 : Int))) →
     (((1000 : Int) < bi) →
      Fin R (followsH1 B bi bk bt bs br bu bp bl bc ba bd B1) [] w0 (.bool false)) ∧
      ((¬ ((1000 : Int) < bi)) →
      CallH Tryz.prog 102 ⟨[.agg #[.int .i64 bu, .slice bp bl bc, .int .i64 ba, .int .i64 bd]]⟩ (followsH1 B bi bk bt bs br bu bp bl bc ba bd B1) [] w0 (fun v L' => ∃ (r1 : Bool), v = (.bool r1) ∧ L' = (followsH1 B bi bk bt bs br bu bp bl bc ba bd B1) ∧
       ((r1 = true) →
        CallH Tryz.prog 195 ⟨[.string bt]⟩ (followsH1 B bi bk bt bs br bu bp bl bc ba bd B1) [] w0 (fun v L' => ∃ (r21 : Bool), v = (.bool r21) ∧ L' = (followsH1 B bi bk bt bs br bu bp bl bc ba bd B1) ∧
         ((r21 = true) →
          ((bs = (0 : Int)) →
           Fin R (followsH1 B bi bk bt bs br bu bp bl bc ba bd B1) [] w0 (.bool (decide (br = (0 : Int))))) ∧
           ((¬ (bs = (0 : Int))) →
           Fin R (followsH1 B bi bk bt bs br bu bp bl bc ba bd B1) [] w0 (.bool false))) ∧
          ((r21 = false) →
          Fin R (followsH1 B bi bk bt bs br bu bp bl bc ba bd B1) [] w0 (.bool false)))) ∧
        ((r1 = false) →
        Fin R (followsH1 B bi bk bt bs br bu bp bl bc ba bd B1) [] w0 (.bool false)))))) ∧
    ((¬ bk = (1 : Int)) →
    ((bk = (2 : Int)) →
     ∀ B2 : Nat,
     ((bi < (1 : Int)) →
      Fin R (followsH2 B bi bk bt bs br bu bp bl bc ba bd B2) [] w0 (.bool false)) ∧
      ((¬ (bi < (1 : Int))) →
      (((1000 : Int) < bi) →
       Fin R (followsH2 B bi bk bt bs br bu bp bl bc ba bd B2) [] w0 (.bool false)) ∧
       ((¬ ((1000 : Int) < bi)) →
       CallH Tryz.prog 102 ⟨[.agg #[.int .i64 bu, .slice bp bl bc, .int .i64 ba, .int .i64 bd]]⟩ (followsH2 B bi bk bt bs br bu bp bl bc ba bd B2) [] w0 (fun v L' => ∃ (r31 : Bool), v = (.bool r31) ∧ L' = (followsH2 B bi bk bt bs br bu bp bl bc ba bd B2) ∧
        ((r31 = true) →
         CallH Tryz.prog 195 ⟨[.string bt]⟩ (followsH2 B bi bk bt bs br bu bp bl bc ba bd B2) [] w0 (fun v L' => ∃ (r41 : Bool), v = (.bool r41) ∧ L' = (followsH2 B bi bk bt bs br bu bp bl bc ba bd B2) ∧
          ((r41 = true) →
           ((bs = (0 : Int)) →
            Fin R (followsH2 B bi bk bt bs br bu bp bl bc ba bd B2) [] w0 (.bool (decide (br = (0 : Int))))) ∧
            ((¬ (bs = (0 : Int))) →
            Fin R (followsH2 B bi bk bt bs br bu bp bl bc ba bd B2) [] w0 (.bool false))) ∧
           ((r41 = false) →
           Fin R (followsH2 B bi bk bt bs br bu bp bl bc ba bd B2) [] w0 (.bool false)))) ∧
         ((r31 = false) →
         Fin R (followsH2 B bi bk bt bs br bu bp bl bc ba bd B2) [] w0 (.bool false)))))) ∧
     ((¬ bk = (2 : Int)) →
     ((bk = (3 : Int)) →
      ∀ B3 : Nat,
      ((bi < (1 : Int)) →
       Fin R (followsH0 B bi bk bt bs br bu bp bl bc ba bd B3) [] w0 (.bool false)) ∧
       ((¬ (bi < (1 : Int))) →
       (((1000 : Int) < bi) →
        Fin R (followsH0 B bi bk bt bs br bu bp bl bc ba bd B3) [] w0 (.bool false)) ∧
        ((¬ ((1000 : Int) < bi)) →
        CallH Tryz.prog 102 ⟨[.agg #[.int .i64 bu, .slice bp bl bc, .int .i64 ba, .int .i64 bd]]⟩ (followsH0 B bi bk bt bs br bu bp bl bc ba bd B3) [] w0 (fun v L' => ∃ (r51 : Bool), v = (.bool r51) ∧ L' = (followsH0 B bi bk bt bs br bu bp bl bc ba bd B3) ∧
         ((r51 = true) →
          CallH Tryz.prog 196 ⟨[.string bt]⟩ (followsH0 B bi bk bt bs br bu bp bl bc ba bd B3) [] w0 (fun v L' => ∃ (r61 : Bool), v = (.bool r61) ∧ L' = (followsH0 B bi bk bt bs br bu bp bl bc ba bd B3) ∧
           ((r61 = true) →
            (((1 : Int) ≤ bs) →
             ((bs ≤ (64 : Int)) →
              (((1 : Int) ≤ br) →
               Fin R (followsH0 B bi bk bt bs br bu bp bl bc ba bd B3) [] w0 (.bool (decide (br ≤ (1000 : Int))))) ∧
               ((¬ ((1 : Int) ≤ br)) →
               Fin R (followsH0 B bi bk bt bs br bu bp bl bc ba bd B3) [] w0 (.bool false))) ∧
              ((¬ (bs ≤ (64 : Int))) →
              Fin R (followsH0 B bi bk bt bs br bu bp bl bc ba bd B3) [] w0 (.bool false))) ∧
             ((¬ ((1 : Int) ≤ bs)) →
             Fin R (followsH0 B bi bk bt bs br bu bp bl bc ba bd B3) [] w0 (.bool false))) ∧
            ((r61 = false) →
            Fin R (followsH0 B bi bk bt bs br bu bp bl bc ba bd B3) [] w0 (.bool false)))) ∧
          ((r51 = false) →
          Fin R (followsH0 B bi bk bt bs br bu bp bl bc ba bd B3) [] w0 (.bool false)))))) ∧
      ((¬ bk = (3 : Int)) →
      ((bk = (4 : Int)) →
       ∀ B4 : Nat,
       ((bi < (1 : Int)) →
        Fin R (followsH3 B bi bk bt bs br bu bp bl bc ba bd B4) [] w0 (.bool false)) ∧
        ((¬ (bi < (1 : Int))) →
        (((1000 : Int) < bi) →
         Fin R (followsH3 B bi bk bt bs br bu bp bl bc ba bd B4) [] w0 (.bool false)) ∧
         ((¬ ((1000 : Int) < bi)) →
         CallH Tryz.prog 102 ⟨[.agg #[.int .i64 bu, .slice bp bl bc, .int .i64 ba, .int .i64 bd]]⟩ (followsH3 B bi bk bt bs br bu bp bl bc ba bd B4) [] w0 (fun v L' => ∃ (r71 : Bool), v = (.bool r71) ∧ L' = (followsH3 B bi bk bt bs br bu bp bl bc ba bd B4) ∧
          ((r71 = true) →
           CallH Tryz.prog 195 ⟨[.string bt]⟩ (followsH3 B bi bk bt bs br bu bp bl bc ba bd B4) [] w0 (fun v L' => ∃ (r81 : Bool), v = (.bool r81) ∧ L' = (followsH3 B bi bk bt bs br bu bp bl bc ba bd B4) ∧
            ((r81 = true) →
             ((bs = (0 : Int)) →
              Fin R (followsH3 B bi bk bt bs br bu bp bl bc ba bd B4) [] w0 (.bool (decide (br = (0 : Int))))) ∧
              ((¬ (bs = (0 : Int))) →
              Fin R (followsH3 B bi bk bt bs br bu bp bl bc ba bd B4) [] w0 (.bool false))) ∧
             ((r81 = false) →
             Fin R (followsH3 B bi bk bt bs br bu bp bl bc ba bd B4) [] w0 (.bool false)))) ∧
           ((r71 = false) →
           Fin R (followsH3 B bi bk bt bs br bu bp bl bc ba bd B4) [] w0 (.bool false)))))) ∧
       ((¬ bk = (4 : Int)) →
       ((bk = (5 : Int)) →
        ∀ B5 : Nat,
        ((bi < (1 : Int)) →
         Fin R (followsH4 B bi bk bt bs br bu bp bl bc ba bd B5) [] w0 (.bool false)) ∧
         ((¬ (bi < (1 : Int))) →
         (((1000 : Int) < bi) →
          Fin R (followsH4 B bi bk bt bs br bu bp bl bc ba bd B5) [] w0 (.bool false)) ∧
          ((¬ ((1000 : Int) < bi)) →
          CallH Tryz.prog 102 ⟨[.agg #[.int .i64 bu, .slice bp bl bc, .int .i64 ba, .int .i64 bd]]⟩ (followsH4 B bi bk bt bs br bu bp bl bc ba bd B5) [] w0 (fun v L' => ∃ (r91 : Bool), v = (.bool r91) ∧ L' = (followsH4 B bi bk bt bs br bu bp bl bc ba bd B5) ∧
           ((r91 = true) →
            CallH Tryz.prog 203 ⟨[.string bt]⟩ (followsH4 B bi bk bt bs br bu bp bl bc ba bd B5) [] w0 (fun v L' => ∃ (r101 : Bool), v = (.bool r101) ∧ L' = (followsH4 B bi bk bt bs br bu bp bl bc ba bd B5) ∧
             ((r101 = true) →
              ((bs = (0 : Int)) →
               Fin R (followsH4 B bi bk bt bs br bu bp bl bc ba bd B5) [] w0 (.bool (decide (br = (0 : Int))))) ∧
               ((¬ (bs = (0 : Int))) →
               Fin R (followsH4 B bi bk bt bs br bu bp bl bc ba bd B5) [] w0 (.bool false))) ∧
              ((r101 = false) →
              Fin R (followsH4 B bi bk bt bs br bu bp bl bc ba bd B5) [] w0 (.bool false)))) ∧
            ((r91 = false) →
            Fin R (followsH4 B bi bk bt bs br bu bp bl bc ba bd B5) [] w0 (.bool false)))))) ∧
        ((¬ bk = (5 : Int)) →
        ∀ B6 : Nat,
        Fin R [(B, .cells #[.int .i64 bi, .int .i64 bk, .string bt, .int .i64 bs, .int .i64 br, .int .i64 bu, .slice bp bl bc, .int .i64 ba, .int .i64 bd] 89), (B6, .cells #[.nilFunc, .bool false, .nilFunc] 243)] [] w0 (.bool false))))))) :
  Calls Tryz.prog 177 ⟨[.agg #[.int .i64 bi, .int .i64 bk, .string bt, .int .i64 bs, .int .i64 br, .int .i64 bu, .slice bp bl bc, .int .i64 ba, .int .i64 bd], .map (some mb)]⟩ W R := by
 refine AtE.calls (nt := 69) Tryz.func177 (by kernel_rfl) hm ?_
 refine AtE.ru 2 ?_
 refine AtE.new (fun B => .pointer (some ⟨B, 0, none⟩)) (.cells #[.int .i64 bi, .int .i64 bk, .string bt, .int .i64 bs, .int .i64 br, .int .i64 bu, .slice bp bl bc, .int .i64 ba, .int .i64 bd] 89) (fun W => by kernel_rfl) (by kernel_rfl) (fun B => ?_)
 replace H := H B
 refine AtE.ru 6 ?_
 refine AtE.load 0 1 (T := 3) (v := .int .i64 bk) (by kernel_rfl) ?_
 refine AtE.lookW (b := mb) (c := 5) (es := #[{ key := .int .i64 (1 : Int), val := .agg #[.func (.func 195) #[] #[], .bool false, .func (.func 197) #[] #[]], born := 0 }, { key := .int .i64 (2 : Int), val := .agg #[.func (.func 195) #[] #[], .bool false, .func (.func 198) #[] #[]], born := 1 }, { key := .int .i64 (3 : Int), val := .agg #[.func (.func 196) #[] #[], .bool true, .func (.func 201) #[] #[]], born := 2 }, { key := .int .i64 (4 : Int), val := .agg #[.func (.func 195) #[] #[], .bool false, .func (.func 202) #[] #[]], born := 3 }, { key := .int .i64 (5 : Int), val := .agg #[.func (.func 203) #[] #[], .bool false, .func (.func 204) #[] #[]], born := 4 }]) (kt := 3) (et := 243) (kd := .i64) (n := bk) (z := .agg #[.nilFunc, .bool false, .nilFunc]) H.1 List.not_mem_nil (by kernel_rfl) ?_
 replace H := H.2
 refine LookAll.cons (fun h1' => ?_) (fun h1' => ?_)
 ·replace H := H.1 h1'
  refine AtE.norm (k' := [.inRegion (regOps [.code (sub (Eng.body Tryz.f177) [1,0])]) [4,5,6,7,8,9], .code (sub (Eng.body Tryz.f177) [1,1])]) (e' := [(2, .pointer (some ⟨B, 0, none⟩)), (11, .tuple #[.agg #[.func (.func 195) #[] #[], .bool false, .func (.func 197) #[] #[]], .bool true])]) (L' := (followsH5 B bi bk bt bs br bu bp bl bc ba bd)) ?_ (by kernel_rfl)
  refine AtE.ru 3 ?_
  refine AtE.new (fun B => .pointer (some ⟨B, 0, none⟩)) (.cells #[.nilFunc, .bool false, .nilFunc] 243) (fun W => by kernel_rfl) (by kernel_rfl) (fun B1 => ?_)
  replace H := H B1
  refine AtE.store 1 0 (T := 243) (v := .agg #[.func (.func 195) #[] #[], .bool false, .func (.func 197) #[] #[]]) (by kernel_rfl) ?_
  refine AtE.ru 9 ?_
  refine AtE.load 0 0 (T := 3) (v := .int .i64 bi) (by kernel_rfl) ?_
  refine AtE.ru 3 ?_
  refine AtE.splitP 21 (p := bi < (1 : Int)) (by kernel_rfl) (fun h2' => ?_) (fun h2' => ?_)
  ·replace H := H.1 h2'
   refine AtE.ru 24 ?_
   exact AtE.ret Tryz.func177 (by kernel_rfl) H
  ·replace H := H.2 h2'
   refine AtE.ru 1 ?_
   refine AtE.load 0 0 (T := 3) (v := .int .i64 bi) (by kernel_rfl) ?_
   refine AtE.ru 3 ?_
   refine AtE.splitP 26 (p := (1000 : Int) < bi) (by kernel_rfl) (fun h3' => ?_) (fun h3' => ?_)
   ·replace H := H.1 h3'
    refine AtE.ru 19 ?_
    exact AtE.ret Tryz.func177 (by kernel_rfl) H
   ·replace H := H.2 h3'
    refine AtE.ru 1 ?_
    refine AtE.load 0 5 (T := 26) (v := .agg #[.int .i64 bu, .slice bp bl bc, .int .i64 ba, .int .i64 bd]) (by kernel_rfl) ?_
    refine AtE.norm (k' := [.inRegion (regOps [.code (sub (Eng.body Tryz.f177) [1,1,0,0])]) [15,16,17,18,19,20,21,22,23,24,25], .code (sub (Eng.body Tryz.f177) [1,1,0,1]), .code (sub (Eng.body Tryz.f177) [1,1,1])]) (e' := [(2, .pointer (some ⟨B, 0, none⟩)), (5, .pointer (some ⟨B1, 0, none⟩)), (26, .bool false), (28, .agg #[.int .i64 bu, .slice bp bl bc, .int .i64 ba, .int .i64 bd])]) (L' := (followsH1 B bi bk bt bs br bu bp bl bc ba bd B1)) ?_ (by kernel_rfl)
    refine AtE.call 102 ⟨[.agg #[.int .i64 bu, .slice bp bl bc, .int .i64 ba, .int .i64 bd]]⟩ (fun W => by kernel_rfl) (by kernel_rfl) H ?_
    clear H
    rintro _ _ ⟨r1, rfl, rfl, H⟩
    refine AtE.split 29 (b := r1) (by kernel_rfl) (fun h4' => ?_) (fun h4' => ?_)
    ·replace H := H.1 h4'
     refine AtE.ru 4 ?_
     refine AtE.load 1 0 (T := 38) (v := .func (.func 195) #[] #[]) (by kernel_rfl) ?_
     refine AtE.ru 1 ?_
     refine AtE.load 0 2 (T := 9) (v := .string bt) (by kernel_rfl) ?_
     refine AtE.call 195 ⟨[.string bt]⟩ (fun W => by kernel_rfl) (by kernel_rfl) H ?_
     clear H
     rintro _ _ ⟨r21, rfl, rfl, H⟩
     refine AtE.split 37 (b := r21) (by kernel_rfl) (fun h5' => ?_) (fun h5' => ?_)
     ·replace H := H.1 h5'
      refine AtE.ru 9 ?_
      refine AtE.load 1 1 (T := 4) (v := .bool false) (by kernel_rfl) ?_
      refine AtE.norm (k' := [.inRegion (regOps [.code (sub (Eng.body Tryz.f177) [1,1,1,0,0])]) [2], .code (sub (Eng.body Tryz.f177) [1,1,1,0,1]), .code (sub (Eng.body Tryz.f177) [1,1,1,1])]) (e' := [(2, .pointer (some ⟨B, 0, none⟩)), (41, .bool false)]) (L' := (followsH1 B bi bk bt bs br bu bp bl bc ba bd B1)) ?_ (by kernel_rfl)
      refine AtE.ru 6 ?_
      refine AtE.load 0 3 (T := 3) (v := .int .i64 bs) (by kernel_rfl) ?_
      refine AtE.ru 2 ?_
      refine AtE.splitP 46 (p := bs = (0 : Int)) (by kernel_rfl) (fun h6' => ?_) (fun h6' => ?_)
      ·replace H := H.1 h6'
       refine AtE.ru 1 ?_
       refine AtE.load 0 4 (T := 3) (v := .int .i64 br) (by kernel_rfl) ?_
       refine AtE.ru 4 ?_
       exact AtE.ret Tryz.func177 (by kernel_rfl) H
      ·replace H := H.2 h6'
       refine AtE.ru 6 ?_
       exact AtE.ret Tryz.func177 (by kernel_rfl) H
     ·replace H := H.2 h5'
      refine AtE.ru 8 ?_
      exact AtE.ret Tryz.func177 (by kernel_rfl) H
    ·replace H := H.2 h4'
     refine AtE.ru 16 ?_
     exact AtE.ret Tryz.func177 (by kernel_rfl) H
 ·replace H := H.2 h1'
  refine LookAll.cons (fun h7' => ?_) (fun h7' => ?_)
  ·replace H := H.1 h7'
   refine AtE.norm (k' := [.inRegion (regOps [.code (sub (Eng.body Tryz.f177) [1,0])]) [4,5,6,7,8,9], .code (sub (Eng.body Tryz.f177) [1,1])]) (e' := [(2, .pointer (some ⟨B, 0, none⟩)), (11, .tuple #[.agg #[.func (.func 195) #[] #[], .bool false, .func (.func 198) #[] #[]], .bool true])]) (L' := (followsH5 B bi bk bt bs br bu bp bl bc ba bd)) ?_ (by kernel_rfl)
   refine AtE.ru 3 ?_
   refine AtE.new (fun B => .pointer (some ⟨B, 0, none⟩)) (.cells #[.nilFunc, .bool false, .nilFunc] 243) (fun W => by kernel_rfl) (by kernel_rfl) (fun B2 => ?_)
   replace H := H B2
   refine AtE.store 1 0 (T := 243) (v := .agg #[.func (.func 195) #[] #[], .bool false, .func (.func 198) #[] #[]]) (by kernel_rfl) ?_
   refine AtE.ru 9 ?_
   refine AtE.load 0 0 (T := 3) (v := .int .i64 bi) (by kernel_rfl) ?_
   refine AtE.ru 3 ?_
   refine AtE.splitP 21 (p := bi < (1 : Int)) (by kernel_rfl) (fun h8' => ?_) (fun h8' => ?_)
   ·replace H := H.1 h8'
    refine AtE.ru 24 ?_
    exact AtE.ret Tryz.func177 (by kernel_rfl) H
   ·replace H := H.2 h8'
    refine AtE.ru 1 ?_
    refine AtE.load 0 0 (T := 3) (v := .int .i64 bi) (by kernel_rfl) ?_
    refine AtE.ru 3 ?_
    refine AtE.splitP 26 (p := (1000 : Int) < bi) (by kernel_rfl) (fun h9' => ?_) (fun h9' => ?_)
    ·replace H := H.1 h9'
     refine AtE.ru 19 ?_
     exact AtE.ret Tryz.func177 (by kernel_rfl) H
    ·replace H := H.2 h9'
     refine AtE.ru 1 ?_
     refine AtE.load 0 5 (T := 26) (v := .agg #[.int .i64 bu, .slice bp bl bc, .int .i64 ba, .int .i64 bd]) (by kernel_rfl) ?_
     refine AtE.norm (k' := [.inRegion (regOps [.code (sub (Eng.body Tryz.f177) [1,1,0,0])]) [15,16,17,18,19,20,21,22,23,24,25], .code (sub (Eng.body Tryz.f177) [1,1,0,1]), .code (sub (Eng.body Tryz.f177) [1,1,1])]) (e' := [(2, .pointer (some ⟨B, 0, none⟩)), (5, .pointer (some ⟨B2, 0, none⟩)), (26, .bool false), (28, .agg #[.int .i64 bu, .slice bp bl bc, .int .i64 ba, .int .i64 bd])]) (L' := (followsH2 B bi bk bt bs br bu bp bl bc ba bd B2)) ?_ (by kernel_rfl)
     refine AtE.call 102 ⟨[.agg #[.int .i64 bu, .slice bp bl bc, .int .i64 ba, .int .i64 bd]]⟩ (fun W => by kernel_rfl) (by kernel_rfl) H ?_
     clear H
     rintro _ _ ⟨r31, rfl, rfl, H⟩
     refine AtE.split 29 (b := r31) (by kernel_rfl) (fun h10' => ?_) (fun h10' => ?_)
     ·replace H := H.1 h10'
      refine AtE.ru 4 ?_
      refine AtE.load 1 0 (T := 38) (v := .func (.func 195) #[] #[]) (by kernel_rfl) ?_
      refine AtE.ru 1 ?_
      refine AtE.load 0 2 (T := 9) (v := .string bt) (by kernel_rfl) ?_
      refine AtE.call 195 ⟨[.string bt]⟩ (fun W => by kernel_rfl) (by kernel_rfl) H ?_
      clear H
      rintro _ _ ⟨r41, rfl, rfl, H⟩
      refine AtE.split 37 (b := r41) (by kernel_rfl) (fun h11' => ?_) (fun h11' => ?_)
      ·replace H := H.1 h11'
       refine AtE.ru 9 ?_
       refine AtE.load 1 1 (T := 4) (v := .bool false) (by kernel_rfl) ?_
       refine AtE.norm (k' := [.inRegion (regOps [.code (sub (Eng.body Tryz.f177) [1,1,1,0,0])]) [2], .code (sub (Eng.body Tryz.f177) [1,1,1,0,1]), .code (sub (Eng.body Tryz.f177) [1,1,1,1])]) (e' := [(2, .pointer (some ⟨B, 0, none⟩)), (41, .bool false)]) (L' := (followsH2 B bi bk bt bs br bu bp bl bc ba bd B2)) ?_ (by kernel_rfl)
       refine AtE.ru 6 ?_
       refine AtE.load 0 3 (T := 3) (v := .int .i64 bs) (by kernel_rfl) ?_
       refine AtE.ru 2 ?_
       refine AtE.splitP 46 (p := bs = (0 : Int)) (by kernel_rfl) (fun h12' => ?_) (fun h12' => ?_)
       ·replace H := H.1 h12'
        refine AtE.ru 1 ?_
        refine AtE.load 0 4 (T := 3) (v := .int .i64 br) (by kernel_rfl) ?_
        refine AtE.ru 4 ?_
        exact AtE.ret Tryz.func177 (by kernel_rfl) H
       ·replace H := H.2 h12'
        refine AtE.ru 6 ?_
        exact AtE.ret Tryz.func177 (by kernel_rfl) H
      ·replace H := H.2 h11'
       refine AtE.ru 8 ?_
       exact AtE.ret Tryz.func177 (by kernel_rfl) H
     ·replace H := H.2 h10'
      refine AtE.ru 16 ?_
      exact AtE.ret Tryz.func177 (by kernel_rfl) H
  ·replace H := H.2 h7'
   refine LookAll.cons (fun h13' => ?_) (fun h13' => ?_)
   ·replace H := H.1 h13'
    refine AtE.norm (k' := [.inRegion (regOps [.code (sub (Eng.body Tryz.f177) [1,0])]) [4,5,6,7,8,9], .code (sub (Eng.body Tryz.f177) [1,1])]) (e' := [(2, .pointer (some ⟨B, 0, none⟩)), (11, .tuple #[.agg #[.func (.func 196) #[] #[], .bool true, .func (.func 201) #[] #[]], .bool true])]) (L' := (followsH5 B bi bk bt bs br bu bp bl bc ba bd)) ?_ (by kernel_rfl)
    refine AtE.ru 3 ?_
    refine AtE.new (fun B => .pointer (some ⟨B, 0, none⟩)) (.cells #[.nilFunc, .bool false, .nilFunc] 243) (fun W => by kernel_rfl) (by kernel_rfl) (fun B3 => ?_)
    replace H := H B3
    refine AtE.store 1 0 (T := 243) (v := .agg #[.func (.func 196) #[] #[], .bool true, .func (.func 201) #[] #[]]) (by kernel_rfl) ?_
    refine AtE.ru 9 ?_
    refine AtE.load 0 0 (T := 3) (v := .int .i64 bi) (by kernel_rfl) ?_
    refine AtE.ru 3 ?_
    refine AtE.splitP 21 (p := bi < (1 : Int)) (by kernel_rfl) (fun h14' => ?_) (fun h14' => ?_)
    ·replace H := H.1 h14'
     refine AtE.ru 24 ?_
     exact AtE.ret Tryz.func177 (by kernel_rfl) H
    ·replace H := H.2 h14'
     refine AtE.ru 1 ?_
     refine AtE.load 0 0 (T := 3) (v := .int .i64 bi) (by kernel_rfl) ?_
     refine AtE.ru 3 ?_
     refine AtE.splitP 26 (p := (1000 : Int) < bi) (by kernel_rfl) (fun h15' => ?_) (fun h15' => ?_)
     ·replace H := H.1 h15'
      refine AtE.ru 19 ?_
      exact AtE.ret Tryz.func177 (by kernel_rfl) H
     ·replace H := H.2 h15'
      refine AtE.ru 1 ?_
      refine AtE.load 0 5 (T := 26) (v := .agg #[.int .i64 bu, .slice bp bl bc, .int .i64 ba, .int .i64 bd]) (by kernel_rfl) ?_
      refine AtE.norm (k' := [.inRegion (regOps [.code (sub (Eng.body Tryz.f177) [1,1,0,0])]) [15,16,17,18,19,20,21,22,23,24,25], .code (sub (Eng.body Tryz.f177) [1,1,0,1]), .code (sub (Eng.body Tryz.f177) [1,1,1])]) (e' := [(2, .pointer (some ⟨B, 0, none⟩)), (5, .pointer (some ⟨B3, 0, none⟩)), (26, .bool false), (28, .agg #[.int .i64 bu, .slice bp bl bc, .int .i64 ba, .int .i64 bd])]) (L' := (followsH0 B bi bk bt bs br bu bp bl bc ba bd B3)) ?_ (by kernel_rfl)
      refine AtE.call 102 ⟨[.agg #[.int .i64 bu, .slice bp bl bc, .int .i64 ba, .int .i64 bd]]⟩ (fun W => by kernel_rfl) (by kernel_rfl) H ?_
      clear H
      rintro _ _ ⟨r51, rfl, rfl, H⟩
      refine AtE.split 29 (b := r51) (by kernel_rfl) (fun h16' => ?_) (fun h16' => ?_)
      ·replace H := H.1 h16'
       refine AtE.ru 4 ?_
       refine AtE.load 1 0 (T := 38) (v := .func (.func 196) #[] #[]) (by kernel_rfl) ?_
       refine AtE.ru 1 ?_
       refine AtE.load 0 2 (T := 9) (v := .string bt) (by kernel_rfl) ?_
       refine AtE.call 196 ⟨[.string bt]⟩ (fun W => by kernel_rfl) (by kernel_rfl) H ?_
       clear H
       rintro _ _ ⟨r61, rfl, rfl, H⟩
       refine AtE.split 37 (b := r61) (by kernel_rfl) (fun h17' => ?_) (fun h17' => ?_)
       ·replace H := H.1 h17'
        refine AtE.ru 9 ?_
        refine AtE.load 1 1 (T := 4) (v := .bool true) (by kernel_rfl) ?_
        refine AtE.norm (k' := [.inRegion (regOps [.code (sub (Eng.body Tryz.f177) [1,1,1,0,0])]) [2], .code (sub (Eng.body Tryz.f177) [1,1,1,0,1]), .code (sub (Eng.body Tryz.f177) [1,1,1,1])]) (e' := [(2, .pointer (some ⟨B, 0, none⟩)), (41, .bool true)]) (L' := (followsH0 B bi bk bt bs br bu bp bl bc ba bd B3)) ?_ (by kernel_rfl)
        refine AtE.ru 7 ?_
        refine AtE.load 0 3 (T := 3) (v := .int .i64 bs) (by kernel_rfl) ?_
        refine AtE.ru 2 ?_
        refine AtE.splitP 54 (p := (1 : Int) ≤ bs) (by kernel_rfl) (fun h18' => ?_) (fun h18' => ?_)
        ·replace H := H.1 h18'
         refine AtE.ru 1 ?_
         refine AtE.load 0 3 (T := 3) (v := .int .i64 bs) (by kernel_rfl) ?_
         refine AtE.ru 3 ?_
         refine AtE.splitP 59 (p := bs ≤ (64 : Int)) (by kernel_rfl) (fun h19' => ?_) (fun h19' => ?_)
         ·replace H := H.1 h19'
          refine AtE.ru 1 ?_
          refine AtE.load 0 4 (T := 3) (v := .int .i64 br) (by kernel_rfl) ?_
          refine AtE.ru 3 ?_
          refine AtE.splitP 64 (p := (1 : Int) ≤ br) (by kernel_rfl) (fun h20' => ?_) (fun h20' => ?_)
          ·replace H := H.1 h20'
           refine AtE.ru 1 ?_
           refine AtE.load 0 4 (T := 3) (v := .int .i64 br) (by kernel_rfl) ?_
           refine AtE.norm (k' := [.inRegion (regOps [.code (sub (Eng.body Tryz.f177) [1,1,1,1,0])]) [16,17,18], .code (sub (Eng.body Tryz.f177) [1,1,1,1,1])]) (e' := [(64, .bool true), (66, .int .i64 br)]) (L' := (followsH0 B bi bk bt bs br bu bp bl bc ba bd B3)) ?_ (by kernel_rfl)
           refine AtE.ru 4 ?_
           exact AtE.ret Tryz.func177 (by kernel_rfl) H
          ·replace H := H.2 h20'
           refine AtE.ru 6 ?_
           exact AtE.ret Tryz.func177 (by kernel_rfl) H
         ·replace H := H.2 h19'
          refine AtE.ru 11 ?_
          exact AtE.ret Tryz.func177 (by kernel_rfl) H
        ·replace H := H.2 h18'
         refine AtE.ru 16 ?_
         exact AtE.ret Tryz.func177 (by kernel_rfl) H
       ·replace H := H.2 h17'
        refine AtE.ru 8 ?_
        exact AtE.ret Tryz.func177 (by kernel_rfl) H
      ·replace H := H.2 h16'
       refine AtE.ru 16 ?_
       exact AtE.ret Tryz.func177 (by kernel_rfl) H
   ·replace H := H.2 h13'
    refine LookAll.cons (fun h21' => ?_) (fun h21' => ?_)
    ·replace H := H.1 h21'
     refine AtE.norm (k' := [.inRegion (regOps [.code (sub (Eng.body Tryz.f177) [1,0])]) [4,5,6,7,8,9], .code (sub (Eng.body Tryz.f177) [1,1])]) (e' := [(2, .pointer (some ⟨B, 0, none⟩)), (11, .tuple #[.agg #[.func (.func 195) #[] #[], .bool false, .func (.func 202) #[] #[]], .bool true])]) (L' := (followsH5 B bi bk bt bs br bu bp bl bc ba bd)) ?_ (by kernel_rfl)
     refine AtE.ru 3 ?_
     refine AtE.new (fun B => .pointer (some ⟨B, 0, none⟩)) (.cells #[.nilFunc, .bool false, .nilFunc] 243) (fun W => by kernel_rfl) (by kernel_rfl) (fun B4 => ?_)
     replace H := H B4
     refine AtE.store 1 0 (T := 243) (v := .agg #[.func (.func 195) #[] #[], .bool false, .func (.func 202) #[] #[]]) (by kernel_rfl) ?_
     refine AtE.ru 9 ?_
     refine AtE.load 0 0 (T := 3) (v := .int .i64 bi) (by kernel_rfl) ?_
     refine AtE.ru 3 ?_
     refine AtE.splitP 21 (p := bi < (1 : Int)) (by kernel_rfl) (fun h22' => ?_) (fun h22' => ?_)
     ·replace H := H.1 h22'
      refine AtE.ru 24 ?_
      exact AtE.ret Tryz.func177 (by kernel_rfl) H
     ·replace H := H.2 h22'
      refine AtE.ru 1 ?_
      refine AtE.load 0 0 (T := 3) (v := .int .i64 bi) (by kernel_rfl) ?_
      refine AtE.ru 3 ?_
      refine AtE.splitP 26 (p := (1000 : Int) < bi) (by kernel_rfl) (fun h23' => ?_) (fun h23' => ?_)
      ·replace H := H.1 h23'
       refine AtE.ru 19 ?_
       exact AtE.ret Tryz.func177 (by kernel_rfl) H
      ·replace H := H.2 h23'
       refine AtE.ru 1 ?_
       refine AtE.load 0 5 (T := 26) (v := .agg #[.int .i64 bu, .slice bp bl bc, .int .i64 ba, .int .i64 bd]) (by kernel_rfl) ?_
       refine AtE.norm (k' := [.inRegion (regOps [.code (sub (Eng.body Tryz.f177) [1,1,0,0])]) [15,16,17,18,19,20,21,22,23,24,25], .code (sub (Eng.body Tryz.f177) [1,1,0,1]), .code (sub (Eng.body Tryz.f177) [1,1,1])]) (e' := [(2, .pointer (some ⟨B, 0, none⟩)), (5, .pointer (some ⟨B4, 0, none⟩)), (26, .bool false), (28, .agg #[.int .i64 bu, .slice bp bl bc, .int .i64 ba, .int .i64 bd])]) (L' := (followsH3 B bi bk bt bs br bu bp bl bc ba bd B4)) ?_ (by kernel_rfl)
       refine AtE.call 102 ⟨[.agg #[.int .i64 bu, .slice bp bl bc, .int .i64 ba, .int .i64 bd]]⟩ (fun W => by kernel_rfl) (by kernel_rfl) H ?_
       clear H
       rintro _ _ ⟨r71, rfl, rfl, H⟩
       refine AtE.split 29 (b := r71) (by kernel_rfl) (fun h24' => ?_) (fun h24' => ?_)
       ·replace H := H.1 h24'
        refine AtE.ru 4 ?_
        refine AtE.load 1 0 (T := 38) (v := .func (.func 195) #[] #[]) (by kernel_rfl) ?_
        refine AtE.ru 1 ?_
        refine AtE.load 0 2 (T := 9) (v := .string bt) (by kernel_rfl) ?_
        refine AtE.call 195 ⟨[.string bt]⟩ (fun W => by kernel_rfl) (by kernel_rfl) H ?_
        clear H
        rintro _ _ ⟨r81, rfl, rfl, H⟩
        refine AtE.split 37 (b := r81) (by kernel_rfl) (fun h25' => ?_) (fun h25' => ?_)
        ·replace H := H.1 h25'
         refine AtE.ru 9 ?_
         refine AtE.load 1 1 (T := 4) (v := .bool false) (by kernel_rfl) ?_
         refine AtE.norm (k' := [.inRegion (regOps [.code (sub (Eng.body Tryz.f177) [1,1,1,0,0])]) [2], .code (sub (Eng.body Tryz.f177) [1,1,1,0,1]), .code (sub (Eng.body Tryz.f177) [1,1,1,1])]) (e' := [(2, .pointer (some ⟨B, 0, none⟩)), (41, .bool false)]) (L' := (followsH3 B bi bk bt bs br bu bp bl bc ba bd B4)) ?_ (by kernel_rfl)
         refine AtE.ru 6 ?_
         refine AtE.load 0 3 (T := 3) (v := .int .i64 bs) (by kernel_rfl) ?_
         refine AtE.ru 2 ?_
         refine AtE.splitP 46 (p := bs = (0 : Int)) (by kernel_rfl) (fun h26' => ?_) (fun h26' => ?_)
         ·replace H := H.1 h26'
          refine AtE.ru 1 ?_
          refine AtE.load 0 4 (T := 3) (v := .int .i64 br) (by kernel_rfl) ?_
          refine AtE.ru 4 ?_
          exact AtE.ret Tryz.func177 (by kernel_rfl) H
         ·replace H := H.2 h26'
          refine AtE.ru 6 ?_
          exact AtE.ret Tryz.func177 (by kernel_rfl) H
        ·replace H := H.2 h25'
         refine AtE.ru 8 ?_
         exact AtE.ret Tryz.func177 (by kernel_rfl) H
       ·replace H := H.2 h24'
        refine AtE.ru 16 ?_
        exact AtE.ret Tryz.func177 (by kernel_rfl) H
    ·replace H := H.2 h21'
     refine LookAll.cons (fun h27' => ?_) (fun h27' => ?_)
     ·replace H := H.1 h27'
      refine AtE.norm (k' := [.inRegion (regOps [.code (sub (Eng.body Tryz.f177) [1,0])]) [4,5,6,7,8,9], .code (sub (Eng.body Tryz.f177) [1,1])]) (e' := [(2, .pointer (some ⟨B, 0, none⟩)), (11, .tuple #[.agg #[.func (.func 203) #[] #[], .bool false, .func (.func 204) #[] #[]], .bool true])]) (L' := (followsH5 B bi bk bt bs br bu bp bl bc ba bd)) ?_ (by kernel_rfl)
      refine AtE.ru 3 ?_
      refine AtE.new (fun B => .pointer (some ⟨B, 0, none⟩)) (.cells #[.nilFunc, .bool false, .nilFunc] 243) (fun W => by kernel_rfl) (by kernel_rfl) (fun B5 => ?_)
      replace H := H B5
      refine AtE.store 1 0 (T := 243) (v := .agg #[.func (.func 203) #[] #[], .bool false, .func (.func 204) #[] #[]]) (by kernel_rfl) ?_
      refine AtE.ru 9 ?_
      refine AtE.load 0 0 (T := 3) (v := .int .i64 bi) (by kernel_rfl) ?_
      refine AtE.ru 3 ?_
      refine AtE.splitP 21 (p := bi < (1 : Int)) (by kernel_rfl) (fun h28' => ?_) (fun h28' => ?_)
      ·replace H := H.1 h28'
       refine AtE.ru 24 ?_
       exact AtE.ret Tryz.func177 (by kernel_rfl) H
      ·replace H := H.2 h28'
       refine AtE.ru 1 ?_
       refine AtE.load 0 0 (T := 3) (v := .int .i64 bi) (by kernel_rfl) ?_
       refine AtE.ru 3 ?_
       refine AtE.splitP 26 (p := (1000 : Int) < bi) (by kernel_rfl) (fun h29' => ?_) (fun h29' => ?_)
       ·replace H := H.1 h29'
        refine AtE.ru 19 ?_
        exact AtE.ret Tryz.func177 (by kernel_rfl) H
       ·replace H := H.2 h29'
        refine AtE.ru 1 ?_
        refine AtE.load 0 5 (T := 26) (v := .agg #[.int .i64 bu, .slice bp bl bc, .int .i64 ba, .int .i64 bd]) (by kernel_rfl) ?_
        refine AtE.norm (k' := [.inRegion (regOps [.code (sub (Eng.body Tryz.f177) [1,1,0,0])]) [15,16,17,18,19,20,21,22,23,24,25], .code (sub (Eng.body Tryz.f177) [1,1,0,1]), .code (sub (Eng.body Tryz.f177) [1,1,1])]) (e' := [(2, .pointer (some ⟨B, 0, none⟩)), (5, .pointer (some ⟨B5, 0, none⟩)), (26, .bool false), (28, .agg #[.int .i64 bu, .slice bp bl bc, .int .i64 ba, .int .i64 bd])]) (L' := (followsH4 B bi bk bt bs br bu bp bl bc ba bd B5)) ?_ (by kernel_rfl)
        refine AtE.call 102 ⟨[.agg #[.int .i64 bu, .slice bp bl bc, .int .i64 ba, .int .i64 bd]]⟩ (fun W => by kernel_rfl) (by kernel_rfl) H ?_
        clear H
        rintro _ _ ⟨r91, rfl, rfl, H⟩
        refine AtE.split 29 (b := r91) (by kernel_rfl) (fun h30' => ?_) (fun h30' => ?_)
        ·replace H := H.1 h30'
         refine AtE.ru 4 ?_
         refine AtE.load 1 0 (T := 38) (v := .func (.func 203) #[] #[]) (by kernel_rfl) ?_
         refine AtE.ru 1 ?_
         refine AtE.load 0 2 (T := 9) (v := .string bt) (by kernel_rfl) ?_
         refine AtE.call 203 ⟨[.string bt]⟩ (fun W => by kernel_rfl) (by kernel_rfl) H ?_
         clear H
         rintro _ _ ⟨r101, rfl, rfl, H⟩
         refine AtE.split 37 (b := r101) (by kernel_rfl) (fun h31' => ?_) (fun h31' => ?_)
         ·replace H := H.1 h31'
          refine AtE.ru 9 ?_
          refine AtE.load 1 1 (T := 4) (v := .bool false) (by kernel_rfl) ?_
          refine AtE.norm (k' := [.inRegion (regOps [.code (sub (Eng.body Tryz.f177) [1,1,1,0,0])]) [2], .code (sub (Eng.body Tryz.f177) [1,1,1,0,1]), .code (sub (Eng.body Tryz.f177) [1,1,1,1])]) (e' := [(2, .pointer (some ⟨B, 0, none⟩)), (41, .bool false)]) (L' := (followsH4 B bi bk bt bs br bu bp bl bc ba bd B5)) ?_ (by kernel_rfl)
          refine AtE.ru 6 ?_
          refine AtE.load 0 3 (T := 3) (v := .int .i64 bs) (by kernel_rfl) ?_
          refine AtE.ru 2 ?_
          refine AtE.splitP 46 (p := bs = (0 : Int)) (by kernel_rfl) (fun h32' => ?_) (fun h32' => ?_)
          ·replace H := H.1 h32'
           refine AtE.ru 1 ?_
           refine AtE.load 0 4 (T := 3) (v := .int .i64 br) (by kernel_rfl) ?_
           refine AtE.ru 4 ?_
           exact AtE.ret Tryz.func177 (by kernel_rfl) H
          ·replace H := H.2 h32'
           refine AtE.ru 6 ?_
           exact AtE.ret Tryz.func177 (by kernel_rfl) H
         ·replace H := H.2 h31'
          refine AtE.ru 8 ?_
          exact AtE.ret Tryz.func177 (by kernel_rfl) H
        ·replace H := H.2 h30'
         refine AtE.ru 16 ?_
         exact AtE.ret Tryz.func177 (by kernel_rfl) H
     ·replace H := H.2 h27'
      refine AtE.norm (k' := [.inRegion (regOps [.code (sub (Eng.body Tryz.f177) [1,0])]) [4,5,6,7,8,9], .code (sub (Eng.body Tryz.f177) [1,1])]) (e' := [(2, .pointer (some ⟨B, 0, none⟩)), (11, .tuple #[.agg #[.nilFunc, .bool false, .nilFunc], .bool false])]) (L' := (followsH5 B bi bk bt bs br bu bp bl bc ba bd)) ?_ (by kernel_rfl)
      refine AtE.ru 3 ?_
      refine AtE.new (fun B => .pointer (some ⟨B, 0, none⟩)) (.cells #[.nilFunc, .bool false, .nilFunc] 243) (fun W => by kernel_rfl) (by kernel_rfl) (fun B6 => ?_)
      replace H := H B6
      refine AtE.store 1 0 (T := 243) (v := .agg #[.nilFunc, .bool false, .nilFunc]) (by kernel_rfl) ?_
      refine AtE.ru 37 ?_
      exact AtE.ret Tryz.func177 (by kernel_rfl) H
end Go.Eng
namespace Go.Eng
open Go Go.RowKit Go.Proofs
set_option linter.unusedVariables false
set_option maxRecDepth 100000
abbrev validLA0 (m_0 : Int) (m_1 : Int) (m_2 : ByteArray) (m_3 : Int) (m_4 : Int) (m_5 : Int) (m_6_p : Option Addr) (m_6_l : Nat) (m_6_c : Nat) (m_7 : Int) (m_8 : Int) : Array Value := #[.int .i64 m_0, .int .i64 m_1, .string m_2, .int .i64 m_3, .int .i64 m_4, .int .i64 m_5, .slice m_6_p m_6_l m_6_c, .int .i64 m_7, .int .i64 m_8]
def validL_c0 (B : Nat) (l1_p : Option Addr) (l1_l : Nat) (l1_c : Nat) (t12_p : Option Addr) (t12_l : Nat) (t12_c : Nat) (t13 : Int) (t14 : Int) (w0 : World) (R : Ending → World → Prop) : Prop :=
 AtE Tryz.prog 148 38 [.code (sub (Eng.body Tryz.f148) [1,1,1,0,1,0,0]), .inLoop (sub (Eng.body Tryz.f148) [1,1,1,0,1,0,0]), .inBlock 0, .code (sub (Eng.body Tryz.f148) [1,1,1,1])] [(0, .slice l1_p l1_l l1_c), (3, .map (some B)), (12, .slice t12_p t12_l t12_c), (13, .int .i64 t13), (14, .int .i64 t14)] [(B, .map #[{ key := .int .i64 (1 : Int), val := .agg #[.func (.func 195) #[] #[], .bool false, .func (.func 197) #[] #[]], born := 0 }, { key := .int .i64 (2 : Int), val := .agg #[.func (.func 195) #[] #[], .bool false, .func (.func 198) #[] #[]], born := 1 }, { key := .int .i64 (3 : Int), val := .agg #[.func (.func 196) #[] #[], .bool true, .func (.func 201) #[] #[]], born := 2 }, { key := .int .i64 (4 : Int), val := .agg #[.func (.func 195) #[] #[], .bool false, .func (.func 202) #[] #[]], born := 3 }, { key := .int .i64 (5 : Int), val := .agg #[.func (.func 203) #[] #[], .bool false, .func (.func 204) #[] #[]], born := 4 }] 5)] [] w0 (nrm R)
def validL_c1 (B2 : Nat) (B3 : Nat) (l2_p : Option Addr) (l2_l : Nat) (l2_c : Nat) (t121_p : Option Addr) (t121_l : Nat) (t121_c : Nat) (t131 : Int) (t141 : Int) (t25_p : Option Addr) (t25_l : Nat) (t25_c : Nat) (t26 : Int) (t27 : Int) (m0 : Int) (m1 : Int) (m2 : ByteArray) (m3 : Int) (m4 : Int) (m5 : Int) (m6_p : Option Addr) (m6_l : Nat) (m6_c : Nat) (m7 : Int) (m8 : Int) (w0 : World) (R : Ending → World → Prop) : Prop :=
 AtE Tryz.prog 148 38 [.code (sub (Eng.body Tryz.f148) [1,1,1,0,1,0,0,1,1,0,0,1,1,1,0,0]), .inLoop (sub (Eng.body Tryz.f148) [1,1,1,0,1,0,0,1,1,0,0,1,1,1,0,0]), .inBlock 2, .inBlock 1, .code (sub (Eng.body Tryz.f148) [1,1,1,0,1,0,0,1,1,1]), .inLoop (sub (Eng.body Tryz.f148) [1,1,1,0,1,0,0]), .inBlock 0, .code (sub (Eng.body Tryz.f148) [1,1,1,1])] [(0, .slice l2_p l2_l l2_c), (3, .map (some B2)), (5, .pointer (some ⟨B3, 0, none⟩)), (12, .slice t121_p t121_l t121_c), (13, .int .i64 t131), (14, .int .i64 t141), (25, .slice t25_p t25_l t25_c), (26, .int .i64 t26), (27, .int .i64 t27)] [(B2, .map #[{ key := .int .i64 (1 : Int), val := .agg #[.func (.func 195) #[] #[], .bool false, .func (.func 197) #[] #[]], born := 0 }, { key := .int .i64 (2 : Int), val := .agg #[.func (.func 195) #[] #[], .bool false, .func (.func 198) #[] #[]], born := 1 }, { key := .int .i64 (3 : Int), val := .agg #[.func (.func 196) #[] #[], .bool true, .func (.func 201) #[] #[]], born := 2 }, { key := .int .i64 (4 : Int), val := .agg #[.func (.func 195) #[] #[], .bool false, .func (.func 202) #[] #[]], born := 3 }, { key := .int .i64 (5 : Int), val := .agg #[.func (.func 203) #[] #[], .bool false, .func (.func 204) #[] #[]], born := 4 }] 5), (B3, .cells #[.int .i64 m0, .int .i64 m1, .string m2, .int .i64 m3, .int .i64 m4, .int .i64 m5, .slice m6_p m6_l m6_c, .int .i64 m7, .int .i64 m8] 89)] [] w0 (nrm R)
theorem validL_c0_vc (B : Nat) (l1_p : Option Addr) (l1_l : Nat) (l1_c : Nat) (t12_p : Option Addr) (t12_l : Nat) (t12_c : Nat) (t13 : Int) (t14 : Int) {R : Ending → World → Prop} {w0 : World}
  (H :
   ((t14 < t13) →
    ∃ t12_pb t12_po : Nat, t12_p = some ⟨t12_pb, t12_po, none⟩ ∧
    (0 ≤ t14 ∧ t14 < t12_l) ∧
    ∃ (cw : List Value) (m_0 : Int) (m_1 : Int) (m_2 : ByteArray) (m_3 : Int) (m_4 : Int) (m_5 : Int) (m_6_p : Option Addr) (m_6_l : Nat) (m_6_c : Nat) (m_7 : Int) (m_8 : Int), blkW w0 t12_pb = some cw ∧ ((cw.drop (t12_po + ((Int.toNat t14) * 9))).take 9 = [.int .i64 m_0, .int .i64 m_1, .string m_2, .int .i64 m_3, .int .i64 m_4, .int .i64 m_5, .slice m_6_p m_6_l m_6_c, .int .i64 m_7, .int .i64 m_8] ∧ (t12_po + ((Int.toNat t14) * 9)) + 9 ≤ cw.length) ∧
    ∀ B1 : Nat,
    CallH Tryz.prog 177 ⟨[.agg (validLA0 m_0 m_1 m_2 m_3 m_4 m_5 m_6_p m_6_l m_6_c m_7 m_8), .map (some B)]⟩ [(B, .map #[{ key := .int .i64 (1 : Int), val := .agg #[.func (.func 195) #[] #[], .bool false, .func (.func 197) #[] #[]], born := 0 }, { key := .int .i64 (2 : Int), val := .agg #[.func (.func 195) #[] #[], .bool false, .func (.func 198) #[] #[]], born := 1 }, { key := .int .i64 (3 : Int), val := .agg #[.func (.func 196) #[] #[], .bool true, .func (.func 201) #[] #[]], born := 2 }, { key := .int .i64 (4 : Int), val := .agg #[.func (.func 195) #[] #[], .bool false, .func (.func 202) #[] #[]], born := 3 }, { key := .int .i64 (5 : Int), val := .agg #[.func (.func 203) #[] #[], .bool false, .func (.func 204) #[] #[]], born := 4 }] 5), (B1, .cells (validLA0 m_0 m_1 m_2 m_3 m_4 m_5 m_6_p m_6_l m_6_c m_7 m_8) 89)] [] w0 (fun v L' => ∃ (r21 : Bool), v = (.bool r21) ∧ L' = [(B, .map #[{ key := .int .i64 (1 : Int), val := .agg #[.func (.func 195) #[] #[], .bool false, .func (.func 197) #[] #[]], born := 0 }, { key := .int .i64 (2 : Int), val := .agg #[.func (.func 195) #[] #[], .bool false, .func (.func 198) #[] #[]], born := 1 }, { key := .int .i64 (3 : Int), val := .agg #[.func (.func 196) #[] #[], .bool true, .func (.func 201) #[] #[]], born := 2 }, { key := .int .i64 (4 : Int), val := .agg #[.func (.func 195) #[] #[], .bool false, .func (.func 202) #[] #[]], born := 3 }, { key := .int .i64 (5 : Int), val := .agg #[.func (.func 203) #[] #[], .bool false, .func (.func 204) #[] #[]], born := 4 }] 5), (B1, .cells (validLA0 m_0 m_1 m_2 m_3 m_4 m_5 m_6_p m_6_l m_6_c m_7 m_8) 89)] ∧
     ((r21 = true) →
      (0 ≤ t14 ∧ t14 ≤ (l1_c : Int)) ∧
      validL_c1 B B1 l1_p l1_l l1_c (some ⟨t12_pb, t12_po, none⟩) t12_l t12_c t13 t14 l1_p (Int.toNat t14) l1_c ((Int.toNat t14) : Int) (0 : Int) m_0 m_1 m_2 m_3 m_4 m_5 m_6_p m_6_l m_6_c m_7 m_8 w0 R) ∧
      ((r21 = false) →
      Fin R [(B, .map #[{ key := .int .i64 (1 : Int), val := .agg #[.func (.func 195) #[] #[], .bool false, .func (.func 197) #[] #[]], born := 0 }, { key := .int .i64 (2 : Int), val := .agg #[.func (.func 195) #[] #[], .bool false, .func (.func 198) #[] #[]], born := 1 }, { key := .int .i64 (3 : Int), val := .agg #[.func (.func 196) #[] #[], .bool true, .func (.func 201) #[] #[]], born := 2 }, { key := .int .i64 (4 : Int), val := .agg #[.func (.func 195) #[] #[], .bool false, .func (.func 202) #[] #[]], born := 3 }, { key := .int .i64 (5 : Int), val := .agg #[.func (.func 203) #[] #[], .bool false, .func (.func 204) #[] #[]], born := 4 }] 5), (B1, .cells (validLA0 m_0 m_1 m_2 m_3 m_4 m_5 m_6_p m_6_l m_6_c m_7 m_8) 89)] [] w0 (.bool false)))) ∧
    ((¬ (t14 < t13)) →
    Fin R [(B, .map #[{ key := .int .i64 (1 : Int), val := .agg #[.func (.func 195) #[] #[], .bool false, .func (.func 197) #[] #[]], born := 0 }, { key := .int .i64 (2 : Int), val := .agg #[.func (.func 195) #[] #[], .bool false, .func (.func 198) #[] #[]], born := 1 }, { key := .int .i64 (3 : Int), val := .agg #[.func (.func 196) #[] #[], .bool true, .func (.func 201) #[] #[]], born := 2 }, { key := .int .i64 (4 : Int), val := .agg #[.func (.func 195) #[] #[], .bool false, .func (.func 202) #[] #[]], born := 3 }, { key := .int .i64 (5 : Int), val := .agg #[.func (.func 203) #[] #[], .bool false, .func (.func 204) #[] #[]], born := 4 }] 5)] [] w0 (.bool true))) :
  validL_c0 B l1_p l1_l l1_c t12_p t12_l t12_c t13 t14 w0 R := by
 unfold validL_c0
 refine AtE.ru 5 ?_
 refine AtE.splitP 15 (p := t14 < t13) (by kernel_rfl) (fun h2' => ?_) (fun h2' => ?_)
 ·replace H := H.1 h2'
  refine AtE.ru 7 ?_
  obtain ⟨t12_pb, t12_po, rfl, H⟩ := H
  refine AtE.indexAddrL (E := 89) (b := t12_pb) (o := t12_po) (len := t12_l) (cap := t12_c) (sz := 9) (o' := (t12_po + ((Int.toNat t14) * 9))) (kd := .i64) (i := t14) (by kernel_rfl) H.1 (by omega) ?_
  replace H := H.2
  obtain ⟨cw, m_0, m_1, m_2, m_3, m_4, m_5, m_6_p, m_6_l, m_6_c, m_7, m_8, hw, hx, H⟩ := H
  refine AtE.loadW (b := t12_pb) (off := (t12_po + ((Int.toNat t14) * 9))) (T := 89) (v := .agg (validLA0 m_0 m_1 m_2 m_3 m_4 m_5 m_6_p m_6_l m_6_c m_7 m_8)) (by kernel_rfl) List.not_mem_nil hw (valAt_agg hx.1 hx.2 (by kernel_rfl) (by kernel_rfl)) ?_
  refine AtE.new (fun B => .pointer (some ⟨B, 0, none⟩)) (.cells #[.int .i64 (0 : Int), .int .i64 (0 : Int), .string (⟨#[]⟩), .int .i64 (0 : Int), .int .i64 (0 : Int), .int .i64 (0 : Int), .slice none 0 0, .int .i64 (0 : Int), .int .i64 (0 : Int)] 89) (fun W => by kernel_rfl) (by kernel_rfl) (fun B1 => ?_)
  replace H := H B1
  refine AtE.ru 1 ?_
  refine AtE.store 1 0 (T := 89) (v := .agg (validLA0 m_0 m_1 m_2 m_3 m_4 m_5 m_6_p m_6_l m_6_c m_7 m_8)) (by kernel_rfl) ?_
  refine AtE.ru 4 ?_
  refine AtE.load 1 0 (T := 89) (v := .agg (validLA0 m_0 m_1 m_2 m_3 m_4 m_5 m_6_p m_6_l m_6_c m_7 m_8)) (by kernel_rfl) ?_
  refine AtE.norm (k' := [.inRegion (regOps [.code (sub (Eng.body Tryz.f148) [1,1,1,0,1,0,0,1,1,0,0,1,0,0])]) [1,2,3], .code (sub (Eng.body Tryz.f148) [1,1,1,0,1,0,0,1,1,0,0,1,0,1]), .code (sub (Eng.body Tryz.f148) [1,1,1,0,1,0,0,1,1,0,0,1,1]), .inBlock 1, .code (sub (Eng.body Tryz.f148) [1,1,1,0,1,0,0,1,1,1]), .inLoop (sub (Eng.body Tryz.f148) [1,1,1,0,1,0,0]), .inBlock 0, .code (sub (Eng.body Tryz.f148) [1,1,1,1])]) (e' := [(0, .slice l1_p l1_l l1_c), (3, .map (some B)), (4, .int .i64 t14), (5, .pointer (some ⟨B1, 0, none⟩)), (12, .slice (some ⟨t12_pb, t12_po, none⟩) t12_l t12_c), (13, .int .i64 t13), (14, .int .i64 t14), (19, .agg (validLA0 m_0 m_1 m_2 m_3 m_4 m_5 m_6_p m_6_l m_6_c m_7 m_8))]) (L' := [(B, .map #[{ key := .int .i64 (1 : Int), val := .agg #[.func (.func 195) #[] #[], .bool false, .func (.func 197) #[] #[]], born := 0 }, { key := .int .i64 (2 : Int), val := .agg #[.func (.func 195) #[] #[], .bool false, .func (.func 198) #[] #[]], born := 1 }, { key := .int .i64 (3 : Int), val := .agg #[.func (.func 196) #[] #[], .bool true, .func (.func 201) #[] #[]], born := 2 }, { key := .int .i64 (4 : Int), val := .agg #[.func (.func 195) #[] #[], .bool false, .func (.func 202) #[] #[]], born := 3 }, { key := .int .i64 (5 : Int), val := .agg #[.func (.func 203) #[] #[], .bool false, .func (.func 204) #[] #[]], born := 4 }] 5), (B1, .cells (validLA0 m_0 m_1 m_2 m_3 m_4 m_5 m_6_p m_6_l m_6_c m_7 m_8) 89)]) ?_ (by kernel_rfl)
  refine AtE.ru 1 ?_
  refine AtE.call 177 ⟨[.agg (validLA0 m_0 m_1 m_2 m_3 m_4 m_5 m_6_p m_6_l m_6_c m_7 m_8), .map (some B)]⟩ (fun W => by kernel_rfl) (by kernel_rfl) H ?_
  clear H
  rintro _ _ ⟨r21, rfl, rfl, H⟩
  refine AtE.split 21 (b := r21) (by kernel_rfl) (fun h3' => ?_) (fun h3' => ?_)
  ·replace H := H.1 h3'
   refine AtE.ru 8 ?_
   refine AtE.sliceU (E := 89) (p := l1_p) (len := l1_l) (cap := l1_c) (sz := 9) (lo := none) (hi := some (.int .i64 t14)) (y := t14) (by kernel_rfl) (.inr rfl) (.inl ⟨.i64, rfl⟩) H.1 ?_
   replace H := H.2
   refine AtE.ru 5 ?_
   exact AtE.cut [0,1] H (by kernel_rfl)
  ·replace H := H.2 h3'
   refine AtE.ru 7 ?_
   exact AtE.ret Tryz.func148 (by kernel_rfl) H
 ·replace H := H.2 h2'
  refine AtE.ru 6 ?_
  exact AtE.ret Tryz.func148 (by kernel_rfl) H
theorem validL_c1_vc (B2 : Nat) (B3 : Nat) (l2_p : Option Addr) (l2_l : Nat) (l2_c : Nat) (t121_p : Option Addr) (t121_l : Nat) (t121_c : Nat) (t131 : Int) (t141 : Int) (t25_p : Option Addr) (t25_l : Nat) (t25_c : Nat) (t26 : Int) (t27 : Int) (m0 : Int) (m1 : Int) (m2 : ByteArray) (m3 : Int) (m4 : Int) (m5 : Int) (m6_p : Option Addr) (m6_l : Nat) (m6_c : Nat) (m7 : Int) (m8 : Int) {R : Ending → World → Prop} {w0 : World}
  (H :
   ((t27 < t26) →
    ∃ t25_pb t25_po : Nat, t25_p = some ⟨t25_pb, t25_po, none⟩ ∧
    (0 ≤ t27 ∧ t27 < t25_l) ∧
    ∃ (cw1 : List Value) (m9_0 : Int) (m9_1 : Int) (m9_2 : ByteArray) (m9_3 : Int) (m9_4 : Int) (m9_5 : Int) (m9_6_p : Option Addr) (m9_6_l : Nat) (m9_6_c : Nat) (m9_7 : Int) (m9_8 : Int), blkW w0 t25_pb = some cw1 ∧ ((cw1.drop (t25_po + ((Int.toNat t27) * 9))).take 9 = [.int .i64 m9_0, .int .i64 m9_1, .string m9_2, .int .i64 m9_3, .int .i64 m9_4, .int .i64 m9_5, .slice m9_6_p m9_6_l m9_6_c, .int .i64 m9_7, .int .i64 m9_8] ∧ (t25_po + ((Int.toNat t27) * 9)) + 9 ≤ cw1.length) ∧
    ∀ B4 : Nat,
    ((m9_0 = m0) →
     Fin R [(B2, .map #[{ key := .int .i64 (1 : Int), val := .agg #[.func (.func 195) #[] #[], .bool false, .func (.func 197) #[] #[]], born := 0 }, { key := .int .i64 (2 : Int), val := .agg #[.func (.func 195) #[] #[], .bool false, .func (.func 198) #[] #[]], born := 1 }, { key := .int .i64 (3 : Int), val := .agg #[.func (.func 196) #[] #[], .bool true, .func (.func 201) #[] #[]], born := 2 }, { key := .int .i64 (4 : Int), val := .agg #[.func (.func 195) #[] #[], .bool false, .func (.func 202) #[] #[]], born := 3 }, { key := .int .i64 (5 : Int), val := .agg #[.func (.func 203) #[] #[], .bool false, .func (.func 204) #[] #[]], born := 4 }] 5), (B3, .cells #[.int .i64 m0, .int .i64 m1, .string m2, .int .i64 m3, .int .i64 m4, .int .i64 m5, .slice m6_p m6_l m6_c, .int .i64 m7, .int .i64 m8] 89), (B4, .cells #[.int .i64 m9_0, .int .i64 m9_1, .string m9_2, .int .i64 m9_3, .int .i64 m9_4, .int .i64 m9_5, .slice m9_6_p m9_6_l m9_6_c, .int .i64 m9_7, .int .i64 m9_8] 89)] [] w0 (.bool false)) ∧
     ((¬ (m9_0 = m0)) →
     validL_c1 B2 B3 l2_p l2_l l2_c t121_p t121_l t121_c t131 t141 (some ⟨t25_pb, t25_po, none⟩) t25_l t25_c t26 (IntKind.i64.wrap (t27 + (1 : Int))) m0 m1 m2 m3 m4 m5 m6_p m6_l m6_c m7 m8 w0 R)) ∧
    ((¬ (t27 < t26)) →
    validL_c0 B2 l2_p l2_l l2_c t121_p t121_l t121_c t131 (IntKind.i64.wrap (t141 + (1 : Int))) w0 R)) :
  validL_c1 B2 B3 l2_p l2_l l2_c t121_p t121_l t121_c t131 t141 t25_p t25_l t25_c t26 t27 m0 m1 m2 m3 m4 m5 m6_p m6_l m6_c m7 m8 w0 R := by
 unfold validL_c1
 refine AtE.ru 5 ?_
 refine AtE.splitP 28 (p := t27 < t26) (by kernel_rfl) (fun h4' => ?_) (fun h4' => ?_)
 ·replace H := H.1 h4'
  refine AtE.ru 6 ?_
  obtain ⟨t25_pb, t25_po, rfl, H⟩ := H
  refine AtE.indexAddrL (E := 89) (b := t25_pb) (o := t25_po) (len := t25_l) (cap := t25_c) (sz := 9) (o' := (t25_po + ((Int.toNat t27) * 9))) (kd := .i64) (i := t27) (by kernel_rfl) H.1 (by omega) ?_
  replace H := H.2
  obtain ⟨cw1, m9_0, m9_1, m9_2, m9_3, m9_4, m9_5, m9_6_p, m9_6_l, m9_6_c, m9_7, m9_8, hw, hx, H⟩ := H
  refine AtE.loadW (b := t25_pb) (off := (t25_po + ((Int.toNat t27) * 9))) (T := 89) (v := .agg #[.int .i64 m9_0, .int .i64 m9_1, .string m9_2, .int .i64 m9_3, .int .i64 m9_4, .int .i64 m9_5, .slice m9_6_p m9_6_l m9_6_c, .int .i64 m9_7, .int .i64 m9_8]) (by kernel_rfl) List.not_mem_nil hw (valAt_agg hx.1 hx.2 (by kernel_rfl) (by kernel_rfl)) ?_
  refine AtE.new (fun B => .pointer (some ⟨B, 0, none⟩)) (.cells #[.int .i64 (0 : Int), .int .i64 (0 : Int), .string (⟨#[]⟩), .int .i64 (0 : Int), .int .i64 (0 : Int), .int .i64 (0 : Int), .slice none 0 0, .int .i64 (0 : Int), .int .i64 (0 : Int)] 89) (fun W => by kernel_rfl) (by kernel_rfl) (fun B4 => ?_)
  replace H := H B4
  refine AtE.store 2 0 (T := 89) (v := .agg #[.int .i64 m9_0, .int .i64 m9_1, .string m9_2, .int .i64 m9_3, .int .i64 m9_4, .int .i64 m9_5, .slice m9_6_p m9_6_l m9_6_c, .int .i64 m9_7, .int .i64 m9_8]) (by kernel_rfl) ?_
  refine AtE.ru 4 ?_
  refine AtE.load 2 0 (T := 3) (v := .int .i64 m9_0) (by kernel_rfl) ?_
  refine AtE.norm (k' := [.inRegion (regOps [.code (sub (Eng.body Tryz.f148) [1,1,1,0,1,0,0,1,1,0,0,1,1,1,0,0,1,1,0,0,1,0])]) [2,3,4], .code (sub (Eng.body Tryz.f148) [1,1,1,0,1,0,0,1,1,0,0,1,1,1,0,0,1,1,0,0,1,1]), .inBlock 3, .code (sub (Eng.body Tryz.f148) [1,1,1,0,1,0,0,1,1,0,0,1,1,1,0,0,1,1,1]), .inLoop (sub (Eng.body Tryz.f148) [1,1,1,0,1,0,0,1,1,0,0,1,1,1,0,0]), .inBlock 2, .inBlock 1, .code (sub (Eng.body Tryz.f148) [1,1,1,0,1,0,0,1,1,1]), .inLoop (sub (Eng.body Tryz.f148) [1,1,1,0,1,0,0]), .inBlock 0, .code (sub (Eng.body Tryz.f148) [1,1,1,1])]) (e' := [(0, .slice l2_p l2_l l2_c), (3, .map (some B2)), (5, .pointer (some ⟨B3, 0, none⟩)), (12, .slice t121_p t121_l t121_c), (13, .int .i64 t131), (14, .int .i64 t141), (25, .slice (some ⟨t25_pb, t25_po, none⟩) t25_l t25_c), (26, .int .i64 t26), (27, .int .i64 t27), (32, .int .i64 m9_0)]) (L' := [(B2, .map #[{ key := .int .i64 (1 : Int), val := .agg #[.func (.func 195) #[] #[], .bool false, .func (.func 197) #[] #[]], born := 0 }, { key := .int .i64 (2 : Int), val := .agg #[.func (.func 195) #[] #[], .bool false, .func (.func 198) #[] #[]], born := 1 }, { key := .int .i64 (3 : Int), val := .agg #[.func (.func 196) #[] #[], .bool true, .func (.func 201) #[] #[]], born := 2 }, { key := .int .i64 (4 : Int), val := .agg #[.func (.func 195) #[] #[], .bool false, .func (.func 202) #[] #[]], born := 3 }, { key := .int .i64 (5 : Int), val := .agg #[.func (.func 203) #[] #[], .bool false, .func (.func 204) #[] #[]], born := 4 }] 5), (B3, .cells #[.int .i64 m0, .int .i64 m1, .string m2, .int .i64 m3, .int .i64 m4, .int .i64 m5, .slice m6_p m6_l m6_c, .int .i64 m7, .int .i64 m8] 89), (B4, .cells #[.int .i64 m9_0, .int .i64 m9_1, .string m9_2, .int .i64 m9_3, .int .i64 m9_4, .int .i64 m9_5, .slice m9_6_p m9_6_l m9_6_c, .int .i64 m9_7, .int .i64 m9_8] 89)]) ?_ (by kernel_rfl)
  refine AtE.ru 1 ?_
  refine AtE.load 1 0 (T := 3) (v := .int .i64 m0) (by kernel_rfl) ?_
  refine AtE.ru 2 ?_
  refine AtE.splitP 35 (p := m9_0 = m0) (by kernel_rfl) (fun h5' => ?_) (fun h5' => ?_)
  ·replace H := H.1 h5'
   refine AtE.ru 5 ?_
   exact AtE.ret Tryz.func148 (by kernel_rfl) H
  ·replace H := H.2 h5'
   refine AtE.ru 8 ?_
   exact AtE.cut [0,1] H (by kernel_rfl)
 ·replace H := H.2 h4'
  refine AtE.ru 8 ?_
  exact AtE.cut [0] H (by kernel_rfl)
theorem validL_vc (l_p : Option Addr) (l_l : Nat) (l_c : Nat) {R : Ending → World → Prop} {w0 W : World} (hm : Mem [] [] w0 W)
  (H :
   (((24 : Int) < (l_l : Int)) →
    Fin R [] [] w0 (.bool false)) ∧
    ((¬ ((24 : Int) < (l_l : Int))) →
    CallH Tryz.prog 176 ⟨[]⟩ [] [] w0 (fun v L' => ∃ (mb : Nat), v = (.map (some mb)) ∧ L' = [(mb, .map #[{ key := .int .i64 (1 : Int), val := .agg #[.func (.func 195) #[] #[], .bool false, .func (.func 197) #[] #[]], born := 0 }, { key := .int .i64 (2 : Int), val := .agg #[.func (.func 195) #[] #[], .bool false, .func (.func 198) #[] #[]], born := 1 }, { key := .int .i64 (3 : Int), val := .agg #[.func (.func 196) #[] #[], .bool true, .func (.func 201) #[] #[]], born := 2 }, { key := .int .i64 (4 : Int), val := .agg #[.func (.func 195) #[] #[], .bool false, .func (.func 202) #[] #[]], born := 3 }, { key := .int .i64 (5 : Int), val := .agg #[.func (.func 203) #[] #[], .bool false, .func (.func 204) #[] #[]], born := 4 }] 5)] ∧
     validL_c0 mb l_p l_l l_c l_p l_l l_c (l_l : Int) (0 : Int) w0 R))) :
  Calls Tryz.prog 148 ⟨[.slice l_p l_l l_c]⟩ W R := by
 refine AtE.calls (nt := 38) Tryz.func148 (by kernel_rfl) hm ?_
 refine AtE.ru 11 ?_
 refine AtE.splitP 10 (p := (24 : Int) < (l_l : Int)) (by kernel_rfl) (fun h1' => ?_) (fun h1' => ?_)
 ·replace H := H.1 h1'
  refine AtE.ru 5 ?_
  exact AtE.ret Tryz.func148 (by kernel_rfl) H
 ·replace H := H.2 h1'
  refine AtE.ru 4 ?_
  refine AtE.call 176 ⟨[]⟩ (fun W => by kernel_rfl) (by kernel_rfl) H ?_
  clear H
  rintro _ _ ⟨mb, rfl, rfl, H⟩
  refine AtE.ru 11 ?_
  exact AtE.cut [0] H (by kernel_rfl)
end Go.Eng
namespace Go.Eng
open Go Go.RowKit Go.Proofs Wire
set_option linter.unusedVariables false
abbrev rulesObj : Obj := .map #[{ key := .int .i64 (1 : Int), val := .agg #[.func (.func 195) #[] #[], .bool false, .func (.func 197) #[] #[]], born := 0 }, { key := .int .i64 (2 : Int), val := .agg #[.func (.func 195) #[] #[], .bool false, .func (.func 198) #[] #[]], born := 1 }, { key := .int .i64 (3 : Int), val := .agg #[.func (.func 196) #[] #[], .bool true, .func (.func 201) #[] #[]], born := 2 }, { key := .int .i64 (4 : Int), val := .agg #[.func (.func 195) #[] #[], .bool false, .func (.func 202) #[] #[]], born := 3 }, { key := .int .i64 (5 : Int), val := .agg #[.func (.func 203) #[] #[], .bool false, .func (.func 204) #[] #[]], born := 4 }] 5
theorem rules_e : EffC Tryz.prog 176 ⟨[]⟩ [] (fun v L' => ∃ mb : Nat, v = .map (some mb) ∧ L' = [(mb, rulesObj)]) := by
  intro W hm
  exact rules_vc (Mem.start [] W) fun B W' hm' => ⟨_, _, rfl, hm', B, rfl, rfl⟩
theorem CallH.rules {L : SHeap} {S : List Nat} {w0 : World} {K : Value → SHeap → Prop} (hK : ∀ mb : Nat, K (.map (some mb)) (L ++ [(mb, rulesObj)])) : CallH Tryz.prog 176 ⟨[]⟩ L S w0 K :=
  CallH.eff (L1 := L) rules_e (List.Perm.refl _) fun v L' ⟨mb, hv, hl⟩ => ⟨L ++ [(mb, rulesObj)], by rw [hl]; exact List.perm_append_comm, by rw [hv]; exact hK mb⟩
theorem ok_id {b : Blk} (h : ¬ (1 ≤ b.id ∧ b.id ≤ 1000)) : (Value.bool false) = .bool b.ok := by rw [Blk.ok, decide_eq_false h, Bool.false_and]
theorem ok_lab {b : Blk} (h : b.lab.ok = false) : (Value.bool false) = .bool b.ok := by rw [Blk.ok, h, Bool.false_and, Bool.and_false]
theorem ok_kind {b : Blk} (h : b.kindOk = false) : (Value.bool false) = .bool b.ok := by rw [Blk.ok, h, Bool.and_false, Bool.and_false]
theorem ok_yes {b : Blk} {v : Bool} (h : 1 ≤ b.id ∧ b.id ≤ 1000) (hl : b.lab.ok = true) (hk : v = b.kindOk) : (Value.bool v) = .bool b.ok := by rw [Blk.ok, decide_eq_true h, hl, hk, Bool.true_and, Bool.true_and]
theorem kind1 {b : Blk} (k : b.kind = 1) : b.kindOk = (fillOk b.text && b.noRef) := by rw [Blk.kindOk, if_pos k]
theorem kind2 {b : Blk} (k : b.kind = 2) : b.kindOk = (fillOk b.text && b.noRef) := by rw [Blk.kindOk, if_neg (by omega), if_pos k]
theorem kind3 {b : Blk} (k : b.kind = 3) : b.kindOk = (txtOk b.text && decide (1 ≤ b.story ∧ b.story ≤ 64 ∧ 1 ≤ b.ref ∧ b.ref ≤ 1000)) := by rw [Blk.kindOk, if_neg (by omega), if_neg (by omega), if_pos k]
theorem kind4 {b : Blk} (k : b.kind = 4) : b.kindOk = (fillOk b.text && b.noRef) := by rw [Blk.kindOk, if_neg (by omega), if_neg (by omega), if_neg (by omega), if_pos k]
theorem kind5 {b : Blk} (k : b.kind = 5) : b.kindOk = (nameOk b.text && b.noRef) := by rw [Blk.kindOk, if_neg (by omega), if_neg (by omega), if_neg (by omega), if_neg (by omega), if_pos k]
theorem kind0 {b : Blk} (k1 : ¬ b.kind = 1) (k2 : ¬ b.kind = 2) (k3 : ¬ b.kind = 3) (k4 : ¬ b.kind = 4) (k5 : ¬ b.kind = 5) : b.kindOk = false := by rw [Blk.kindOk, if_neg k1, if_neg k2, if_neg k3, if_neg k4, if_neg k5]
theorem noRef_of {b : Blk} (h : b.story = 0) : decide (b.ref = 0) = b.noRef := by simp [Blk.noRef, h]
theorem noRef_no {b : Blk} (h : ¬ b.story = 0) : b.noRef = false := by simp [Blk.noRef, h]
theorem quote_of {b : Blk} (h : 1 ≤ b.story) (h2 : b.story ≤ 64) (h3 : 1 ≤ b.ref) : decide (b.ref ≤ 1000) = decide (1 ≤ b.story ∧ b.story ≤ 64 ∧ 1 ≤ b.ref ∧ b.ref ≤ 1000) := by simp only [decide_eq_decide]; omega
theorem follows_c {W : World} {p : Option Addr} {c mb : Nat} {b : Blk} (h : IntsL (lkW W) p b.lab.after) (hf : b.Fits) (hmap : W.heap[mb]? = some rulesObj) :
    PW Tryz.prog 177 ⟨[.agg ⟨b.cells p c⟩, .map (some mb)]⟩ W (.bool b.ok) := by
  refine follows_vc b.id b.kind b.text b.story b.ref b.lab.unt p b.lab.after.length c b.lab.appr b.lab.den mb (Mem.start [] W) fun B => ⟨hmap, ?_⟩
  have hv : ∀ L W', Mem L [] W W' → PW Tryz.prog 102 ⟨[.agg ⟨b.lab.cells p c⟩]⟩ W' (.bool b.lab.ok) := fun L W' hm' => labValid_c (h.mono (lkW_kept hm')) hf.2
  refine ⟨fun k1 B1 => ?_, fun k1 => ⟨fun k2 B2 => ?_, fun k2 => ⟨fun k3 B3 => ?_, fun k3 => ⟨fun k4 B4 => ?_, fun k4 => ⟨fun k5 B5 => ?_, fun k5 B6 => finPW (ok_kind (kind0 k1 k2 k3 k4 k5))⟩⟩⟩⟩⟩
  · refine ⟨fun i1 => finPW (ok_id (by omega)), fun i1 => ⟨fun i2 => finPW (ok_id (by omega)), fun i2 => CallH.pw (hv _) ⟨_, rfl, rfl, fun hl => CallH.pure (rul1_c b.text hf.1) ⟨_, rfl, rfl, fun ht => ⟨fun q1 => finPW (ok_yes ⟨by omega, by omega⟩ hl ?_), fun q1 => finPW (ok_kind ?_)⟩, fun ht => finPW (ok_kind ?_)⟩, fun hl => finPW (ok_lab hl)⟩⟩⟩
    · rw [kind1 k1, ht, Bool.true_and, noRef_of q1]
    · rw [kind1 k1, noRef_no q1, Bool.and_false]
    · rw [kind1 k1, ht, Bool.false_and]
  · refine ⟨fun i1 => finPW (ok_id (by omega)), fun i1 => ⟨fun i2 => finPW (ok_id (by omega)), fun i2 => CallH.pw (hv _) ⟨_, rfl, rfl, fun hl => CallH.pure (rul1_c b.text hf.1) ⟨_, rfl, rfl, fun ht => ⟨fun q1 => finPW (ok_yes ⟨by omega, by omega⟩ hl ?_), fun q1 => finPW (ok_kind ?_)⟩, fun ht => finPW (ok_kind ?_)⟩, fun hl => finPW (ok_lab hl)⟩⟩⟩
    · rw [kind2 k2, ht, Bool.true_and, noRef_of q1]
    · rw [kind2 k2, noRef_no q1, Bool.and_false]
    · rw [kind2 k2, ht, Bool.false_and]
  · have fail : ¬ (1 ≤ b.story ∧ b.story ≤ 64 ∧ 1 ≤ b.ref ∧ b.ref ≤ 1000) → (Value.bool false) = .bool b.ok := fun hn => ok_kind (by rw [kind3 k3, decide_eq_false hn, Bool.and_false])
    refine ⟨fun i1 => finPW (ok_id (by omega)), fun i1 => ⟨fun i2 => finPW (ok_id (by omega)), fun i2 => CallH.pw (hv _) ⟨_, rfl, rfl, fun hl => CallH.pure (isText_c b.text hf.1) ⟨_, rfl, rfl, fun ht => ?_, fun ht => finPW (ok_kind ?_)⟩, fun hl => finPW (ok_lab hl)⟩⟩⟩
    · refine ⟨fun q1 => ⟨fun q2 => ⟨fun q3 => finPW (ok_yes ⟨by omega, by omega⟩ hl ?_), fun q3 => finPW (fail (by omega))⟩, fun q2 => finPW (fail (by omega))⟩, fun q1 => finPW (fail (by omega))⟩
      rw [kind3 k3, ht, Bool.true_and, quote_of q1 q2 q3]
    · rw [kind3 k3, ht, Bool.false_and]
  · refine ⟨fun i1 => finPW (ok_id (by omega)), fun i1 => ⟨fun i2 => finPW (ok_id (by omega)), fun i2 => CallH.pw (hv _) ⟨_, rfl, rfl, fun hl => CallH.pure (rul1_c b.text hf.1) ⟨_, rfl, rfl, fun ht => ⟨fun q1 => finPW (ok_yes ⟨by omega, by omega⟩ hl ?_), fun q1 => finPW (ok_kind ?_)⟩, fun ht => finPW (ok_kind ?_)⟩, fun hl => finPW (ok_lab hl)⟩⟩⟩
    · rw [kind4 k4, ht, Bool.true_and, noRef_of q1]
    · rw [kind4 k4, noRef_no q1, Bool.and_false]
    · rw [kind4 k4, ht, Bool.false_and]
  · refine ⟨fun i1 => finPW (ok_id (by omega)), fun i1 => ⟨fun i2 => finPW (ok_id (by omega)), fun i2 => CallH.pw (hv _) ⟨_, rfl, rfl, fun hl => CallH.pure (isName_c b.text hf.1) ⟨_, rfl, rfl, fun ht => ⟨fun q1 => finPW (ok_yes ⟨by omega, by omega⟩ hl ?_), fun q1 => finPW (ok_kind ?_)⟩, fun ht => finPW (ok_kind ?_)⟩, fun hl => finPW (ok_lab hl)⟩⟩⟩
    · rw [kind5 k5, ht, Bool.true_and, noRef_of q1]
    · rw [kind5 k5, noRef_no q1, Bool.and_false]
    · rw [kind5 k5, ht, Bool.false_and]
def dupGo (l : List Blk) (b : Blk) (k : Nat) : Bool := (l.drop k).all fun e => decide (e.id ≠ b.id)
theorem dup_step {l : List Blk} {b : Blk} {k : Nat} (h : k < l.length) : dupGo l b k = (decide (l[k].id ≠ b.id) && dupGo l b (k + 1)) := by
  unfold dupGo
  rw [List.drop_eq_getElem_cons h, List.all_cons]
theorem dup_end {l : List Blk} {b : Blk} {k : Nat} (h : l.length ≤ k) : dupGo l b k = true := by
  unfold dupGo; rw [List.drop_of_length_le h]; rfl
def okGo (l : List Blk) (i : Nat) : Bool := listGo (l.take i) (l.drop i)
theorem okGo_step {l : List Blk} {i : Nat} (h : i < l.length) : okGo l i = (l[i].ok && (dupGo (l.take i) l[i] 0 && okGo l (i + 1))) := by
  unfold okGo dupGo
  rw [List.drop_eq_getElem_cons h, listGo, List.drop_zero]
  congr 2
  rw [List.take_add_one, List.getElem?_eq_getElem h]; rfl
theorem okGo_end {l : List Blk} {i : Nat} (h : l.length ≤ i) : okGo l i = true := by
  unfold okGo; rw [List.drop_of_length_le h]; rfl
theorem validL_loop {w0 : World} {p : Option Addr} {c mb : Nat} {R : Ending → World → Prop} {l : List Blk} (hl : BlksL (lkW w0) p l) (hn : l.length ≤ 24) (hc : l.length ≤ c) (HR : ∀ L v, Fin R [] [] w0 v → Fin R L [] w0 v) :
    ∀ (g i : Nat), g + i = l.length → Fin R [] [] w0 (.bool (okGo l i)) → validL_c0 mb p l.length c p l.length c (l.length : Int) (i : Int) w0 R
  | 0, i, hg, H => by
    apply validL_c0_vc
    refine no (by omega) (HR _ _ (finEq H ?_))
    rw [okGo_end (by omega)]
  | g + 1, i, hg, H => by
    apply validL_c0_vc
    have hi : i < l.length := by omega
    obtain ⟨B1, o1, c1, rfl, e2, e3, p6, c6, e4, e5, e6⟩ := hl.get hi
    rw [okGo_step hi] at H
    refine yes (by omega) ⟨B1, o1, rfl, by omega, c1, l[i].id, l[i].kind, l[i].text, l[i].story, l[i].ref, l[i].lab.unt, p6, l[i].lab.after.length, c6, l[i].lab.appr, l[i].lab.den, e2, ⟨by simpa using e4, by simpa using e3⟩, fun B2 => ?_⟩
    refine CallH.pw (fun W' hm' => follows_c (e5.mono (lkW_kept hm')) e6 (hm'.here (mb, rulesObj) (by simp))) ⟨_, rfl, rfl, fun hok => ⟨by omega, ?_⟩, fun hok => HR _ _ (finEq H ?_)⟩
    · rw [hok, Bool.true_and] at H
      rw [Int.toNat_natCast]
      have inner : ∀ (q k : Nat), q + k = i → Fin R [] [] w0 (.bool (dupGo (l.take i) l[i] k && okGo l (i + 1))) →
          validL_c1 mb B2 (some ⟨B1, o1, none⟩) l.length c (some ⟨B1, o1, none⟩) l.length c (l.length : Int) (i : Int) (some ⟨B1, o1, none⟩) i c (i : Int) (k : Int) l[i].id l[i].kind l[i].text l[i].story l[i].ref l[i].lab.unt p6 l[i].lab.after.length c6 l[i].lab.appr l[i].lab.den w0 R := by
        intro q
        induction q with
        | zero =>
          intro k hk HH
          apply validL_c1_vc
          refine no (by omega) ?_
          rw [wi64 (by omega), show (i : Int) + 1 = ((i + 1 : Nat) : Int) by omega]
          refine validL_loop hl hn hc HR g (i + 1) (by omega) (finEq HH ?_)
          rw [dup_end (by rw [List.length_take]; omega), Bool.true_and]
        | succ q ih =>
          intro k hk HH
          apply validL_c1_vc
          have hk1 : k < l.length := by omega
          have hk2 : k < (l.take i).length := by rw [List.length_take]; omega
          obtain ⟨B3, o3, c3, he, f2, f3, p7, c7, f4, f5, f6⟩ := hl.get hk1
          cases he
          have hget : (l.take i)[k] = l[k] := List.getElem_take
          rw [dup_step hk2, hget] at HH
          refine yes (by omega) ⟨B1, o1, rfl, by omega, c3, l[k].id, l[k].kind, l[k].text, l[k].story, l[k].ref, l[k].lab.unt, p7, l[k].lab.after.length, c7, l[k].lab.appr, l[k].lab.den, f2, ⟨by simpa using f4, by simpa using f3⟩, fun B4 => ⟨fun hd => HR _ _ (finEq HH ?_), fun hd => ?_⟩⟩
          · rw [decide_eq_false (show ¬ l[k].id ≠ l[i].id from fun h => h hd), Bool.false_and, Bool.false_and]
          · rw [wi64 (by omega), show (k : Int) + 1 = ((k + 1 : Nat) : Int) by omega]
            refine ih (k + 1) (by omega) (finEq HH ?_)
            rw [decide_eq_true (show l[k].id ≠ l[i].id from hd), Bool.true_and]
      exact inner i 0 (by omega) H
    · rw [hok, Bool.false_and]
theorem validL_c {W : World} {p : Option Addr} {c : Nat} {l : List Blk} (hl : BlksL (lkW W) p l) (hc : l.length ≤ c) : PW Tryz.prog 148 ⟨[.slice p l.length c]⟩ W (.bool (listOk l)) := by
  refine validL_vc p l.length c (Mem.start [] W) ⟨fun h => finPW ?_, fun h => CallH.rules fun mb => ⟨mb, rfl, rfl, validL_loop hl (by omega) hc pwLoose l.length 0 (by omega) (finPW ?_)⟩⟩
  · rw [listOk, decide_eq_false (by omega), Bool.false_and]
  · rw [listOk, decide_eq_true (by omega), Bool.true_and]; rfl
end Go.Eng
namespace Go.Eng
open Go Go.RowKit Go.Proofs
set_option linter.unusedVariables false
set_option maxRecDepth 100000
abbrev sameH0 (B : Nat) (xi : Int) (xk : Int) (xt : ByteArray) (xs : Int) (xr : Int) (xu : Int) (xp : Option Addr) (xl : Nat) (xc : Nat) (xa : Int) (xd : Int) (B1 : Nat) (yi : Int) (yk : Int) (yt : ByteArray) (ys : Int) (yr : Int) (yu : Int) (yp : Option Addr) (yl : Nat) (yc : Nat) (ya : Int) (yd : Int) : SHeap := [(B, .cells #[.int .i64 xi, .int .i64 xk, .string xt, .int .i64 xs, .int .i64 xr, .int .i64 xu, .slice xp xl xc, .int .i64 xa, .int .i64 xd] 89), (B1, .cells #[.int .i64 yi, .int .i64 yk, .string yt, .int .i64 ys, .int .i64 yr, .int .i64 yu, .slice yp yl yc, .int .i64 ya, .int .i64 yd] 89)]
theorem same_vc (xi : Int) (xk : Int) (xt : ByteArray) (xs : Int) (xr : Int) (xu : Int) (xp : Option Addr) (xl : Nat) (xc : Nat) (xa : Int) (xd : Int) (yi : Int) (yk : Int) (yt : ByteArray) (ys : Int) (yr : Int) (yu : Int) (yp : Option Addr) (yl : Nat) (yc : Nat) (ya : Int) (yd : Int) {R : Ending → World → Prop} {w0 W : World} (hm : Mem [] [] w0 W)
  (H :
   ∀ B : Nat,
   ∀ B1 : Nat,
   ((xi = yi) →
    ((xk = yk) →
     ((xt = yt) →
      ((xs = ys) →
       ((xr = yr) →
        CallH Tryz.prog 63 ⟨[.agg #[.int .i64 xu, .slice xp xl xc, .int .i64 xa, .int .i64 xd], .agg #[.int .i64 yu, .slice yp yl yc, .int .i64 ya, .int .i64 yd]]⟩ (sameH0 B xi xk xt xs xr xu xp xl xc xa xd B1 yi yk yt ys yr yu yp yl yc ya yd) [] w0 (fun v L' => ∃ (r1 : Bool), v = (.bool r1) ∧ L' = (sameH0 B xi xk xt xs xr xu xp xl xc xa xd B1 yi yk yt ys yr yu yp yl yc ya yd) ∧
         Fin R (sameH0 B xi xk xt xs xr xu xp xl xc xa xd B1 yi yk yt ys yr yu yp yl yc ya yd) [] w0 (.bool r1))) ∧
        ((¬ (xr = yr)) →
        Fin R (sameH0 B xi xk xt xs xr xu xp xl xc xa xd B1 yi yk yt ys yr yu yp yl yc ya yd) [] w0 (.bool false))) ∧
       ((¬ (xs = ys)) →
       Fin R (sameH0 B xi xk xt xs xr xu xp xl xc xa xd B1 yi yk yt ys yr yu yp yl yc ya yd) [] w0 (.bool false))) ∧
      ((¬ xt = yt) →
      Fin R (sameH0 B xi xk xt xs xr xu xp xl xc xa xd B1 yi yk yt ys yr yu yp yl yc ya yd) [] w0 (.bool false))) ∧
     ((¬ (xk = yk)) →
     Fin R (sameH0 B xi xk xt xs xr xu xp xl xc xa xd B1 yi yk yt ys yr yu yp yl yc ya yd) [] w0 (.bool false))) ∧
    ((¬ (xi = yi)) →
    Fin R (sameH0 B xi xk xt xs xr xu xp xl xc xa xd B1 yi yk yt ys yr yu yp yl yc ya yd) [] w0 (.bool false))) :
  Calls Tryz.prog 108 ⟨[.agg #[.int .i64 xi, .int .i64 xk, .string xt, .int .i64 xs, .int .i64 xr, .int .i64 xu, .slice xp xl xc, .int .i64 xa, .int .i64 xd], .agg #[.int .i64 yi, .int .i64 yk, .string yt, .int .i64 ys, .int .i64 yr, .int .i64 yu, .slice yp yl yc, .int .i64 ya, .int .i64 yd]]⟩ W R := by
 refine AtE.calls (nt := 45) Tryz.func108 (by kernel_rfl) hm ?_
 refine AtE.ru 2 ?_
 refine AtE.new (fun B => .pointer (some ⟨B, 0, none⟩)) (.cells #[.int .i64 xi, .int .i64 xk, .string xt, .int .i64 xs, .int .i64 xr, .int .i64 xu, .slice xp xl xc, .int .i64 xa, .int .i64 xd] 89) (fun W => by kernel_rfl) (by kernel_rfl) (fun B => ?_)
 replace H := H B
 refine AtE.new (fun B => .pointer (some ⟨B, 0, none⟩)) (.cells #[.int .i64 yi, .int .i64 yk, .string yt, .int .i64 ys, .int .i64 yr, .int .i64 yu, .slice yp yl yc, .int .i64 ya, .int .i64 yd] 89) (fun W => by kernel_rfl) (by kernel_rfl) (fun B1 => ?_)
 replace H := H B1
 refine AtE.ru 5 ?_
 refine AtE.load 0 0 (T := 3) (v := .int .i64 xi) (by kernel_rfl) ?_
 refine AtE.ru 1 ?_
 refine AtE.load 1 0 (T := 3) (v := .int .i64 yi) (by kernel_rfl) ?_
 refine AtE.ru 2 ?_
 refine AtE.splitP 10 (p := xi = yi) (by kernel_rfl) (fun h1' => ?_) (fun h1' => ?_)
 ·replace H := H.1 h1'
  refine AtE.ru 1 ?_
  refine AtE.load 0 1 (T := 3) (v := .int .i64 xk) (by kernel_rfl) ?_
  refine AtE.ru 1 ?_
  refine AtE.load 1 1 (T := 3) (v := .int .i64 yk) (by kernel_rfl) ?_
  refine AtE.norm (k' := [.inRegion (regOps [.code (sub (Eng.body Tryz.f108) [1,0])]) [10,11,12,13,14,15,16,17,18,19,20,21,22,23,24,25,26,27,28,29,30,31,32,33,34,35,36,37,38,39,40], .code (sub (Eng.body Tryz.f108) [1,1])]) (e' := [(2, .pointer (some ⟨B, 0, none⟩)), (3, .pointer (some ⟨B1, 0, none⟩)), (10, .bool true), (12, .int .i64 xk), (14, .int .i64 yk)]) (L' := (sameH0 B xi xk xt xs xr xu xp xl xc xa xd B1 yi yk yt ys yr yu yp yl yc ya yd)) ?_ (by kernel_rfl)
  refine AtE.ru 3 ?_
  refine AtE.splitP 17 (p := xk = yk) (by kernel_rfl) (fun h2' => ?_) (fun h2' => ?_)
  ·replace H := H.1 h2'
   refine AtE.ru 1 ?_
   refine AtE.load 0 2 (T := 9) (v := .string xt) (by kernel_rfl) ?_
   refine AtE.ru 1 ?_
   refine AtE.load 1 2 (T := 9) (v := .string yt) (by kernel_rfl) ?_
   refine AtE.ru 3 ?_
   refine AtE.splitS 24 (x := xt) (y := yt) (by kernel_rfl) (fun h3' => ?_) (fun h3' => ?_)
   ·replace H := H.1 h3'
    refine AtE.ru 1 ?_
    refine AtE.load 0 3 (T := 3) (v := .int .i64 xs) (by kernel_rfl) ?_
    refine AtE.ru 1 ?_
    refine AtE.load 1 3 (T := 3) (v := .int .i64 ys) (by kernel_rfl) ?_
    refine AtE.ru 3 ?_
    refine AtE.splitP 31 (p := xs = ys) (by kernel_rfl) (fun h4' => ?_) (fun h4' => ?_)
    ·replace H := H.1 h4'
     refine AtE.norm (k' := [.inRegion (regOps [.code (sub (Eng.body Tryz.f108) [1,0])]) [27,28,29,30,31,32,33,34,35,36,37,38,39,40], .code (sub (Eng.body Tryz.f108) [1,1])]) (e' := [(2, .pointer (some ⟨B, 0, none⟩)), (3, .pointer (some ⟨B1, 0, none⟩)), (31, .bool true)]) (L' := (sameH0 B xi xk xt xs xr xu xp xl xc xa xd B1 yi yk yt ys yr yu yp yl yc ya yd)) ?_ (by kernel_rfl)
     refine AtE.ru 1 ?_
     refine AtE.load 0 4 (T := 3) (v := .int .i64 xr) (by kernel_rfl) ?_
     refine AtE.ru 1 ?_
     refine AtE.load 1 4 (T := 3) (v := .int .i64 yr) (by kernel_rfl) ?_
     refine AtE.ru 3 ?_
     refine AtE.splitP 38 (p := xr = yr) (by kernel_rfl) (fun h5' => ?_) (fun h5' => ?_)
     ·replace H := H.1 h5'
      refine AtE.ru 1 ?_
      refine AtE.load 0 5 (T := 26) (v := .agg #[.int .i64 xu, .slice xp xl xc, .int .i64 xa, .int .i64 xd]) (by kernel_rfl) ?_
      refine AtE.ru 1 ?_
      refine AtE.load 1 5 (T := 26) (v := .agg #[.int .i64 yu, .slice yp yl yc, .int .i64 ya, .int .i64 yd]) (by kernel_rfl) ?_
      refine AtE.call 63 ⟨[.agg #[.int .i64 xu, .slice xp xl xc, .int .i64 xa, .int .i64 xd], .agg #[.int .i64 yu, .slice yp yl yc, .int .i64 ya, .int .i64 yd]]⟩ (fun W => by kernel_rfl) (by kernel_rfl) H ?_
      clear H
      rintro _ _ ⟨r1, rfl, rfl, H⟩
      refine AtE.ru 3 ?_
      exact AtE.ret Tryz.func108 (by kernel_rfl) H
     ·replace H := H.2 h5'
      refine AtE.ru 8 ?_
      exact AtE.ret Tryz.func108 (by kernel_rfl) H
    ·replace H := H.2 h4'
     refine AtE.norm (k' := [.inRegion (regOps [.code (sub (Eng.body Tryz.f108) [1,0])]) [27,28,29,30,31,32,33,34,35,36,37,38,39,40], .code (sub (Eng.body Tryz.f108) [1,1])]) (e' := [(2, .pointer (some ⟨B, 0, none⟩)), (3, .pointer (some ⟨B1, 0, none⟩)), (31, .bool false)]) (L' := (sameH0 B xi xk xt xs xr xu xp xl xc xa xd B1 yi yk yt ys yr yu yp yl yc ya yd)) ?_ (by kernel_rfl)
     refine AtE.ru 15 ?_
     exact AtE.ret Tryz.func108 (by kernel_rfl) H
   ·replace H := H.2 h3'
    refine AtE.ru 22 ?_
    exact AtE.ret Tryz.func108 (by kernel_rfl) H
  ·replace H := H.2 h2'
   refine AtE.ru 29 ?_
   exact AtE.ret Tryz.func108 (by kernel_rfl) H
 ·replace H := H.2 h1'
  refine AtE.ru 36 ?_
  exact AtE.ret Tryz.func108 (by kernel_rfl) H
abbrev eqBlksH0 (B : Nat) (m_0 : Int) (m_1 : Int) (m_2 : ByteArray) (m_3 : Int) (m_4 : Int) (m_5 : Int) (m_6_p : Option Addr) (m_6_l : Nat) (m_6_c : Nat) (m_7 : Int) (m_8 : Int) (B1 : Nat) (m1_0 : Int) (m1_1 : Int) (m1_2 : ByteArray) (m1_3 : Int) (m1_4 : Int) (m1_5 : Int) (m1_6_p : Option Addr) (m1_6_l : Nat) (m1_6_c : Nat) (m1_7 : Int) (m1_8 : Int) : SHeap := [(B, .cells #[.int .i64 m_0, .int .i64 m_1, .string m_2, .int .i64 m_3, .int .i64 m_4, .int .i64 m_5, .slice m_6_p m_6_l m_6_c, .int .i64 m_7, .int .i64 m_8] 89), (B1, .cells #[.int .i64 m1_0, .int .i64 m1_1, .string m1_2, .int .i64 m1_3, .int .i64 m1_4, .int .i64 m1_5, .slice m1_6_p m1_6_l m1_6_c, .int .i64 m1_7, .int .i64 m1_8] 89)]
abbrev eqBlksA0 (m_0 : Int) (m_1 : Int) (m_2 : ByteArray) (m_3 : Int) (m_4 : Int) (m_5 : Int) (m_6_p : Option Addr) (m_6_l : Nat) (m_6_c : Nat) (m_7 : Int) (m_8 : Int) : Array Value := #[.int .i64 m_0, .int .i64 m_1, .string m_2, .int .i64 m_3, .int .i64 m_4, .int .i64 m_5, .slice m_6_p m_6_l m_6_c, .int .i64 m_7, .int .i64 m_8]
def eqBlks_c0 (s21_p : Option Addr) (s21_l : Nat) (s21_c : Nat) (t15_p : Option Addr) (t15_l : Nat) (t15_c : Nat) (t16 : Int) (t17 : Int) (w0 : World) (R : Ending → World → Prop) : Prop :=
 AtE Tryz.prog 107 32 [.code (sub (Eng.body Tryz.f107) [1,1,0,1,0,0]), .inLoop (sub (Eng.body Tryz.f107) [1,1,0,1,0,0]), .inBlock 0, .code (sub (Eng.body Tryz.f107) [1,1,1])] [(1, .slice s21_p s21_l s21_c), (2, .func (.func 108) #[] #[]), (15, .slice t15_p t15_l t15_c), (16, .int .i64 t16), (17, .int .i64 t17)] [] [] w0 (nrm R)
theorem eqBlks_c0_vc (s21_p : Option Addr) (s21_l : Nat) (s21_c : Nat) (t15_p : Option Addr) (t15_l : Nat) (t15_c : Nat) (t16 : Int) (t17 : Int) {R : Ending → World → Prop} {w0 : World}
  (H :
   ((t17 < t16) →
    ∃ t15_pb t15_po : Nat, t15_p = some ⟨t15_pb, t15_po, none⟩ ∧
    (0 ≤ t17 ∧ t17 < t15_l) ∧
    ∃ (cw : List Value) (m_0 : Int) (m_1 : Int) (m_2 : ByteArray) (m_3 : Int) (m_4 : Int) (m_5 : Int) (m_6_p : Option Addr) (m_6_l : Nat) (m_6_c : Nat) (m_7 : Int) (m_8 : Int), blkW w0 t15_pb = some cw ∧ ((cw.drop (t15_po + ((Int.toNat t17) * 9))).take 9 = [.int .i64 m_0, .int .i64 m_1, .string m_2, .int .i64 m_3, .int .i64 m_4, .int .i64 m_5, .slice m_6_p m_6_l m_6_c, .int .i64 m_7, .int .i64 m_8] ∧ (t15_po + ((Int.toNat t17) * 9)) + 9 ≤ cw.length) ∧
    ∀ B : Nat,
    ∃ s21_pb s21_po : Nat, s21_p = some ⟨s21_pb, s21_po, none⟩ ∧
    (0 ≤ t17 ∧ t17 < s21_l) ∧
    ∃ (cw1 : List Value) (m1_0 : Int) (m1_1 : Int) (m1_2 : ByteArray) (m1_3 : Int) (m1_4 : Int) (m1_5 : Int) (m1_6_p : Option Addr) (m1_6_l : Nat) (m1_6_c : Nat) (m1_7 : Int) (m1_8 : Int), blkW w0 s21_pb = some cw1 ∧ ((cw1.drop (s21_po + ((Int.toNat t17) * 9))).take 9 = [.int .i64 m1_0, .int .i64 m1_1, .string m1_2, .int .i64 m1_3, .int .i64 m1_4, .int .i64 m1_5, .slice m1_6_p m1_6_l m1_6_c, .int .i64 m1_7, .int .i64 m1_8] ∧ (s21_po + ((Int.toNat t17) * 9)) + 9 ≤ cw1.length) ∧
    ∀ B1 : Nat,
    CallH Tryz.prog 108 ⟨[.agg (eqBlksA0 m_0 m_1 m_2 m_3 m_4 m_5 m_6_p m_6_l m_6_c m_7 m_8), .agg #[.int .i64 m1_0, .int .i64 m1_1, .string m1_2, .int .i64 m1_3, .int .i64 m1_4, .int .i64 m1_5, .slice m1_6_p m1_6_l m1_6_c, .int .i64 m1_7, .int .i64 m1_8]]⟩ (eqBlksH0 B m_0 m_1 m_2 m_3 m_4 m_5 m_6_p m_6_l m_6_c m_7 m_8 B1 m1_0 m1_1 m1_2 m1_3 m1_4 m1_5 m1_6_p m1_6_l m1_6_c m1_7 m1_8) [] w0 (fun v L' => ∃ (r1 : Bool), v = (.bool r1) ∧ L' = (eqBlksH0 B m_0 m_1 m_2 m_3 m_4 m_5 m_6_p m_6_l m_6_c m_7 m_8 B1 m1_0 m1_1 m1_2 m1_3 m1_4 m1_5 m1_6_p m1_6_l m1_6_c m1_7 m1_8) ∧
     ((r1 = true) →
      eqBlks_c0 (some ⟨s21_pb, s21_po, none⟩) s21_l s21_c (some ⟨t15_pb, t15_po, none⟩) t15_l t15_c t16 (IntKind.i64.wrap (t17 + (1 : Int))) w0 R) ∧
      ((r1 = false) →
      Fin R (eqBlksH0 B m_0 m_1 m_2 m_3 m_4 m_5 m_6_p m_6_l m_6_c m_7 m_8 B1 m1_0 m1_1 m1_2 m1_3 m1_4 m1_5 m1_6_p m1_6_l m1_6_c m1_7 m1_8) [] w0 (.bool false)))) ∧
    ((¬ (t17 < t16)) →
    Fin R [] [] w0 (.bool true))) :
  eqBlks_c0 s21_p s21_l s21_c t15_p t15_l t15_c t16 t17 w0 R := by
 unfold eqBlks_c0
 refine AtE.ru 5 ?_
 refine AtE.splitP 18 (p := t17 < t16) (by kernel_rfl) (fun h2' => ?_) (fun h2' => ?_)
 ·replace H := H.1 h2'
  refine AtE.ru 7 ?_
  obtain ⟨t15_pb, t15_po, rfl, H⟩ := H
  refine AtE.indexAddrL (E := 89) (b := t15_pb) (o := t15_po) (len := t15_l) (cap := t15_c) (sz := 9) (o' := (t15_po + ((Int.toNat t17) * 9))) (kd := .i64) (i := t17) (by kernel_rfl) H.1 (by omega) ?_
  replace H := H.2
  obtain ⟨cw, m_0, m_1, m_2, m_3, m_4, m_5, m_6_p, m_6_l, m_6_c, m_7, m_8, hw, hx, H⟩ := H
  refine AtE.loadW (b := t15_pb) (off := (t15_po + ((Int.toNat t17) * 9))) (T := 89) (v := .agg (eqBlksA0 m_0 m_1 m_2 m_3 m_4 m_5 m_6_p m_6_l m_6_c m_7 m_8)) (by kernel_rfl) List.not_mem_nil hw (valAt_agg hx.1 hx.2 (by kernel_rfl) (by kernel_rfl)) ?_
  refine AtE.new (fun B => .pointer (some ⟨B, 0, none⟩)) (.cells #[.int .i64 (0 : Int), .int .i64 (0 : Int), .string (⟨#[]⟩), .int .i64 (0 : Int), .int .i64 (0 : Int), .int .i64 (0 : Int), .slice none 0 0, .int .i64 (0 : Int), .int .i64 (0 : Int)] 89) (fun W => by kernel_rfl) (by kernel_rfl) (fun B => ?_)
  replace H := H B
  refine AtE.ru 1 ?_
  refine AtE.store 0 0 (T := 89) (v := .agg (eqBlksA0 m_0 m_1 m_2 m_3 m_4 m_5 m_6_p m_6_l m_6_c m_7 m_8)) (by kernel_rfl) ?_
  refine AtE.ru 5 ?_
  obtain ⟨s21_pb, s21_po, rfl, H⟩ := H
  refine AtE.norm (k' := [.inRegion (regOps [.code (sub (Eng.body Tryz.f107) [1,1,0,1,0,0,1,1,0,0,1,0])]) [2,3,4,5], .code (sub (Eng.body Tryz.f107) [1,1,0,1,0,0,1,1,0,0,1,1]), .inBlock 1, .code (sub (Eng.body Tryz.f107) [1,1,0,1,0,0,1,1,1]), .inLoop (sub (Eng.body Tryz.f107) [1,1,0,1,0,0]), .inBlock 0, .code (sub (Eng.body Tryz.f107) [1,1,1])]) (e' := [(1, .slice (some ⟨s21_pb, s21_po, none⟩) s21_l s21_c), (2, .func (.func 108) #[] #[]), (8, .pointer (some ⟨B, 0, none⟩)), (15, .slice (some ⟨t15_pb, t15_po, none⟩) t15_l t15_c), (16, .int .i64 t16), (17, .int .i64 t17), (22, .slice (some ⟨s21_pb, s21_po, none⟩) s21_l s21_c), (23, .int .i64 t17)]) (L' := [(B, .cells (eqBlksA0 m_0 m_1 m_2 m_3 m_4 m_5 m_6_p m_6_l m_6_c m_7 m_8) 89)]) ?_ (by kernel_rfl)
  refine AtE.indexAddrL (E := 89) (b := s21_pb) (o := s21_po) (len := s21_l) (cap := s21_c) (sz := 9) (o' := (s21_po + ((Int.toNat t17) * 9))) (kd := .i64) (i := t17) (by kernel_rfl) H.1 (by omega) ?_
  replace H := H.2
  obtain ⟨cw1, m1_0, m1_1, m1_2, m1_3, m1_4, m1_5, m1_6_p, m1_6_l, m1_6_c, m1_7, m1_8, hw, hx, H⟩ := H
  refine AtE.loadW (b := s21_pb) (off := (s21_po + ((Int.toNat t17) * 9))) (T := 89) (v := .agg #[.int .i64 m1_0, .int .i64 m1_1, .string m1_2, .int .i64 m1_3, .int .i64 m1_4, .int .i64 m1_5, .slice m1_6_p m1_6_l m1_6_c, .int .i64 m1_7, .int .i64 m1_8]) (by kernel_rfl) List.not_mem_nil hw (valAt_agg hx.1 hx.2 (by kernel_rfl) (by kernel_rfl)) ?_
  refine AtE.new (fun B => .pointer (some ⟨B, 0, none⟩)) (.cells #[.int .i64 (0 : Int), .int .i64 (0 : Int), .string (⟨#[]⟩), .int .i64 (0 : Int), .int .i64 (0 : Int), .int .i64 (0 : Int), .slice none 0 0, .int .i64 (0 : Int), .int .i64 (0 : Int)] 89) (fun W => by kernel_rfl) (by kernel_rfl) (fun B1 => ?_)
  replace H := H B1
  refine AtE.store 1 0 (T := 89) (v := .agg #[.int .i64 m1_0, .int .i64 m1_1, .string m1_2, .int .i64 m1_3, .int .i64 m1_4, .int .i64 m1_5, .slice m1_6_p m1_6_l m1_6_c, .int .i64 m1_7, .int .i64 m1_8]) (by kernel_rfl) ?_
  refine AtE.ru 4 ?_
  refine AtE.load 0 0 (T := 89) (v := .agg (eqBlksA0 m_0 m_1 m_2 m_3 m_4 m_5 m_6_p m_6_l m_6_c m_7 m_8)) (by kernel_rfl) ?_
  refine AtE.load 1 0 (T := 89) (v := .agg #[.int .i64 m1_0, .int .i64 m1_1, .string m1_2, .int .i64 m1_3, .int .i64 m1_4, .int .i64 m1_5, .slice m1_6_p m1_6_l m1_6_c, .int .i64 m1_7, .int .i64 m1_8]) (by kernel_rfl) ?_
  refine AtE.call 108 ⟨[.agg (eqBlksA0 m_0 m_1 m_2 m_3 m_4 m_5 m_6_p m_6_l m_6_c m_7 m_8), .agg #[.int .i64 m1_0, .int .i64 m1_1, .string m1_2, .int .i64 m1_3, .int .i64 m1_4, .int .i64 m1_5, .slice m1_6_p m1_6_l m1_6_c, .int .i64 m1_7, .int .i64 m1_8]]⟩ (fun W => by kernel_rfl) (by kernel_rfl) H ?_
  clear H
  rintro _ _ ⟨r1, rfl, rfl, H⟩
  refine AtE.norm (k' := [.inRegion (regOps [.code (sub (Eng.body Tryz.f107) [1,1,0,1,0,0,1,1,0,0,1,1,0])]) [4], .code (sub (Eng.body Tryz.f107) [1,1,0,1,0,0,1,1,0,0,1,1,1]), .inBlock 1, .code (sub (Eng.body Tryz.f107) [1,1,0,1,0,0,1,1,1]), .inLoop (sub (Eng.body Tryz.f107) [1,1,0,1,0,0]), .inBlock 0, .code (sub (Eng.body Tryz.f107) [1,1,1])]) (e' := [(1, .slice (some ⟨s21_pb, s21_po, none⟩) s21_l s21_c), (2, .func (.func 108) #[] #[]), (15, .slice (some ⟨t15_pb, t15_po, none⟩) t15_l t15_c), (16, .int .i64 t16), (17, .int .i64 t17), (29, .bool r1)]) (L' := (eqBlksH0 B m_0 m_1 m_2 m_3 m_4 m_5 m_6_p m_6_l m_6_c m_7 m_8 B1 m1_0 m1_1 m1_2 m1_3 m1_4 m1_5 m1_6_p m1_6_l m1_6_c m1_7 m1_8)) ?_ (by kernel_rfl)
  refine AtE.split 29 (b := r1) (by kernel_rfl) (fun h3' => ?_) (fun h3' => ?_)
  ·replace H := H.1 h3'
   refine AtE.ru 10 ?_
   exact AtE.cut [] H (by kernel_rfl)
  ·replace H := H.2 h3'
   refine AtE.ru 7 ?_
   exact AtE.ret Tryz.func107 (by kernel_rfl) H
 ·replace H := H.2 h2'
  refine AtE.ru 6 ?_
  exact AtE.ret Tryz.func107 (by kernel_rfl) H
theorem eqBlks_vc (s1_p : Option Addr) (s1_l : Nat) (s1_c : Nat) (s2_p : Option Addr) (s2_l : Nat) (s2_c : Nat) {R : Ending → World → Prop} {w0 W : World} (hm : Mem [] [] w0 W)
  (H :
   ((¬ ((s1_l : Int) = (s2_l : Int))) →
    Fin R [] [] w0 (.bool false)) ∧
    (((s1_l : Int) = (s2_l : Int)) →
    eqBlks_c0 s2_p s2_l s2_c s1_p s1_l s1_c (s1_l : Int) (0 : Int) w0 R)) :
  Calls Tryz.prog 107 ⟨[.slice s1_p s1_l s1_c, .slice s2_p s2_l s2_c, .func (.func 108) #[] #[]]⟩ W R := by
 refine AtE.calls (nt := 32) Tryz.func107 (by kernel_rfl) hm ?_
 refine AtE.ru 13 ?_
 refine AtE.splitN 14 (p := (s1_l : Int) = (s2_l : Int)) (by kernel_rfl) (fun h1' => ?_) (fun h1' => ?_)
 ·replace H := H.1 h1'
  refine AtE.ru 5 ?_
  exact AtE.ret Tryz.func107 (by kernel_rfl) H
 ·replace H := H.2 h1'
  refine AtE.ru 11 ?_
  exact AtE.cut [] H (by kernel_rfl)
theorem sameL_vc (a_p : Option Addr) (a_l : Nat) (a_c : Nat) (b_p : Option Addr) (b_l : Nat) (b_c : Nat) {R : Ending → World → Prop} {w0 W : World} (hm : Mem [] [] w0 W)
  (H :
   CallH Tryz.prog 107 ⟨[.slice a_p a_l a_c, .slice b_p b_l b_c, .func (.func 108) #[] #[]]⟩ [] [] w0 (fun v L' => ∃ (r1 : Bool), v = (.bool r1) ∧ L' = [] ∧
    Fin R [] [] w0 (.bool r1))) :
  Calls Tryz.prog 62 ⟨[.slice a_p a_l a_c, .slice b_p b_l b_c]⟩ W R := by
 refine AtE.calls (nt := 8) Tryz.func62 (by kernel_rfl) hm ?_
 refine AtE.ru 8 ?_
 refine AtE.call 107 ⟨[.slice a_p a_l a_c, .slice b_p b_l b_c, .func (.func 108) #[] #[]]⟩ (fun W => by kernel_rfl) (by kernel_rfl) H ?_
 clear H
 rintro _ _ ⟨r1, rfl, rfl, H⟩
 refine AtE.ru 2 ?_
 exact AtE.ret Tryz.func62 (by kernel_rfl) H
end Go.Eng
namespace Go.Eng
open Go Go.RowKit Go.Proofs Wire
set_option linter.unusedVariables false
theorem QCall.pw {P : Program} {L : SHeap} {S : List Nat} {w0 : World} {g : FuncId} {args : Array Value} {v : Value} (h : ∀ W, Mem L S w0 W → PW P g args W v) : QCall P g args L S w0 v :=
  fun W hm => (h W hm).mono fun _ _ hh => ⟨hh.1, hm.after hh.2⟩
theorem QCallB.pw {P : Program} {L : SHeap} {S : List Nat} {w0 : World} {g : FuncId} {args : Array Value} {v : Value} (h : ∀ W, Mem L S w0 W → PW P g args W v) : QCallB P g args L S w0 v := h
theorem Blk.ext' {x y : Blk} : x = y ↔ x.id = y.id ∧ x.kind = y.kind ∧ x.text = y.text ∧ x.story = y.story ∧ x.ref = y.ref ∧ x.lab = y.lab := by
  cases x; cases y; simp
theorem Blk.ne {x y : Blk} (h : ¬ (x.id = y.id ∧ x.kind = y.kind ∧ x.text = y.text ∧ x.story = y.story ∧ x.ref = y.ref ∧ x.lab = y.lab)) : (Value.bool false) = .bool (decide (x = y)) := by
  rw [decide_eq_false (fun e => h (Blk.ext'.1 e))]
theorem Blk.eqLab {x y : Blk} (h1 : x.id = y.id) (h2 : x.kind = y.kind) (h3 : x.text = y.text) (h4 : x.story = y.story) (h5 : x.ref = y.ref) : decide (x.lab = y.lab) = decide (x = y) := by
  simp only [Blk.ext', h1, h2, h3, h4, h5, true_and]
theorem same_c {W : World} {p q : Option Addr} {c d : Nat} {x y : Blk} (hx : IntsL (lkW W) p x.lab.after) (hy : IntsL (lkW W) q y.lab.after) (hf : x.Fits) :
    PW Tryz.prog 108 ⟨[.agg ⟨x.cells p c⟩, .agg ⟨y.cells q d⟩]⟩ W (.bool (decide (x = y))) := by
  refine same_vc x.id x.kind x.text x.story x.ref x.lab.unt p x.lab.after.length c x.lab.appr x.lab.den y.id y.kind y.text y.story y.ref y.lab.unt q y.lab.after.length d y.lab.appr y.lab.den (Mem.start [] W) fun B B1 => ?_
  refine ⟨fun h1 => ⟨fun h2 => ⟨fun h3 => ⟨fun h4 => ⟨fun h5 => ?_, fun h5 => finPW (Blk.ne fun h => h5 h.2.2.2.2.1)⟩, fun h4 => finPW (Blk.ne fun h => h4 h.2.2.2.1)⟩, fun h3 => finPW (Blk.ne fun h => h3 h.2.2.1)⟩, fun h2 => finPW (Blk.ne fun h => h2 h.2.1)⟩, fun h1 => finPW (Blk.ne fun h => h1 h.1)⟩
  exact CallH.pw (fun W' hm' => labSame_c (hx.mono (lkW_kept hm')) (hy.mono (lkW_kept hm')) hf.2) ⟨_, rfl, rfl, finPW (by rw [Blk.eqLab h1 h2 h3 h4 h5])⟩
theorem eqBlks_loop {w0 : World} {p q : Option Addr} {cp cq : Nat} {R : Ending → World → Prop} {a b : List Blk} (ha : BlksL (lkW w0) p a) (hb : BlksL (lkW w0) q b) (hl : a.length = b.length) (hm : a.length ≤ 9223372036854775807) (HR : ∀ L v, Fin R [] [] w0 v → Fin R L [] w0 v) :
    ∀ (g i : Nat), g + i = a.length → Fin R [] [] w0 (.bool (decide (a.drop i = b.drop i))) → eqBlks_c0 q b.length cq p a.length cp (a.length : Int) (i : Int) w0 R
  | 0, i, hg, H => by
    apply eqBlks_c0_vc
    refine no (by omega) (finEq H ?_)
    rw [List.drop_of_length_le (by omega), List.drop_of_length_le (by omega)]
    simp
  | g + 1, i, hg, H => by
    apply eqBlks_c0_vc
    have h1 : i < a.length := by omega
    have h2 : i < b.length := by omega
    obtain ⟨B1, o1, c1, rfl, e2, e3, p6, c6, e4, e5, e6⟩ := ha.get h1
    obtain ⟨B2, o2, c2, rfl, f2, f3, p7, c7, f4, f5, f6⟩ := hb.get h2
    simp only [drop_eq h1 h2] at H
    refine yes (by omega) ⟨B1, o1, rfl, by omega, c1, a[i].id, a[i].kind, a[i].text, a[i].story, a[i].ref, a[i].lab.unt, p6, a[i].lab.after.length, c6, a[i].lab.appr, a[i].lab.den, e2, ⟨by simpa using e4, by simpa using e3⟩, fun B3 =>
      ⟨B2, o2, rfl, by omega, c2, b[i].id, b[i].kind, b[i].text, b[i].story, b[i].ref, b[i].lab.unt, p7, b[i].lab.after.length, c7, b[i].lab.appr, b[i].lab.den, f2, ⟨by simpa using f4, by simpa using f3⟩, fun B4 => ?_⟩⟩
    refine CallH.pw (fun W' hm' => same_c (e5.mono (lkW_kept hm')) (f5.mono (lkW_kept hm')) e6) ⟨_, rfl, rfl, fun h => ?_, fun h => HR _ _ (finEq H ?_)⟩
    · have h := of_decide_eq_true h
      rw [wi64 (by omega), show (i : Int) + 1 = ((i + 1 : Nat) : Int) by omega]
      refine eqBlks_loop ha hb hl hm HR g (i + 1) (by omega) (finEq H ?_)
      simp [h]
    · have h := of_decide_eq_false h
      simp [h]
theorem sameL_c {W : World} {p q : Option Addr} {cp cq : Nat} {a b : List Blk} (ha : BlksL (lkW W) p a) (hb : BlksL (lkW W) q b) (hm : a.length ≤ 9223372036854775807) :
    PW Tryz.prog 62 ⟨[.slice p a.length cp, .slice q b.length cq]⟩ W (.bool (decide (a = b))) := by
  refine sameL_vc p a.length cp q b.length cq (Mem.start [] W) (CallH.pw (v := .bool (decide (a = b))) (fun W' hm' => ?_) ⟨_, rfl, rfl, finPW rfl⟩)
  have ha := ha.mono (lkW_kept hm')
  have hb := hb.mono (lkW_kept hm')
  refine eqBlks_vc p a.length cp q b.length cq (Mem.start [] W') ⟨fun h => finPW ?_, fun h => eqBlks_loop ha hb (by omega) hm pwLoose a.length 0 (by omega) (finPW ?_)⟩
  · rw [decide_eq_false]
    intro hab; subst hab; exact h rfl
  · simp
end Go.Eng
