/- Verification conditions of the functions, written by a program of the prover, checked here. -/
import Derived.Test.YtegbijkbkjancaaDoorEngAny

import Derived.Test.YtegbijkbkjancaaDoorChecked

namespace Go.Eng

open Go Go.RowKit Go.Proofs

set_option linter.unusedVariables false

set_option maxRecDepth 100000

def Sequence_c0 (l1_p : Option Addr) (l1_l : Nat) (l1_c : Nat) (texts1_p : Option Addr) (texts1_l : Nat) (texts1_c : Nat) (ok : Bool) (n1 : Int) (s : ByteArray) (i : Int) (w0 : World) (R : Ending → World → Prop) : Prop :=
  AtE Tryd.prog 6 138 [.code (sub (Eng.body Tryd.f6) [1, 1, 1, 1, 0, 1, 0, 0]), .inLoop (sub (Eng.body Tryd.f6) [1, 1, 1, 1, 0, 1, 0, 0]), .inBlock 0, .code (sub (Eng.body Tryd.f6) [1, 1, 1, 1, 1])] [(0, .slice l1_p l1_l l1_c), (1, .slice texts1_p texts1_l texts1_c), (5, .bool ok), (6, .int .i64 n1), (7, .string s), (8, .int .i64 i)] [] [] w0 R

def Sequence_c1 (l2_p : Option Addr) (l2_l : Nat) (l2_c : Nat) (texts2_p : Option Addr) (texts2_l : Nat) (texts2_c : Nat) (ok1 : Bool) (n2 : Int) (s2 : ByteArray) (atv : Int) (i2 : Int) (w0 : World) (R : Ending → World → Prop) : Prop :=
  AtE Tryd.prog 6 138 [.code (sub (Eng.body Tryd.f6) [1, 1, 1, 1, 1, 1, 0, 1, 0, 0]), .inLoop (sub (Eng.body Tryd.f6) [1, 1, 1, 1, 1, 1, 0, 1, 0, 0]), .inBlock 2, .code (sub (Eng.body Tryd.f6) [1, 1, 1, 1, 1, 1, 1])] [(0, .slice l2_p l2_l l2_c), (1, .slice texts2_p texts2_l texts2_c), (5, .bool ok1), (6, .int .i64 n2), (7, .string s2), (13, .int .i64 atv), (14, .int .i64 i2)] [] [] w0 R

theorem Sequence_c0_vc (l1_p : Option Addr) (l1_l : Nat) (l1_c : Nat) (texts1_p : Option Addr) (texts1_l : Nat) (texts1_c : Nat) (ok : Bool) (n1 : Int) (s : ByteArray) (i : Int) {R : Ending → World → Prop} {w0 : World}
    (H :
      ((i < n1) →
        ∃ l1_pb l1_po : Nat, l1_p = some ⟨l1_pb, l1_po, none⟩ ∧
        (0 ≤ i ∧ i < l1_l) ∧
        ∃ (cw : List Value) (m1 : Int), blkW w0 l1_pb = some cw ∧ cw[(l1_po + (Int.toNat i))]? = some (.int .i64 m1) ∧
        CallH Tryd.prog 11 ⟨[.int .i64 m1]⟩ [] [] w0 (fun v L' => ∃ (r21 : Int), v = (.int .i64 r21) ∧ L' = [] ∧
          CallH Tryd.prog 12 ⟨[.int .i64 r21]⟩ [] [] w0 (fun v L' => ∃ (r31 : ByteArray) (r41 : Int), v = (.tuple #[.string r31, .int .i64 r41]) ∧ L' = [] ∧
            ∃ texts1_pb texts1_po : Nat, texts1_p = some ⟨texts1_pb, texts1_po, none⟩ ∧
            (0 ≤ i ∧ i < texts1_l) ∧
            ∃ (cw1 : List Value) (m21 : ByteArray), blkW w0 texts1_pb = some cw1 ∧ cw1[(texts1_po + (Int.toNat i))]? = some (.string m21) ∧
            (0 ≤ i ∧ i < texts1_l) ∧
            ∃ (cw2 : List Value) (m31 : ByteArray), blkW w0 texts1_pb = some cw2 ∧ cw2[(texts1_po + (Int.toNat i))]? = some (.string m31) ∧
            (0 ≤ (0 : Int) ∧ (0 : Int) ≤ (if (100 : Int) < (m31.size : Int) then (100 : Int) else (m31.size : Int)) ∧ (if (100 : Int) < (m31.size : Int) then (100 : Int) else (m31.size : Int)) ≤ m21.size) ∧
            ∃ (r51 : ByteArray) (r61 : Int), (QCall Tryd.prog 19 ⟨[.string (m21.extract 0 (Int.toNat (if (100 : Int) < (m31.size : Int) then (100 : Int) else (m31.size : Int))))]⟩ [] [] w0 (.tuple #[.string r51, .int .i64 r61])) ∧
            ((¬ (r41 = (0 : Int))) →
              Fin R [] [] w0 (.bool false)) ∧
             ((r41 = (0 : Int)) →
              ((¬ (r61 = (0 : Int))) →
                Fin R [] [] w0 (.bool false)) ∧
               ((r61 = (0 : Int)) →
                (s.size + r31.size ≤ 9223372036854775807) ∧
                ((s ++ r31).size + r51.size ≤ 9223372036854775807) ∧
                ∀ s1 : ByteArray, s1 = ((s ++ r31) ++ r51) →
                ∀ i1 : Int, i1 = (IntKind.i64.wrap (i + (1 : Int))) →
                Sequence_c0 (some ⟨l1_pb, l1_po, none⟩) l1_l l1_c (some ⟨texts1_pb, texts1_po, none⟩) texts1_l texts1_c ok n1 s1 i1 w0 R))))) ∧
       ((¬ (i < n1)) →
        Sequence_c1 l1_p l1_l l1_c texts1_p texts1_l texts1_c ok n1 s (0 : Int) (0 : Int) w0 R)) :
    Sequence_c0 l1_p l1_l l1_c texts1_p texts1_l texts1_c ok n1 s i w0 R := by
  unfold Sequence_c0
  refine AtE.run 7 (fun W => by kernel_rfl) ?_
  refine AtE.splitP 32 (p := i < n1) (by kernel_rfl) (fun h1' => ?_) (fun h1' => ?_)
  · replace H := H.1 h1'
    refine AtE.run 8 (fun W => by kernel_rfl) ?_
    obtain ⟨l1_pb, l1_po, rfl, H⟩ := H
    refine AtE.indexAddrL (E := 3) (b := l1_pb) (o := l1_po) (len := l1_l) (cap := l1_c) (sz := 1) (o' := (l1_po + (Int.toNat i))) (kd := .i64) (i := i) (by kernel_rfl) H.1 (by omega) ?_
    replace H := H.2
    obtain ⟨cw, m1, hw, hx, H⟩ := H
    refine AtE.loadW (b := l1_pb) (off := (l1_po + (Int.toNat i))) (T := 3) (v := .int .i64 m1) (by kernel_rfl) List.not_mem_nil hw (valAt_one hx (by kernel_rfl)) ?_
    refine AtE.call 11 ⟨[.int .i64 m1]⟩ (fun W => by kernel_rfl) (by kernel_rfl) H ?_
    clear H
    rintro _ _ ⟨r21, rfl, rfl, H⟩
    refine AtE.call 12 ⟨[.int .i64 r21]⟩ (fun W => by kernel_rfl) (by kernel_rfl) H ?_
    clear H
    rintro _ _ ⟨r31, r41, rfl, rfl, H⟩
    refine AtE.run 7 (fun W => by kernel_rfl) ?_
    refine AtE.draw 17 (by kernel_rfl) ?_
    refine AtQ.pure (by kernel_rfl) (fun W => by kernel_rfl) ?_
    refine AtQ.pure (by kernel_rfl) (fun W => by kernel_rfl) ?_
    obtain ⟨texts1_pb, texts1_po, rfl, H⟩ := H
    refine AtQ.indexAddrL (E := 9) (b := texts1_pb) (o := texts1_po) (len := texts1_l) (cap := texts1_c) (sz := 1) (o' := (texts1_po + (Int.toNat i))) (kd := .i64) (i := i) (by kernel_rfl) H.1 (by omega) ?_
    replace H := H.2
    obtain ⟨cw1, m21, hw, hx, H⟩ := H
    refine AtQ.loadW (b := texts1_pb) (off := (texts1_po + (Int.toNat i))) (T := 9) (v := .string m21) (by kernel_rfl) List.not_mem_nil hw (valAt_one hx (by kernel_rfl)) ?_
    refine AtQ.pure (by kernel_rfl) (fun W => by kernel_rfl) ?_
    refine AtQ.pure (by kernel_rfl) (fun W => by kernel_rfl) ?_
    refine AtQ.indexAddrL (E := 9) (b := texts1_pb) (o := texts1_po) (len := texts1_l) (cap := texts1_c) (sz := 1) (o' := (texts1_po + (Int.toNat i))) (kd := .i64) (i := i) (by kernel_rfl) H.1 (by omega) ?_
    replace H := H.2
    obtain ⟨cw2, m31, hw, hx, H⟩ := H
    refine AtQ.loadW (b := texts1_pb) (off := (texts1_po + (Int.toNat i))) (T := 9) (v := .string m31) (by kernel_rfl) List.not_mem_nil hw (valAt_one hx (by kernel_rfl)) ?_
    refine AtQ.pure (by kernel_rfl) (fun W => by kernel_rfl) ?_
    refine AtQ.pure (by kernel_rfl) (fun W => by kernel_rfl) ?_
    refine AtQ.sliceS (s := m21) (lo := none) (hi := some (.int .i64 (if (100 : Int) < (m31.size : Int) then (100 : Int) else (m31.size : Int)))) (a := (0 : Int)) (b := (if (100 : Int) < (m31.size : Int) then (100 : Int) else (m31.size : Int))) (by kernel_rfl) (.inr ⟨rfl, rfl⟩) (.inl ⟨.i64, rfl⟩) H.1 ?_
    replace H := H.2
    obtain ⟨r51, r61, hq, H⟩ := H
    refine AtQ.call 19 ⟨[.string (m21.extract 0 (Int.toNat (if (100 : Int) < (m31.size : Int) then (100 : Int) else (m31.size : Int))))]⟩ (fun W => by kernel_rfl) (by kernel_rfl) hq ?_
    refine AtQ.pure (by kernel_rfl) (fun W => by kernel_rfl) ?_
    refine AtQ.pure (by kernel_rfl) (fun W => by kernel_rfl) ?_
    refine AtQ.pure (by kernel_rfl) (fun W => by kernel_rfl) ?_
    refine AtQ.pure (by kernel_rfl) (fun W => by kernel_rfl) ?_
    refine AtQ.pure (by kernel_rfl) (fun W => by kernel_rfl) ?_
    refine AtQ.done (by kernel_rfl) ?_
    refine AtE.run 7 (fun W => by kernel_rfl) ?_
    refine AtE.splitN 61 (p := r41 = (0 : Int)) (by kernel_rfl) (fun h2' => ?_) (fun h2' => ?_)
    · replace H := H.1 h2'
      refine AtE.run 9 (fun W => by kernel_rfl) ?_
      exact AtE.ret Tryd.func6 (by kernel_rfl) H
    · replace H := H.2 h2'
      refine AtE.run 4 (fun W => by kernel_rfl) ?_
      refine AtE.splitN 64 (p := r61 = (0 : Int)) (by kernel_rfl) (fun h3' => ?_) (fun h3' => ?_)
      · replace H := H.1 h3'
        refine AtE.run 5 (fun W => by kernel_rfl) ?_
        exact AtE.ret Tryd.func6 (by kernel_rfl) H
      · replace H := H.2 h3'
        refine AtE.run 5 (fun W => by kernel_rfl) ?_
        refine AtE.concat (x := s) (y := r31) (by kernel_rfl) H.1 ?_
        replace H := H.2
        refine AtE.run 1 (fun W => by kernel_rfl) ?_
        refine AtE.concat (x := (s ++ r31)) (y := r51) (by kernel_rfl) H.1 ?_
        replace H := H.2
        refine AtE.run 1 (fun W => by kernel_rfl) ?_
        refine AtE.letS 7 (n := ((s ++ r31) ++ r51)) (by kernel_rfl) (fun s1 hs1 => ?_)
        replace H := H s1 hs1
        refine AtE.run 6 (fun W => by kernel_rfl) ?_
        refine AtE.letI 8 (kd := .i64) (n := (IntKind.i64.wrap (i + (1 : Int)))) (by kernel_rfl) (fun i1 hi1 => ?_)
        replace H := H i1 hi1
        refine AtE.run 2 (fun W => by kernel_rfl) ?_
        exact AtE.cut [] H (by kernel_rfl)
  · replace H := H.2 h1'
    refine AtE.run 13 (fun W => by kernel_rfl) ?_
    exact AtE.cut [] H (by kernel_rfl)

theorem Sequence_c1_vc (l2_p : Option Addr) (l2_l : Nat) (l2_c : Nat) (texts2_p : Option Addr) (texts2_l : Nat) (texts2_c : Nat) (ok1 : Bool) (n2 : Int) (s2 : ByteArray) (atv : Int) (i2 : Int) {R : Ending → World → Prop} {w0 : World}
    (H :
      ((i2 < n2) →
        CallH Tryd.prog 15 ⟨[.string s2, .int .i64 atv]⟩ [] [] w0 (fun v L' => ∃ (r71 : Int) (r81 : Int) (r91 : Int), v = (.tuple #[.int .i64 r71, .int .i64 r81, .int .i64 r91]) ∧ L' = [] ∧
          CallH Tryd.prog 17 ⟨[.string s2, .int .i64 r81]⟩ [] [] w0 (fun v L' => ∃ (r101 : ByteArray) (r111 : Int) (r121 : Int), v = (.tuple #[.string r101, .int .i64 r111, .int .i64 r121]) ∧ L' = [] ∧
            ((¬ (r91 = (0 : Int))) →
              Fin R [] [] w0 (.bool false)) ∧
             ((r91 = (0 : Int)) →
              ((¬ (r121 = (0 : Int))) →
                Fin R [] [] w0 (.bool false)) ∧
               ((r121 = (0 : Int)) →
                ∃ l2_pb l2_po : Nat, l2_p = some ⟨l2_pb, l2_po, none⟩ ∧
                (0 ≤ i2 ∧ i2 < l2_l) ∧
                ∃ (cw3 : List Value) (m41 : Int), blkW w0 l2_pb = some cw3 ∧ cw3[(l2_po + (Int.toNat i2))]? = some (.int .i64 m41) ∧
                ∃ (r131 : Int), (QCall Tryd.prog 11 ⟨[.int .i64 m41]⟩ [] [] w0 (.int .i64 r131)) ∧
                ((¬ (r71 = r131)) →
                  Fin R [] [] w0 (.bool false)) ∧
                 ((r71 = r131) →
                  ∃ texts2_pb texts2_po : Nat, texts2_p = some ⟨texts2_pb, texts2_po, none⟩ ∧
                  (0 ≤ i2 ∧ i2 < texts2_l) ∧
                  ∃ (cw4 : List Value) (m51 : ByteArray), blkW w0 texts2_pb = some cw4 ∧ cw4[(texts2_po + (Int.toNat i2))]? = some (.string m51) ∧
                  (0 ≤ i2 ∧ i2 < texts2_l) ∧
                  ∃ (cw5 : List Value) (m61 : ByteArray), blkW w0 texts2_pb = some cw5 ∧ cw5[(texts2_po + (Int.toNat i2))]? = some (.string m61) ∧
                  (0 ≤ (0 : Int) ∧ (0 : Int) ≤ (if (100 : Int) < (m61.size : Int) then (100 : Int) else (m61.size : Int)) ∧ (if (100 : Int) < (m61.size : Int) then (100 : Int) else (m61.size : Int)) ≤ m51.size) ∧
                  ((¬ r101 = (m51.extract 0 (Int.toNat (if (100 : Int) < (m61.size : Int) then (100 : Int) else (m61.size : Int))))) →
                    Fin R [] [] w0 (.bool false)) ∧
                   ((r101 = (m51.extract 0 (Int.toNat (if (100 : Int) < (m61.size : Int) then (100 : Int) else (m61.size : Int))))) →
                    ∀ i3 : Int, i3 = (IntKind.i64.wrap (i2 + (1 : Int))) →
                    Sequence_c1 (some ⟨l2_pb, l2_po, none⟩) l2_l l2_c (some ⟨texts2_pb, texts2_po, none⟩) texts2_l texts2_c ok1 n2 s2 r111 i3 w0 R))))))) ∧
       ((¬ (i2 < n2)) →
        CallH Tryd.prog 15 ⟨[.string s2, .int .i64 atv]⟩ [] [] w0 (fun v L' => ∃ (r141 : Int) (r151 : Int) (r161 : Int), v = (.tuple #[.int .i64 r141, .int .i64 r151, .int .i64 r161]) ∧ L' = [] ∧
          ((ok1 = true) →
            ((atv = (s2.size : Int)) →
              Fin R [] [] w0 (.bool (decide (r161 = (10 : Int))))) ∧
             ((¬ (atv = (s2.size : Int))) →
              Fin R [] [] w0 (.bool false))) ∧
           ((ok1 = false) →
            Fin R [] [] w0 (.bool false))))) :
    Sequence_c1 l2_p l2_l l2_c texts2_p texts2_l texts2_c ok1 n2 s2 atv i2 w0 R := by
  unfold Sequence_c1
  refine AtE.run 7 (fun W => by kernel_rfl) ?_
  refine AtE.splitP 72 (p := i2 < n2) (by kernel_rfl) (fun h4' => ?_) (fun h4' => ?_)
  · replace H := H.1 h4'
    refine AtE.run 8 (fun W => by kernel_rfl) ?_
    refine AtE.call 15 ⟨[.string s2, .int .i64 atv]⟩ (fun W => by kernel_rfl) (by kernel_rfl) H ?_
    clear H
    rintro _ _ ⟨r71, r81, r91, rfl, rfl, H⟩
    refine AtE.run 12 (fun W => by kernel_rfl) ?_
    refine AtE.call 17 ⟨[.string s2, .int .i64 r81]⟩ (fun W => by kernel_rfl) (by kernel_rfl) H ?_
    clear H
    rintro _ _ ⟨r101, r111, r121, rfl, rfl, H⟩
    refine AtE.run 10 (fun W => by kernel_rfl) ?_
    refine AtE.draw 30 (by kernel_rfl) ?_
    refine AtQ.pure (by kernel_rfl) (fun W => by kernel_rfl) ?_
    refine AtQ.pure (by kernel_rfl) (fun W => by kernel_rfl) ?_
    refine AtQ.pure (by kernel_rfl) (fun W => by kernel_rfl) ?_
    refine AtQ.splitN 91 (p := r91 = (0 : Int)) (by kernel_rfl) (fun h5' => ?_) (fun h5' => ?_)
    · replace H := H.1 h5'
      refine AtQ.skip (by kernel_rfl) ?_
      refine AtQ.skip (by kernel_rfl) ?_
      refine AtQ.pure (by kernel_rfl) (fun W => by kernel_rfl) ?_
      refine AtQ.pure (by kernel_rfl) (fun W => by kernel_rfl) ?_
      refine AtQ.skip (by kernel_rfl) ?_
      refine AtQ.skip (by kernel_rfl) ?_
      refine AtQ.skip (by kernel_rfl) ?_
      refine AtQ.skip (by kernel_rfl) ?_
      refine AtQ.skip (by kernel_rfl) ?_
      refine AtQ.skip (by kernel_rfl) ?_
      refine AtQ.skip (by kernel_rfl) ?_
      refine AtQ.pure (by kernel_rfl) (fun W => by kernel_rfl) ?_
      refine AtQ.pure (by kernel_rfl) (fun W => by kernel_rfl) ?_
      refine AtQ.skip (by kernel_rfl) ?_
      refine AtQ.skip (by kernel_rfl) ?_
      refine AtQ.skip (by kernel_rfl) ?_
      refine AtQ.skip (by kernel_rfl) ?_
      refine AtQ.skip (by kernel_rfl) ?_
      refine AtQ.skip (by kernel_rfl) ?_
      refine AtQ.skip (by kernel_rfl) ?_
      refine AtQ.skip (by kernel_rfl) ?_
      refine AtQ.skip (by kernel_rfl) ?_
      refine AtQ.skip (by kernel_rfl) ?_
      refine AtQ.skip (by kernel_rfl) ?_
      refine AtQ.skip (by kernel_rfl) ?_
      refine AtQ.skip (by kernel_rfl) ?_
      refine AtQ.pure (by kernel_rfl) (fun W => by kernel_rfl) ?_
      refine AtQ.done (by kernel_rfl) ?_
      refine AtE.run 6 (fun W => by kernel_rfl) ?_
      exact AtE.ret Tryd.func6 (by kernel_rfl) H
    · replace H := H.2 h5'
      refine AtQ.pure (by kernel_rfl) (fun W => by kernel_rfl) ?_
      refine AtQ.pure (by kernel_rfl) (fun W => by kernel_rfl) ?_
      refine AtQ.pure (by kernel_rfl) (fun W => by kernel_rfl) ?_
      refine AtQ.pure (by kernel_rfl) (fun W => by kernel_rfl) ?_
      refine AtQ.splitN 95 (p := r121 = (0 : Int)) (by kernel_rfl) (fun h6' => ?_) (fun h6' => ?_)
      · replace H := H.1 h6'
        refine AtQ.skip (by kernel_rfl) ?_
        refine AtQ.skip (by kernel_rfl) ?_
        refine AtQ.skip (by kernel_rfl) ?_
        refine AtQ.skip (by kernel_rfl) ?_
        refine AtQ.skip (by kernel_rfl) ?_
        refine AtQ.skip (by kernel_rfl) ?_
        refine AtQ.skip (by kernel_rfl) ?_
        refine AtQ.pure (by kernel_rfl) (fun W => by kernel_rfl) ?_
        refine AtQ.pure (by kernel_rfl) (fun W => by kernel_rfl) ?_
        refine AtQ.skip (by kernel_rfl) ?_
        refine AtQ.skip (by kernel_rfl) ?_
        refine AtQ.skip (by kernel_rfl) ?_
        refine AtQ.skip (by kernel_rfl) ?_
        refine AtQ.skip (by kernel_rfl) ?_
        refine AtQ.skip (by kernel_rfl) ?_
        refine AtQ.skip (by kernel_rfl) ?_
        refine AtQ.skip (by kernel_rfl) ?_
        refine AtQ.skip (by kernel_rfl) ?_
        refine AtQ.skip (by kernel_rfl) ?_
        refine AtQ.skip (by kernel_rfl) ?_
        refine AtQ.skip (by kernel_rfl) ?_
        refine AtQ.skip (by kernel_rfl) ?_
        refine AtQ.pure (by kernel_rfl) (fun W => by kernel_rfl) ?_
        refine AtQ.done (by kernel_rfl) ?_
        refine AtE.run 6 (fun W => by kernel_rfl) ?_
        exact AtE.ret Tryd.func6 (by kernel_rfl) H
      · replace H := H.2 h6'
        refine AtQ.pure (by kernel_rfl) (fun W => by kernel_rfl) ?_
        refine AtQ.pure (by kernel_rfl) (fun W => by kernel_rfl) ?_
        refine AtQ.pure (by kernel_rfl) (fun W => by kernel_rfl) ?_
        obtain ⟨l2_pb, l2_po, rfl, H⟩ := H
        refine AtQ.indexAddrL (E := 3) (b := l2_pb) (o := l2_po) (len := l2_l) (cap := l2_c) (sz := 1) (o' := (l2_po + (Int.toNat i2))) (kd := .i64) (i := i2) (by kernel_rfl) H.1 (by omega) ?_
        replace H := H.2
        obtain ⟨cw3, m41, hw, hx, H⟩ := H
        refine AtQ.loadW (b := l2_pb) (off := (l2_po + (Int.toNat i2))) (T := 3) (v := .int .i64 m41) (by kernel_rfl) List.not_mem_nil hw (valAt_one hx (by kernel_rfl)) ?_
        obtain ⟨r131, hq, H⟩ := H
        refine AtQ.call 11 ⟨[.int .i64 m41]⟩ (fun W => by kernel_rfl) (by kernel_rfl) hq ?_
        refine AtQ.pure (by kernel_rfl) (fun W => by kernel_rfl) ?_
        refine AtQ.pure (by kernel_rfl) (fun W => by kernel_rfl) ?_
        refine AtQ.pure (by kernel_rfl) (fun W => by kernel_rfl) ?_
        refine AtQ.splitN 104 (p := r71 = r131) (by kernel_rfl) (fun h7' => ?_) (fun h7' => ?_)
        · replace H := H.1 h7'
          refine AtQ.skip (by kernel_rfl) ?_
          refine AtQ.skip (by kernel_rfl) ?_
          refine AtQ.skip (by kernel_rfl) ?_
          refine AtQ.skip (by kernel_rfl) ?_
          refine AtQ.skip (by kernel_rfl) ?_
          refine AtQ.skip (by kernel_rfl) ?_
          refine AtQ.skip (by kernel_rfl) ?_
          refine AtQ.skip (by kernel_rfl) ?_
          refine AtQ.skip (by kernel_rfl) ?_
          refine AtQ.skip (by kernel_rfl) ?_
          refine AtQ.skip (by kernel_rfl) ?_
          refine AtQ.skip (by kernel_rfl) ?_
          refine AtQ.skip (by kernel_rfl) ?_
          refine AtQ.pure (by kernel_rfl) (fun W => by kernel_rfl) ?_
          refine AtQ.done (by kernel_rfl) ?_
          refine AtE.run 6 (fun W => by kernel_rfl) ?_
          exact AtE.ret Tryd.func6 (by kernel_rfl) H
        · replace H := H.2 h7'
          refine AtQ.pure (by kernel_rfl) (fun W => by kernel_rfl) ?_
          refine AtQ.pure (by kernel_rfl) (fun W => by kernel_rfl) ?_
          refine AtQ.pure (by kernel_rfl) (fun W => by kernel_rfl) ?_
          obtain ⟨texts2_pb, texts2_po, rfl, H⟩ := H
          refine AtQ.indexAddrL (E := 9) (b := texts2_pb) (o := texts2_po) (len := texts2_l) (cap := texts2_c) (sz := 1) (o' := (texts2_po + (Int.toNat i2))) (kd := .i64) (i := i2) (by kernel_rfl) H.1 (by omega) ?_
          replace H := H.2
          obtain ⟨cw4, m51, hw, hx, H⟩ := H
          refine AtQ.loadW (b := texts2_pb) (off := (texts2_po + (Int.toNat i2))) (T := 9) (v := .string m51) (by kernel_rfl) List.not_mem_nil hw (valAt_one hx (by kernel_rfl)) ?_
          refine AtQ.pure (by kernel_rfl) (fun W => by kernel_rfl) ?_
          refine AtQ.pure (by kernel_rfl) (fun W => by kernel_rfl) ?_
          refine AtQ.indexAddrL (E := 9) (b := texts2_pb) (o := texts2_po) (len := texts2_l) (cap := texts2_c) (sz := 1) (o' := (texts2_po + (Int.toNat i2))) (kd := .i64) (i := i2) (by kernel_rfl) H.1 (by omega) ?_
          replace H := H.2
          obtain ⟨cw5, m61, hw, hx, H⟩ := H
          refine AtQ.loadW (b := texts2_pb) (off := (texts2_po + (Int.toNat i2))) (T := 9) (v := .string m61) (by kernel_rfl) List.not_mem_nil hw (valAt_one hx (by kernel_rfl)) ?_
          refine AtQ.pure (by kernel_rfl) (fun W => by kernel_rfl) ?_
          refine AtQ.pure (by kernel_rfl) (fun W => by kernel_rfl) ?_
          refine AtQ.sliceS (s := m51) (lo := none) (hi := some (.int .i64 (if (100 : Int) < (m61.size : Int) then (100 : Int) else (m61.size : Int)))) (a := (0 : Int)) (b := (if (100 : Int) < (m61.size : Int) then (100 : Int) else (m61.size : Int))) (by kernel_rfl) (.inr ⟨rfl, rfl⟩) (.inl ⟨.i64, rfl⟩) H.1 ?_
          replace H := H.2
          refine AtQ.pure (by kernel_rfl) (fun W => by kernel_rfl) ?_
          refine AtQ.pure (by kernel_rfl) (fun W => by kernel_rfl) ?_
          refine AtQ.done (by kernel_rfl) ?_
          refine AtE.run 1 (fun W => by kernel_rfl) ?_
          refine AtE.splitT 118 (x := r101) (y := (m51.extract 0 (Int.toNat (if (100 : Int) < (m61.size : Int) then (100 : Int) else (m61.size : Int))))) (by kernel_rfl) (fun h8' => ?_) (fun h8' => ?_)
          · replace H := H.1 h8'
            refine AtE.run 5 (fun W => by kernel_rfl) ?_
            exact AtE.ret Tryd.func6 (by kernel_rfl) H
          · replace H := H.2 h8'
            refine AtE.run 11 (fun W => by kernel_rfl) ?_
            refine AtE.letI 14 (kd := .i64) (n := (IntKind.i64.wrap (i2 + (1 : Int)))) (by kernel_rfl) (fun i3 hi3 => ?_)
            replace H := H i3 hi3
            refine AtE.run 2 (fun W => by kernel_rfl) ?_
            exact AtE.cut [] H (by kernel_rfl)
  · replace H := H.2 h4'
    refine AtE.run 6 (fun W => by kernel_rfl) ?_
    refine AtE.call 15 ⟨[.string s2, .int .i64 atv]⟩ (fun W => by kernel_rfl) (by kernel_rfl) H ?_
    clear H
    rintro _ _ ⟨r141, r151, r161, rfl, rfl, H⟩
    refine AtE.run 12 (fun W => by kernel_rfl) ?_
    refine AtE.split 128 (b := ok1) (by kernel_rfl) (fun h9' => ?_) (fun h9' => ?_)
    · replace H := H.1 h9'
      refine AtE.run 6 (fun W => by kernel_rfl) ?_
      refine AtE.splitP 134 (p := atv = (s2.size : Int)) (by kernel_rfl) (fun h10' => ?_) (fun h10' => ?_)
      · replace H := H.1 h10'
        refine AtE.run 5 (fun W => by kernel_rfl) ?_
        exact AtE.ret Tryd.func6 (by kernel_rfl) H
      · replace H := H.2 h10'
        refine AtE.run 5 (fun W => by kernel_rfl) ?_
        exact AtE.ret Tryd.func6 (by kernel_rfl) H
    · replace H := H.2 h9'
      refine AtE.run 11 (fun W => by kernel_rfl) ?_
      exact AtE.ret Tryd.func6 (by kernel_rfl) H

theorem Sequence_vc (l_p : Option Addr) (l_l : Nat) (l_c : Nat) (texts_p : Option Addr) (texts_l : Nat) (texts_c : Nat) {R : Ending → World → Prop} {w0 W : World} (hm : Mem [] [] w0 W)
    (H :
      CallH Tryd.prog 10 ⟨[]⟩ [] [] w0 (fun v L' => ∃ (r1 : Bool), v = (.bool r1) ∧ L' = [] ∧
        ∀ n : Int, n = (if (20 : Int) < (if (texts_l : Int) < (l_l : Int) then (texts_l : Int) else (l_l : Int)) then (20 : Int) else (if (texts_l : Int) < (l_l : Int) then (texts_l : Int) else (l_l : Int))) →
        Sequence_c0 l_p l_l l_c texts_p texts_l texts_c r1 n (⟨#[]⟩) (0 : Int) w0 R)) :
    Calls Tryd.prog 6 ⟨[.slice l_p l_l l_c, .slice texts_p texts_l texts_c]⟩ W R := by
  refine AtE.calls (nt := 138) Tryd.func6 (by kernel_rfl) hm ?_
  refine AtE.run 6 (fun W => by kernel_rfl) ?_
  refine AtE.call 10 ⟨[]⟩ (fun W => by kernel_rfl) (by kernel_rfl) H ?_
  clear H
  rintro _ _ ⟨r1, rfl, rfl, H⟩
  refine AtE.run 10 (fun W => by kernel_rfl) ?_
  refine AtE.letI 6 (kd := .i64) (n := (if (20 : Int) < (if (texts_l : Int) < (l_l : Int) then (texts_l : Int) else (l_l : Int)) then (20 : Int) else (if (texts_l : Int) < (l_l : Int) then (texts_l : Int) else (l_l : Int)))) (by kernel_rfl) (fun n hn => ?_)
  replace H := H n hn
  refine AtE.run 12 (fun W => by kernel_rfl) ?_
  exact AtE.cut [] H (by kernel_rfl)

end Go.Eng
