/- Verification conditions of the functions, written by a program of the prover, checked here. -/
import Derived.Test.YtegbijkbkjancaaDoorEngAny

import Derived.Test.YtegbijkbkjancaaDoorChecked

namespace Go.Eng

open Go Go.RowKit Go.Proofs

set_option linter.unusedVariables false

set_option maxRecDepth 100000

def Unique_c0 (B2 : Nat) (ok : Bool) (t : ByteArray) (t36_l : Nat) (t36_c : Nat) (t37 : Int) (t38 : Int) (m0 : Int) (m1 : Int) (w0 : World) (R : Ending → World → Prop) : Prop :=
  AtE Tryd.prog 5 150 [.code (sub (Eng.body Tryd.f5) [1, 1, 1, 0, 1, 0, 0]), .inLoop (sub (Eng.body Tryd.f5) [1, 1, 1, 0, 1, 0, 0]), .inBlock 0, .code (sub (Eng.body Tryd.f5) [1, 1, 1, 1])] [(7, .bool ok), (8, .string t), (36, .slice (some ⟨B2, 0, none⟩) t36_l t36_c), (37, .int .i64 t37), (38, .int .i64 t38)] [(B2, .cells #[.int .i64 m0, .int .i64 m1] 3)] [] w0 R

def Unique_c1 (B3 : Nat) (ok1 : Bool) (t1 : ByteArray) (kv : Int) (t361_l : Nat) (t361_c : Nat) (t371 : Int) (t381 : Int) (m01 : Int) (m11 : Int) (w0 : World) (R : Ending → World → Prop) : Prop :=
  AtE Tryd.prog 5 150 [.code (sub (Eng.body Tryd.f5) [1, 1, 1, 0, 1, 0, 0, 1, 1, 0, 0, 1, 1, 1, 1]), .inBlock 1, .code (sub (Eng.body Tryd.f5) [1, 1, 1, 0, 1, 0, 0, 1, 1, 1]), .inLoop (sub (Eng.body Tryd.f5) [1, 1, 1, 0, 1, 0, 0]), .inBlock 0, .code (sub (Eng.body Tryd.f5) [1, 1, 1, 1])] [(7, .bool ok1), (8, .string t1), (10, .int .i64 kv), (36, .slice (some ⟨B3, 0, none⟩) t361_l t361_c), (37, .int .i64 t371), (38, .int .i64 t381)] [(B3, .cells #[.int .i64 m01, .int .i64 m11] 3)] [] w0 R

def Unique_c2 (B4 : Nat) (ok2 : Bool) (t2 : ByteArray) (t362_l : Nat) (t362_c : Nat) (t372 : Int) (t382 : Int) (m02 : Int) (m12 : Int) (w0 : World) (R : Ending → World → Prop) : Prop :=
  AtE Tryd.prog 5 150 [.code (sub (Eng.body Tryd.f5) [1, 1, 1, 0, 1, 0, 0, 1, 1, 1]), .inLoop (sub (Eng.body Tryd.f5) [1, 1, 1, 0, 1, 0, 0]), .inBlock 0, .code (sub (Eng.body Tryd.f5) [1, 1, 1, 1])] [(7, .bool ok2), (8, .string t2), (36, .slice (some ⟨B4, 0, none⟩) t362_l t362_c), (37, .int .i64 t372), (38, .int .i64 t382)] [(B4, .cells #[.int .i64 m02, .int .i64 m12] 3)] [] w0 R

theorem Unique_c0_vc (B2 : Nat) (ok : Bool) (t : ByteArray) (t36_l : Nat) (t36_c : Nat) (t37 : Int) (t38 : Int) (m0 : Int) (m1 : Int) {R : Ending → World → Prop} {w0 : World}
    (H :
      ((t38 < t37) →
        (0 ≤ t38 ∧ t38 < t36_l) ∧
        ∃ (m2 : Int), (([.int .i64 m0, .int .i64 m1] : List Value))[(Int.toNat t38)]? = some (.int .i64 m2) ∧
        CallH Tryd.prog 15 ⟨[.string t, .int .i64 m2]⟩ [(B2, .cells #[.int .i64 m0, .int .i64 m1] 3)] [] w0 (fun v L' => ∃ (r31 : Int) (r41 : Int) (r51 : Int), v = (.tuple #[.int .i64 r31, .int .i64 r41, .int .i64 r51]) ∧ L' = [(B2, .cells #[.int .i64 m0, .int .i64 m1] 3)] ∧
          CallH Tryd.prog 12 ⟨[.int .i64 r31]⟩ [(B2, .cells #[.int .i64 m0, .int .i64 m1] 3)] [] w0 (fun v L' => ∃ (r61 : ByteArray) (r71 : Int), v = (.tuple #[.string r61, .int .i64 r71]) ∧ L' = [(B2, .cells #[.int .i64 m0, .int .i64 m1] 3)] ∧
            ((r51 = (0 : Int)) →
              ((¬ (r71 = (0 : Int))) →
                Fin R [(B2, .cells #[.int .i64 m0, .int .i64 m1] 3)] [] w0 (.bool false)) ∧
               ((r71 = (0 : Int)) →
                ((r41 < m2) →
                  Fin R [(B2, .cells #[.int .i64 m0, .int .i64 m1] 3)] [] w0 (.bool false)) ∧
                 ((¬ (r41 < m2)) →
                  (((t.size : Int) < r41) →
                    Fin R [(B2, .cells #[.int .i64 m0, .int .i64 m1] 3)] [] w0 (.bool false)) ∧
                   ((¬ ((t.size : Int) < r41)) →
                    (0 ≤ m2 ∧ m2 ≤ r41 ∧ r41 ≤ t.size) ∧
                    ((¬ (t.extract (Int.toNat m2) (Int.toNat r41)) = r61) →
                      Fin R [(B2, .cells #[.int .i64 m0, .int .i64 m1] 3)] [] w0 (.bool false)) ∧
                     (((t.extract (Int.toNat m2) (Int.toNat r41)) = r61) →
                      Unique_c1 B2 ok t m2 t36_l t36_c t37 t38 m0 m1 w0 R))))) ∧
             ((¬ (r51 = (0 : Int))) →
              ((¬ (r51 = (10 : Int))) →
                Fin R [(B2, .cells #[.int .i64 m0, .int .i64 m1] 3)] [] w0 (.bool false)) ∧
               ((r51 = (10 : Int)) →
                ((¬ (r31 = (0 : Int))) →
                  Fin R [(B2, .cells #[.int .i64 m0, .int .i64 m1] 3)] [] w0 (.bool false)) ∧
                 ((r31 = (0 : Int)) →
                  ((¬ (r41 = (0 : Int))) →
                    Fin R [(B2, .cells #[.int .i64 m0, .int .i64 m1] 3)] [] w0 (.bool false)) ∧
                   ((r41 = (0 : Int)) →
                    Unique_c1 B2 ok t m2 t36_l t36_c t37 t38 m0 m1 w0 R))))))) ∧
       ((¬ (t38 < t37)) →
        Fin R [(B2, .cells #[.int .i64 m0, .int .i64 m1] 3)] [] w0 (.bool ok))) :
    Unique_c0 B2 ok t t36_l t36_c t37 t38 m0 m1 w0 R := by
  unfold Unique_c0
  refine AtE.run 5 (fun W => by kernel_rfl) ?_
  refine AtE.splitP 39 (p := t38 < t37) (by kernel_rfl) (fun h1' => ?_) (fun h1' => ?_)
  · replace H := H.1 h1'
    refine AtE.run 6 (fun W => by kernel_rfl) ?_
    refine AtE.indexAddrL (E := 3) (b := B2) (o := 0) (len := t36_l) (cap := t36_c) (sz := 1) (o' := (Int.toNat t38)) (kd := .i64) (i := t38) (by kernel_rfl) H.1 (by omega) ?_
    replace H := H.2
    obtain ⟨m2, hx, H⟩ := H
    refine AtE.loadS 0 (off := (Int.toNat t38)) (T := 3) (v := .int .i64 m2) (by kernel_rfl) (valAt_one hx (by kernel_rfl)) ?_
    refine AtE.run 6 (fun W => by kernel_rfl) ?_
    refine AtE.call 15 ⟨[.string t, .int .i64 m2]⟩ (fun W => by kernel_rfl) (by kernel_rfl) H ?_
    clear H
    rintro _ _ ⟨r31, r41, r51, rfl, rfl, H⟩
    refine AtE.run 11 (fun W => by kernel_rfl) ?_
    refine AtE.call 12 ⟨[.int .i64 r31]⟩ (fun W => by kernel_rfl) (by kernel_rfl) H ?_
    clear H
    rintro _ _ ⟨r61, r71, rfl, rfl, H⟩
    refine AtE.run 12 (fun W => by kernel_rfl) ?_
    refine AtE.splitP 56 (p := r51 = (0 : Int)) (by kernel_rfl) (fun h2' => ?_) (fun h2' => ?_)
    · replace H := H.1 h2'
      refine AtE.run 3 (fun W => by kernel_rfl) ?_
      refine AtE.splitN 59 (p := r71 = (0 : Int)) (by kernel_rfl) (fun h3' => ?_) (fun h3' => ?_)
      · replace H := H.1 h3'
        refine AtE.run 41 (fun W => by kernel_rfl) ?_
        exact AtE.ret Tryd.func5 (by kernel_rfl) H
      · replace H := H.2 h3'
        refine AtE.run 5 (fun W => by kernel_rfl) ?_
        refine AtE.splitP 64 (p := r41 < m2) (by kernel_rfl) (fun h4' => ?_) (fun h4' => ?_)
        · replace H := H.1 h4'
          refine AtE.run 36 (fun W => by kernel_rfl) ?_
          exact AtE.ret Tryd.func5 (by kernel_rfl) H
        · replace H := H.2 h4'
          refine AtE.run 6 (fun W => by kernel_rfl) ?_
          refine AtE.splitP 70 (p := (t.size : Int) < r41) (by kernel_rfl) (fun h5' => ?_) (fun h5' => ?_)
          · replace H := H.1 h5'
            refine AtE.run 30 (fun W => by kernel_rfl) ?_
            exact AtE.ret Tryd.func5 (by kernel_rfl) H
          · replace H := H.2 h5'
            refine AtE.run 3 (fun W => by kernel_rfl) ?_
            refine AtE.sliceS (s := t) (lo := some (.int .i64 m2)) (hi := some (.int .i64 r41)) (a := m2) (b := r41) (by kernel_rfl) (.inl ⟨.i64, rfl⟩) (.inl ⟨.i64, rfl⟩) H.1 ?_
            replace H := H.2
            refine AtE.run 5 (fun W => by kernel_rfl) ?_
            refine AtE.splitT 79 (x := (t.extract (Int.toNat m2) (Int.toNat r41))) (y := r61) (by kernel_rfl) (fun h6' => ?_) (fun h6' => ?_)
            · replace H := H.1 h6'
              refine AtE.run 21 (fun W => by kernel_rfl) ?_
              exact AtE.ret Tryd.func5 (by kernel_rfl) H
            · replace H := H.2 h6'
              refine AtE.run 3 (fun W => by kernel_rfl) ?_
              refine AtE.splitN 82 (p := r51 = (0 : Int)) (by kernel_rfl) (fun h7' => ?_) (fun h7' => ?_)
              · first | exact absurd h2' h7' | exact absurd h7' h2' | simp_all
              · skip
                refine AtE.run 15 (fun W => by kernel_rfl) ?_
                exact AtE.cut [0] H (by kernel_rfl)
    · replace H := H.2 h2'
      refine AtE.run 26 (fun W => by kernel_rfl) ?_
      refine AtE.splitN 82 (p := r51 = (0 : Int)) (by kernel_rfl) (fun h8' => ?_) (fun h8' => ?_)
      · skip
        refine AtE.run 3 (fun W => by kernel_rfl) ?_
        refine AtE.splitN 85 (p := r51 = (10 : Int)) (by kernel_rfl) (fun h9' => ?_) (fun h9' => ?_)
        · replace H := H.1 h9'
          refine AtE.run 15 (fun W => by kernel_rfl) ?_
          exact AtE.ret Tryd.func5 (by kernel_rfl) H
        · replace H := H.2 h9'
          refine AtE.run 4 (fun W => by kernel_rfl) ?_
          refine AtE.splitN 89 (p := r31 = (0 : Int)) (by kernel_rfl) (fun h10' => ?_) (fun h10' => ?_)
          · replace H := H.1 h10'
            refine AtE.run 11 (fun W => by kernel_rfl) ?_
            exact AtE.ret Tryd.func5 (by kernel_rfl) H
          · replace H := H.2 h10'
            refine AtE.run 6 (fun W => by kernel_rfl) ?_
            refine AtE.splitN 94 (p := r41 = (0 : Int)) (by kernel_rfl) (fun h11' => ?_) (fun h11' => ?_)
            · replace H := H.1 h11'
              refine AtE.run 5 (fun W => by kernel_rfl) ?_
              exact AtE.ret Tryd.func5 (by kernel_rfl) H
            · replace H := H.2 h11'
              refine AtE.run 2 (fun W => by kernel_rfl) ?_
              exact AtE.cut [0] H (by kernel_rfl)
      · first | exact absurd h2' h8' | exact absurd h8' h2' | simp_all
  · replace H := H.2 h1'
    refine AtE.run 7 (fun W => by kernel_rfl) ?_
    exact AtE.ret Tryd.func5 (by kernel_rfl) H

theorem Unique_c1_vc (B3 : Nat) (ok1 : Bool) (t1 : ByteArray) (kv : Int) (t361_l : Nat) (t361_c : Nat) (t371 : Int) (t381 : Int) (m01 : Int) (m11 : Int) {R : Ending → World → Prop} {w0 : World}
    (H :
      CallH Tryd.prog 17 ⟨[.string t1, .int .i64 kv]⟩ [(B3, .cells #[.int .i64 m01, .int .i64 m11] 3)] [] w0 (fun v L' => ∃ (r81 : ByteArray) (r91 : Int) (r101 : Int), v = (.tuple #[.string r81, .int .i64 r91, .int .i64 r101]) ∧ L' = [(B3, .cells #[.int .i64 m01, .int .i64 m11] 3)] ∧
        CallH Tryd.prog 19 ⟨[.string r81]⟩ [(B3, .cells #[.int .i64 m01, .int .i64 m11] 3)] [] w0 (fun v L' => ∃ (r111 : ByteArray) (r121 : Int), v = (.tuple #[.string r111, .int .i64 r121]) ∧ L' = [(B3, .cells #[.int .i64 m01, .int .i64 m11] 3)] ∧
          ((r101 = (0 : Int)) →
            ((¬ (r121 = (0 : Int))) →
              Fin R [(B3, .cells #[.int .i64 m01, .int .i64 m11] 3)] [] w0 (.bool false)) ∧
             ((r121 = (0 : Int)) →
              ((r91 < kv) →
                Fin R [(B3, .cells #[.int .i64 m01, .int .i64 m11] 3)] [] w0 (.bool false)) ∧
               ((¬ (r91 < kv)) →
                (((t1.size : Int) < r91) →
                  Fin R [(B3, .cells #[.int .i64 m01, .int .i64 m11] 3)] [] w0 (.bool false)) ∧
                 ((¬ ((t1.size : Int) < r91)) →
                  (0 ≤ kv ∧ kv ≤ r91 ∧ r91 ≤ t1.size) ∧
                  ((¬ (t1.extract (Int.toNat kv) (Int.toNat r91)) = r111) →
                    Fin R [(B3, .cells #[.int .i64 m01, .int .i64 m11] 3)] [] w0 (.bool false)) ∧
                   (((t1.extract (Int.toNat kv) (Int.toNat r91)) = r111) →
                    Unique_c2 B3 ok1 t1 t361_l t361_c t371 t381 m01 m11 w0 R))))) ∧
           ((¬ (r101 = (0 : Int))) →
            ((¬ (r101 = (10 : Int))) →
              Fin R [(B3, .cells #[.int .i64 m01, .int .i64 m11] 3)] [] w0 (.bool false)) ∧
             ((r101 = (10 : Int)) →
              ((¬ r81 = (⟨#[]⟩ : ByteArray)) →
                Fin R [(B3, .cells #[.int .i64 m01, .int .i64 m11] 3)] [] w0 (.bool false)) ∧
               ((r81 = (⟨#[]⟩ : ByteArray)) →
                ((¬ (r91 = (0 : Int))) →
                  Fin R [(B3, .cells #[.int .i64 m01, .int .i64 m11] 3)] [] w0 (.bool false)) ∧
                 ((r91 = (0 : Int)) →
                  Unique_c2 B3 ok1 t1 t361_l t361_c t371 t381 m01 m11 w0 R))))))) :
    Unique_c1 B3 ok1 t1 kv t361_l t361_c t371 t381 m01 m11 w0 R := by
  unfold Unique_c1
  refine AtE.run 4 (fun W => by kernel_rfl) ?_
  refine AtE.call 17 ⟨[.string t1, .int .i64 kv]⟩ (fun W => by kernel_rfl) (by kernel_rfl) H ?_
  clear H
  rintro _ _ ⟨r81, r91, r101, rfl, rfl, H⟩
  refine AtE.run 11 (fun W => by kernel_rfl) ?_
  refine AtE.call 19 ⟨[.string r81]⟩ (fun W => by kernel_rfl) (by kernel_rfl) H ?_
  clear H
  rintro _ _ ⟨r111, r121, rfl, rfl, H⟩
  refine AtE.run 11 (fun W => by kernel_rfl) ?_
  refine AtE.splitP 109 (p := r101 = (0 : Int)) (by kernel_rfl) (fun h12' => ?_) (fun h12' => ?_)
  · replace H := H.1 h12'
    refine AtE.run 3 (fun W => by kernel_rfl) ?_
    refine AtE.splitN 112 (p := r121 = (0 : Int)) (by kernel_rfl) (fun h13' => ?_) (fun h13' => ?_)
    · replace H := H.1 h13'
      refine AtE.run 41 (fun W => by kernel_rfl) ?_
      exact AtE.ret Tryd.func5 (by kernel_rfl) H
    · replace H := H.2 h13'
      refine AtE.run 5 (fun W => by kernel_rfl) ?_
      refine AtE.splitP 117 (p := r91 < kv) (by kernel_rfl) (fun h14' => ?_) (fun h14' => ?_)
      · replace H := H.1 h14'
        refine AtE.run 36 (fun W => by kernel_rfl) ?_
        exact AtE.ret Tryd.func5 (by kernel_rfl) H
      · replace H := H.2 h14'
        refine AtE.run 6 (fun W => by kernel_rfl) ?_
        refine AtE.splitP 123 (p := (t1.size : Int) < r91) (by kernel_rfl) (fun h15' => ?_) (fun h15' => ?_)
        · replace H := H.1 h15'
          refine AtE.run 30 (fun W => by kernel_rfl) ?_
          exact AtE.ret Tryd.func5 (by kernel_rfl) H
        · replace H := H.2 h15'
          refine AtE.run 3 (fun W => by kernel_rfl) ?_
          refine AtE.sliceS (s := t1) (lo := some (.int .i64 kv)) (hi := some (.int .i64 r91)) (a := kv) (b := r91) (by kernel_rfl) (.inl ⟨.i64, rfl⟩) (.inl ⟨.i64, rfl⟩) H.1 ?_
          replace H := H.2
          refine AtE.run 5 (fun W => by kernel_rfl) ?_
          refine AtE.splitT 132 (x := (t1.extract (Int.toNat kv) (Int.toNat r91))) (y := r111) (by kernel_rfl) (fun h16' => ?_) (fun h16' => ?_)
          · replace H := H.1 h16'
            refine AtE.run 21 (fun W => by kernel_rfl) ?_
            exact AtE.ret Tryd.func5 (by kernel_rfl) H
          · replace H := H.2 h16'
            refine AtE.run 3 (fun W => by kernel_rfl) ?_
            refine AtE.splitN 135 (p := r101 = (0 : Int)) (by kernel_rfl) (fun h17' => ?_) (fun h17' => ?_)
            · first | exact absurd h12' h17' | exact absurd h17' h12' | simp_all
            · skip
              refine AtE.run 16 (fun W => by kernel_rfl) ?_
              exact AtE.cut [0] H (by kernel_rfl)
  · replace H := H.2 h12'
    refine AtE.run 26 (fun W => by kernel_rfl) ?_
    refine AtE.splitN 135 (p := r101 = (0 : Int)) (by kernel_rfl) (fun h18' => ?_) (fun h18' => ?_)
    · skip
      refine AtE.run 3 (fun W => by kernel_rfl) ?_
      refine AtE.splitN 138 (p := r101 = (10 : Int)) (by kernel_rfl) (fun h19' => ?_) (fun h19' => ?_)
      · replace H := H.1 h19'
        refine AtE.run 15 (fun W => by kernel_rfl) ?_
        exact AtE.ret Tryd.func5 (by kernel_rfl) H
      · replace H := H.2 h19'
        refine AtE.run 4 (fun W => by kernel_rfl) ?_
        refine AtE.splitT 142 (x := r81) (y := (⟨#[]⟩ : ByteArray)) (by kernel_rfl) (fun h20' => ?_) (fun h20' => ?_)
        · replace H := H.1 h20'
          refine AtE.run 11 (fun W => by kernel_rfl) ?_
          exact AtE.ret Tryd.func5 (by kernel_rfl) H
        · replace H := H.2 h20'
          refine AtE.run 6 (fun W => by kernel_rfl) ?_
          refine AtE.splitN 147 (p := r91 = (0 : Int)) (by kernel_rfl) (fun h21' => ?_) (fun h21' => ?_)
          · replace H := H.1 h21'
            refine AtE.run 5 (fun W => by kernel_rfl) ?_
            exact AtE.ret Tryd.func5 (by kernel_rfl) H
          · replace H := H.2 h21'
            refine AtE.run 3 (fun W => by kernel_rfl) ?_
            exact AtE.cut [0] H (by kernel_rfl)
    · first | exact absurd h12' h18' | exact absurd h18' h12' | simp_all

theorem Unique_c2_vc (B4 : Nat) (ok2 : Bool) (t2 : ByteArray) (t362_l : Nat) (t362_c : Nat) (t372 : Int) (t382 : Int) (m02 : Int) (m12 : Int) {R : Ending → World → Prop} {w0 : World}
    (H :
      Unique_c0 B4 ok2 t2 t362_l t362_c t372 (IntKind.i64.wrap (t382 + (1 : Int))) m02 m12 w0 R) :
    Unique_c2 B4 ok2 t2 t362_l t362_c t372 t382 m02 m12 w0 R := by
  unfold Unique_c2
  refine AtE.run 5 (fun W => by kernel_rfl) ?_
  exact AtE.cut [0] H (by kernel_rfl)

theorem Unique_vc (s : ByteArray) (atv : Int) (first : Int) {R : Ending → World → Prop} {w0 W : World} (hm : Mem [] [] w0 W)
    (H :
      CallH Tryd.prog 10 ⟨[]⟩ [] [] w0 (fun v L' => ∃ (r1 : Bool), v = (.bool r1) ∧ L' = [] ∧
        (0 ≤ (0 : Int) ∧ (0 : Int) ≤ (if (300 : Int) < (s.size : Int) then (300 : Int) else (s.size : Int)) ∧ (if (300 : Int) < (s.size : Int) then (300 : Int) else (s.size : Int)) ≤ s.size) ∧
        ∀ B : Nat,
        (0 ≤ first ∧ first < 256) ∧
        ((⟨#[UInt8.ofNat (Int.toNat first)]⟩ : ByteArray).size + (s.extract 0 (Int.toNat (if (300 : Int) < (s.size : Int) then (300 : Int) else (s.size : Int)))).size ≤ 9223372036854775807) ∧
        CallH Tryd.prog 14 ⟨[.int .i64 atv, .int .i64 (IntKind.i64.wrap ((((⟨#[UInt8.ofNat (Int.toNat first)]⟩ : ByteArray) ++ (s.extract 0 (Int.toNat (if (300 : Int) < (s.size : Int) then (300 : Int) else (s.size : Int))))).size : Int) + (1 : Int)))]⟩ [(B, .cells #[.int .u8 first] 5)] [] w0 (fun v L' => ∃ (r21 : Int), v = (.int .i64 r21) ∧ L' = [(B, .cells #[.int .u8 first] 5)] ∧
          ∀ B1 : Nat,
          Unique_c0 B1 r1 ((⟨#[UInt8.ofNat (Int.toNat first)]⟩ : ByteArray) ++ (s.extract 0 (Int.toNat (if (300 : Int) < (s.size : Int) then (300 : Int) else (s.size : Int))))) 2 2 (2 : Int) (0 : Int) (0 : Int) r21 w0 R))) :
    Calls Tryd.prog 5 ⟨[.string s, .int .i64 atv, .int .u8 first]⟩ W R := by
  refine AtE.calls (nt := 150) Tryd.func5 (by kernel_rfl) hm ?_
  refine AtE.run 6 (fun W => by kernel_rfl) ?_
  refine AtE.call 10 ⟨[]⟩ (fun W => by kernel_rfl) (by kernel_rfl) H ?_
  clear H
  rintro _ _ ⟨r1, rfl, rfl, H⟩
  refine AtE.run 3 (fun W => by kernel_rfl) ?_
  have H0 := H
  have hd0 : ∀ B : Nat, AtL Tryd.prog 5 150 (regOps [.code (sub (Eng.body Tryd.f5) [1, 1, 0])]) 0 #[true, true, true, true, true, true, true, true, true, true] [.code (sub (Eng.body Tryd.f5) [1, 1, 1])] [(1, .int .i64 atv), (7, .bool r1), (8, .string ((⟨#[UInt8.ofNat (Int.toNat first)]⟩ : ByteArray) ++ (s.extract 0 (Int.toNat (if (300 : Int) < (s.size : Int) then (300 : Int) else (s.size : Int))))))] [(B, .cells #[.int .u8 first] 5)] [] w0 R := by
    intro B t
    have H := (H0.2 B).2.2
    refine AtE.run 8 (fun W => by kernel_rfl) ?_
    refine AtE.call 14 ⟨[.int .i64 atv, .int .i64 (IntKind.i64.wrap ((((⟨#[UInt8.ofNat (Int.toNat first)]⟩ : ByteArray) ++ (s.extract 0 (Int.toNat (if (300 : Int) < (s.size : Int) then (300 : Int) else (s.size : Int))))).size : Int) + (1 : Int)))]⟩ (fun W => by kernel_rfl) (by kernel_rfl) H ?_
    clear H
    rintro _ _ ⟨r21, rfl, rfl, H⟩
    refine AtE.new (fun B => .slice (some ⟨B, 0, none⟩) 2 2) (.cells #[.int .i64 (0 : Int), .int .i64 r21] 3) (fun W => by kernel_rfl) (by kernel_rfl) (fun B1 => ?_)
    replace H := H B1
    refine AtE.run 5 (fun W => by kernel_rfl) ?_
    exact AtE.cut [1] H (by kernel_rfl)
  have hd1 : ∀ B : Nat, AtL Tryd.prog 5 150 (regOps [.code (sub (Eng.body Tryd.f5) [1, 1, 0])]) 1 #[true, true, true, true, true, true, true, true, true, false] [.code (sub (Eng.body Tryd.f5) [1, 1, 1])] [(1, .int .i64 atv), (7, .bool r1), (30, .string ((⟨#[UInt8.ofNat (Int.toNat first)]⟩ : ByteArray) ++ (s.extract 0 (Int.toNat (if (300 : Int) < (s.size : Int) then (300 : Int) else (s.size : Int))))))] [(B, .cells #[.int .u8 first] 5)] [] w0 R := by
    intro B
    refine AtL.step [9] (by kernel_rfl) ⟨fun t => ?_, trivial⟩
    · have H := (H0.2 B).2.2
      refine AtE.run 1 (fun W => by kernel_rfl) ?_
      exact AtE.cut [0] (hd0 B t) (by kernel_rfl)
  have hd2 : ∀ B : Nat, AtL Tryd.prog 5 150 (regOps [.code (sub (Eng.body Tryd.f5) [1, 1, 0])]) 2 #[true, true, true, true, true, true, true, true, false, false] [.code (sub (Eng.body Tryd.f5) [1, 1, 1])] [(1, .int .i64 atv), (7, .bool r1), (24, .string (⟨#[UInt8.ofNat (Int.toNat first)]⟩ : ByteArray)), (29, .string (s.extract 0 (Int.toNat (if (300 : Int) < (s.size : Int) then (300 : Int) else (s.size : Int)))))] [(B, .cells #[.int .u8 first] 5)] [] w0 R := by
    intro B
    refine AtL.step [8] (by kernel_rfl) ⟨fun t => ?_, trivial⟩
    · have H := (H0.2 B).2
      refine AtE.concat (x := (⟨#[UInt8.ofNat (Int.toNat first)]⟩ : ByteArray)) (y := (s.extract 0 (Int.toNat (if (300 : Int) < (s.size : Int) then (300 : Int) else (s.size : Int))))) (by kernel_rfl) H.1 ?_
      replace H := H.2
      exact AtE.cut [0] (hd1 B t) (by kernel_rfl)
  have hd3 : ∀ B : Nat, AtL Tryd.prog 5 150 (regOps [.code (sub (Eng.body Tryd.f5) [1, 1, 0])]) 3 #[true, true, true, true, true, true, true, false, false, false] [.code (sub (Eng.body Tryd.f5) [1, 1, 1])] [(1, .int .i64 atv), (7, .bool r1), (24, .string (⟨#[UInt8.ofNat (Int.toNat first)]⟩ : ByteArray)), (25, .string s), (28, .int .i64 (if (300 : Int) < (s.size : Int) then (300 : Int) else (s.size : Int)))] [(B, .cells #[.int .u8 first] 5)] [] w0 R := by
    intro B
    refine AtL.step [7] (by kernel_rfl) ⟨fun t => ?_, trivial⟩
    · have H := H0
      refine AtE.sliceS (s := s) (lo := none) (hi := some (.int .i64 (if (300 : Int) < (s.size : Int) then (300 : Int) else (s.size : Int)))) (a := (0 : Int)) (b := (if (300 : Int) < (s.size : Int) then (300 : Int) else (s.size : Int))) (by kernel_rfl) (.inr ⟨rfl, rfl⟩) (.inl ⟨.i64, rfl⟩) H.1 ?_
      replace H := H.2
      exact AtE.cut [0] (hd2 B t) (by kernel_rfl)
  have hd4 : ∀ B : Nat, AtL Tryd.prog 5 150 (regOps [.code (sub (Eng.body Tryd.f5) [1, 1, 0])]) 3 #[true, true, false, true, true, true, true, true, false, false] [.code (sub (Eng.body Tryd.f5) [1, 1, 1])] [(1, .int .i64 atv), (7, .bool r1), (23, .slice (some ⟨B, 0, none⟩) 1 1), (29, .string (s.extract 0 (Int.toNat (if (300 : Int) < (s.size : Int) then (300 : Int) else (s.size : Int)))))] [(B, .cells #[.int .u8 first] 5)] [] w0 R := by
    intro B
    refine AtL.step [2] (by kernel_rfl) ⟨fun t => ?_, trivial⟩
    · have H := (H0.2 B)
      refine AtE.toString 0 (E := 5) (o := 0) (len := 1) (cap := 1) (c := ([.int .u8 first] : List Value)) (l := [UInt8.ofNat (Int.toNat first)]) (by kernel_rfl) (oneByte H.1) ?_
      replace H := H.2
      exact AtE.cut [0] (hd2 B t) (by kernel_rfl)
  have hd5 : ∀ B : Nat, AtL Tryd.prog 5 150 (regOps [.code (sub (Eng.body Tryd.f5) [1, 1, 0])]) 4 #[true, true, true, true, true, true, false, false, false, false] [.code (sub (Eng.body Tryd.f5) [1, 1, 1])] [(1, .int .i64 atv), (7, .bool r1), (24, .string (⟨#[UInt8.ofNat (Int.toNat first)]⟩ : ByteArray)), (25, .string s), (27, .int .i64 (s.size : Int))] [(B, .cells #[.int .u8 first] 5)] [] w0 R := by
    intro B
    refine AtL.step [6] (by kernel_rfl) ⟨fun t => ?_, trivial⟩
    · have H := H0
      refine AtE.run 1 (fun W => by kernel_rfl) ?_
      exact AtE.cut [0] (hd3 B t) (by kernel_rfl)
  have hd6 : ∀ B : Nat, AtL Tryd.prog 5 150 (regOps [.code (sub (Eng.body Tryd.f5) [1, 1, 0])]) 4 #[true, true, true, false, true, true, true, false, false, false] [.code (sub (Eng.body Tryd.f5) [1, 1, 1])] [(0, .string s), (1, .int .i64 atv), (7, .bool r1), (24, .string (⟨#[UInt8.ofNat (Int.toNat first)]⟩ : ByteArray)), (28, .int .i64 (if (300 : Int) < (s.size : Int) then (300 : Int) else (s.size : Int)))] [(B, .cells #[.int .u8 first] 5)] [] w0 R := by
    intro B
    refine AtL.step [3] (by kernel_rfl) ⟨fun t => ?_, trivial⟩
    · have H := H0
      refine AtE.run 1 (fun W => by kernel_rfl) ?_
      exact AtE.cut [0] (hd3 B t) (by kernel_rfl)
  have hd7 : ∀ B : Nat, AtL Tryd.prog 5 150 (regOps [.code (sub (Eng.body Tryd.f5) [1, 1, 0])]) 4 #[true, true, false, true, true, true, true, false, false, false] [.code (sub (Eng.body Tryd.f5) [1, 1, 1])] [(1, .int .i64 atv), (7, .bool r1), (23, .slice (some ⟨B, 0, none⟩) 1 1), (25, .string s), (28, .int .i64 (if (300 : Int) < (s.size : Int) then (300 : Int) else (s.size : Int)))] [(B, .cells #[.int .u8 first] 5)] [] w0 R := by
    intro B
    refine AtL.step [2, 7] (by kernel_rfl) ⟨fun t => ?_, fun t => ?_, trivial⟩
    · have H := (H0.2 B)
      refine AtE.toString 0 (E := 5) (o := 0) (len := 1) (cap := 1) (c := ([.int .u8 first] : List Value)) (l := [UInt8.ofNat (Int.toNat first)]) (by kernel_rfl) (oneByte H.1) ?_
      replace H := H.2
      exact AtE.cut [0] (hd3 B t) (by kernel_rfl)
    · have H := H0
      refine AtE.sliceS (s := s) (lo := none) (hi := some (.int .i64 (if (300 : Int) < (s.size : Int) then (300 : Int) else (s.size : Int)))) (a := (0 : Int)) (b := (if (300 : Int) < (s.size : Int) then (300 : Int) else (s.size : Int))) (by kernel_rfl) (.inr ⟨rfl, rfl⟩) (.inl ⟨.i64, rfl⟩) H.1 ?_
      replace H := H.2
      exact AtE.cut [0] (hd4 B t) (by kernel_rfl)
  have hd8 : AtL Tryd.prog 5 150 (regOps [.code (sub (Eng.body Tryd.f5) [1, 1, 0])]) 4 #[true, false, false, true, true, true, true, true, false, false] [.code (sub (Eng.body Tryd.f5) [1, 1, 1])] [(1, .int .i64 atv), (7, .bool r1), (22, .int .u8 first), (29, .string (s.extract 0 (Int.toNat (if (300 : Int) < (s.size : Int) then (300 : Int) else (s.size : Int)))))] [] [] w0 R := by
    refine AtL.step [1] (by kernel_rfl) ⟨fun t => ?_, trivial⟩
    · have H := H0.2
      refine AtE.new (fun B => .slice (some ⟨B, 0, none⟩) 1 1) (.cells #[.int .u8 first] 5) (fun W => by kernel_rfl) (by kernel_rfl) (fun B => ?_)
      replace H := H B
      exact AtE.cut [0] (hd4 B t) (by kernel_rfl)
  have hd9 : ∀ B : Nat, AtL Tryd.prog 5 150 (regOps [.code (sub (Eng.body Tryd.f5) [1, 1, 0])]) 5 #[true, true, true, true, true, false, false, false, false, false] [.code (sub (Eng.body Tryd.f5) [1, 1, 1])] [(1, .int .i64 atv), (7, .bool r1), (24, .string (⟨#[UInt8.ofNat (Int.toNat first)]⟩ : ByteArray)), (25, .string s), (26, .string s)] [(B, .cells #[.int .u8 first] 5)] [] w0 R := by
    intro B
    refine AtL.step [5] (by kernel_rfl) ⟨fun t => ?_, trivial⟩
    · have H := H0
      refine AtE.run 1 (fun W => by kernel_rfl) ?_
      exact AtE.cut [0] (hd5 B t) (by kernel_rfl)
  have hd10 : ∀ B : Nat, AtL Tryd.prog 5 150 (regOps [.code (sub (Eng.body Tryd.f5) [1, 1, 0])]) 5 #[true, true, true, false, true, true, false, false, false, false] [.code (sub (Eng.body Tryd.f5) [1, 1, 1])] [(0, .string s), (1, .int .i64 atv), (7, .bool r1), (24, .string (⟨#[UInt8.ofNat (Int.toNat first)]⟩ : ByteArray)), (27, .int .i64 (s.size : Int))] [(B, .cells #[.int .u8 first] 5)] [] w0 R := by
    intro B
    refine AtL.step [3, 6] (by kernel_rfl) ⟨fun t => ?_, fun t => ?_, trivial⟩
    · have H := H0
      refine AtE.run 1 (fun W => by kernel_rfl) ?_
      exact AtE.cut [0] (hd5 B t) (by kernel_rfl)
    · have H := H0
      refine AtE.run 1 (fun W => by kernel_rfl) ?_
      exact AtE.cut [0] (hd6 B t) (by kernel_rfl)
  have hd11 : ∀ B : Nat, AtL Tryd.prog 5 150 (regOps [.code (sub (Eng.body Tryd.f5) [1, 1, 0])]) 5 #[true, true, false, true, true, true, false, false, false, false] [.code (sub (Eng.body Tryd.f5) [1, 1, 1])] [(1, .int .i64 atv), (7, .bool r1), (23, .slice (some ⟨B, 0, none⟩) 1 1), (25, .string s), (27, .int .i64 (s.size : Int))] [(B, .cells #[.int .u8 first] 5)] [] w0 R := by
    intro B
    refine AtL.step [2, 6] (by kernel_rfl) ⟨fun t => ?_, fun t => ?_, trivial⟩
    · have H := (H0.2 B)
      refine AtE.toString 0 (E := 5) (o := 0) (len := 1) (cap := 1) (c := ([.int .u8 first] : List Value)) (l := [UInt8.ofNat (Int.toNat first)]) (by kernel_rfl) (oneByte H.1) ?_
      replace H := H.2
      exact AtE.cut [0] (hd5 B t) (by kernel_rfl)
    · have H := H0
      refine AtE.run 1 (fun W => by kernel_rfl) ?_
      exact AtE.cut [0] (hd7 B t) (by kernel_rfl)
  have hd12 : ∀ B : Nat, AtL Tryd.prog 5 150 (regOps [.code (sub (Eng.body Tryd.f5) [1, 1, 0])]) 5 #[true, true, false, false, true, true, true, false, false, false] [.code (sub (Eng.body Tryd.f5) [1, 1, 1])] [(0, .string s), (1, .int .i64 atv), (7, .bool r1), (23, .slice (some ⟨B, 0, none⟩) 1 1), (28, .int .i64 (if (300 : Int) < (s.size : Int) then (300 : Int) else (s.size : Int)))] [(B, .cells #[.int .u8 first] 5)] [] w0 R := by
    intro B
    refine AtL.step [2, 3] (by kernel_rfl) ⟨fun t => ?_, fun t => ?_, trivial⟩
    · have H := (H0.2 B)
      refine AtE.toString 0 (E := 5) (o := 0) (len := 1) (cap := 1) (c := ([.int .u8 first] : List Value)) (l := [UInt8.ofNat (Int.toNat first)]) (by kernel_rfl) (oneByte H.1) ?_
      replace H := H.2
      exact AtE.cut [0] (hd6 B t) (by kernel_rfl)
    · have H := H0
      refine AtE.run 1 (fun W => by kernel_rfl) ?_
      exact AtE.cut [0] (hd7 B t) (by kernel_rfl)
  have hd13 : AtL Tryd.prog 5 150 (regOps [.code (sub (Eng.body Tryd.f5) [1, 1, 0])]) 5 #[true, false, false, true, true, true, true, false, false, false] [.code (sub (Eng.body Tryd.f5) [1, 1, 1])] [(1, .int .i64 atv), (7, .bool r1), (22, .int .u8 first), (25, .string s), (28, .int .i64 (if (300 : Int) < (s.size : Int) then (300 : Int) else (s.size : Int)))] [] [] w0 R := by
    refine AtL.step [1, 7] (by kernel_rfl) ⟨fun t => ?_, fun t => ?_, trivial⟩
    · have H := H0.2
      refine AtE.new (fun B => .slice (some ⟨B, 0, none⟩) 1 1) (.cells #[.int .u8 first] 5) (fun W => by kernel_rfl) (by kernel_rfl) (fun B => ?_)
      replace H := H B
      exact AtE.cut [0] (hd7 B t) (by kernel_rfl)
    · have H := H0
      refine AtE.sliceS (s := s) (lo := none) (hi := some (.int .i64 (if (300 : Int) < (s.size : Int) then (300 : Int) else (s.size : Int)))) (a := (0 : Int)) (b := (if (300 : Int) < (s.size : Int) then (300 : Int) else (s.size : Int))) (by kernel_rfl) (.inr ⟨rfl, rfl⟩) (.inl ⟨.i64, rfl⟩) H.1 ?_
      replace H := H.2
      exact AtE.cut [] (hd8  t) (by kernel_rfl)
  have hd14 : AtL Tryd.prog 5 150 (regOps [.code (sub (Eng.body Tryd.f5) [1, 1, 0])]) 5 #[false, false, false, true, true, true, true, true, false, false] [.code (sub (Eng.body Tryd.f5) [1, 1, 1])] [(1, .int .i64 atv), (2, .int .u8 first), (7, .bool r1), (29, .string (s.extract 0 (Int.toNat (if (300 : Int) < (s.size : Int) then (300 : Int) else (s.size : Int)))))] [] [] w0 R := by
    refine AtL.step [0] (by kernel_rfl) ⟨fun t => ?_, trivial⟩
    · have H := H0
      refine AtE.run 1 (fun W => by kernel_rfl) ?_
      exact AtE.cut [] (hd8  t) (by kernel_rfl)
  have hd15 : ∀ B : Nat, AtL Tryd.prog 5 150 (regOps [.code (sub (Eng.body Tryd.f5) [1, 1, 0])]) 6 #[true, true, true, true, false, false, false, false, false, false] [.code (sub (Eng.body Tryd.f5) [1, 1, 1])] [(0, .string s), (1, .int .i64 atv), (7, .bool r1), (24, .string (⟨#[UInt8.ofNat (Int.toNat first)]⟩ : ByteArray)), (25, .string s)] [(B, .cells #[.int .u8 first] 5)] [] w0 R := by
    intro B
    refine AtL.step [4] (by kernel_rfl) ⟨fun t => ?_, trivial⟩
    · have H := H0
      refine AtE.run 1 (fun W => by kernel_rfl) ?_
      exact AtE.cut [0] (hd9 B t) (by kernel_rfl)
  have hd16 : ∀ B : Nat, AtL Tryd.prog 5 150 (regOps [.code (sub (Eng.body Tryd.f5) [1, 1, 0])]) 6 #[true, true, true, false, true, false, false, false, false, false] [.code (sub (Eng.body Tryd.f5) [1, 1, 1])] [(0, .string s), (1, .int .i64 atv), (7, .bool r1), (24, .string (⟨#[UInt8.ofNat (Int.toNat first)]⟩ : ByteArray)), (26, .string s)] [(B, .cells #[.int .u8 first] 5)] [] w0 R := by
    intro B
    refine AtL.step [3, 5] (by kernel_rfl) ⟨fun t => ?_, fun t => ?_, trivial⟩
    · have H := H0
      refine AtE.run 1 (fun W => by kernel_rfl) ?_
      exact AtE.cut [0] (hd9 B t) (by kernel_rfl)
    · have H := H0
      refine AtE.run 1 (fun W => by kernel_rfl) ?_
      exact AtE.cut [0] (hd10 B t) (by kernel_rfl)
  have hd17 : ∀ B : Nat, AtL Tryd.prog 5 150 (regOps [.code (sub (Eng.body Tryd.f5) [1, 1, 0])]) 6 #[true, true, false, true, true, false, false, false, false, false] [.code (sub (Eng.body Tryd.f5) [1, 1, 1])] [(1, .int .i64 atv), (7, .bool r1), (23, .slice (some ⟨B, 0, none⟩) 1 1), (25, .string s), (26, .string s)] [(B, .cells #[.int .u8 first] 5)] [] w0 R := by
    intro B
    refine AtL.step [2, 5] (by kernel_rfl) ⟨fun t => ?_, fun t => ?_, trivial⟩
    · have H := (H0.2 B)
      refine AtE.toString 0 (E := 5) (o := 0) (len := 1) (cap := 1) (c := ([.int .u8 first] : List Value)) (l := [UInt8.ofNat (Int.toNat first)]) (by kernel_rfl) (oneByte H.1) ?_
      replace H := H.2
      exact AtE.cut [0] (hd9 B t) (by kernel_rfl)
    · have H := H0
      refine AtE.run 1 (fun W => by kernel_rfl) ?_
      exact AtE.cut [0] (hd11 B t) (by kernel_rfl)
  have hd18 : ∀ B : Nat, AtL Tryd.prog 5 150 (regOps [.code (sub (Eng.body Tryd.f5) [1, 1, 0])]) 6 #[true, true, false, false, true, true, false, false, false, false] [.code (sub (Eng.body Tryd.f5) [1, 1, 1])] [(0, .string s), (1, .int .i64 atv), (7, .bool r1), (23, .slice (some ⟨B, 0, none⟩) 1 1), (27, .int .i64 (s.size : Int))] [(B, .cells #[.int .u8 first] 5)] [] w0 R := by
    intro B
    refine AtL.step [2, 3, 6] (by kernel_rfl) ⟨fun t => ?_, fun t => ?_, fun t => ?_, trivial⟩
    · have H := (H0.2 B)
      refine AtE.toString 0 (E := 5) (o := 0) (len := 1) (cap := 1) (c := ([.int .u8 first] : List Value)) (l := [UInt8.ofNat (Int.toNat first)]) (by kernel_rfl) (oneByte H.1) ?_
      replace H := H.2
      exact AtE.cut [0] (hd10 B t) (by kernel_rfl)
    · have H := H0
      refine AtE.run 1 (fun W => by kernel_rfl) ?_
      exact AtE.cut [0] (hd11 B t) (by kernel_rfl)
    · have H := H0
      refine AtE.run 1 (fun W => by kernel_rfl) ?_
      exact AtE.cut [0] (hd12 B t) (by kernel_rfl)
  have hd19 : AtL Tryd.prog 5 150 (regOps [.code (sub (Eng.body Tryd.f5) [1, 1, 0])]) 6 #[true, false, false, true, true, true, false, false, false, false] [.code (sub (Eng.body Tryd.f5) [1, 1, 1])] [(1, .int .i64 atv), (7, .bool r1), (22, .int .u8 first), (25, .string s), (27, .int .i64 (s.size : Int))] [] [] w0 R := by
    refine AtL.step [1, 6] (by kernel_rfl) ⟨fun t => ?_, fun t => ?_, trivial⟩
    · have H := H0.2
      refine AtE.new (fun B => .slice (some ⟨B, 0, none⟩) 1 1) (.cells #[.int .u8 first] 5) (fun W => by kernel_rfl) (by kernel_rfl) (fun B => ?_)
      replace H := H B
      exact AtE.cut [0] (hd11 B t) (by kernel_rfl)
    · have H := H0
      refine AtE.run 1 (fun W => by kernel_rfl) ?_
      exact AtE.cut [] (hd13  t) (by kernel_rfl)
  have hd20 : AtL Tryd.prog 5 150 (regOps [.code (sub (Eng.body Tryd.f5) [1, 1, 0])]) 6 #[true, false, false, false, true, true, true, false, false, false] [.code (sub (Eng.body Tryd.f5) [1, 1, 1])] [(0, .string s), (1, .int .i64 atv), (7, .bool r1), (22, .int .u8 first), (28, .int .i64 (if (300 : Int) < (s.size : Int) then (300 : Int) else (s.size : Int)))] [] [] w0 R := by
    refine AtL.step [1, 3] (by kernel_rfl) ⟨fun t => ?_, fun t => ?_, trivial⟩
    · have H := H0.2
      refine AtE.new (fun B => .slice (some ⟨B, 0, none⟩) 1 1) (.cells #[.int .u8 first] 5) (fun W => by kernel_rfl) (by kernel_rfl) (fun B => ?_)
      replace H := H B
      exact AtE.cut [0] (hd12 B t) (by kernel_rfl)
    · have H := H0
      refine AtE.run 1 (fun W => by kernel_rfl) ?_
      exact AtE.cut [] (hd13  t) (by kernel_rfl)
  have hd21 : AtL Tryd.prog 5 150 (regOps [.code (sub (Eng.body Tryd.f5) [1, 1, 0])]) 6 #[false, false, false, true, true, true, true, false, false, false] [.code (sub (Eng.body Tryd.f5) [1, 1, 1])] [(1, .int .i64 atv), (2, .int .u8 first), (7, .bool r1), (25, .string s), (28, .int .i64 (if (300 : Int) < (s.size : Int) then (300 : Int) else (s.size : Int)))] [] [] w0 R := by
    refine AtL.step [0, 7] (by kernel_rfl) ⟨fun t => ?_, fun t => ?_, trivial⟩
    · have H := H0
      refine AtE.run 1 (fun W => by kernel_rfl) ?_
      exact AtE.cut [] (hd13  t) (by kernel_rfl)
    · have H := H0
      refine AtE.sliceS (s := s) (lo := none) (hi := some (.int .i64 (if (300 : Int) < (s.size : Int) then (300 : Int) else (s.size : Int)))) (a := (0 : Int)) (b := (if (300 : Int) < (s.size : Int) then (300 : Int) else (s.size : Int))) (by kernel_rfl) (.inr ⟨rfl, rfl⟩) (.inl ⟨.i64, rfl⟩) H.1 ?_
      replace H := H.2
      exact AtE.cut [] (hd14  t) (by kernel_rfl)
  have hd22 : ∀ B : Nat, AtL Tryd.prog 5 150 (regOps [.code (sub (Eng.body Tryd.f5) [1, 1, 0])]) 7 #[true, true, true, false, false, false, false, false, false, false] [.code (sub (Eng.body Tryd.f5) [1, 1, 1])] [(0, .string s), (1, .int .i64 atv), (7, .bool r1), (24, .string (⟨#[UInt8.ofNat (Int.toNat first)]⟩ : ByteArray))] [(B, .cells #[.int .u8 first] 5)] [] w0 R := by
    intro B
    refine AtL.step [3, 4] (by kernel_rfl) ⟨fun t => ?_, fun t => ?_, trivial⟩
    · have H := H0
      refine AtE.run 1 (fun W => by kernel_rfl) ?_
      exact AtE.cut [0] (hd15 B t) (by kernel_rfl)
    · have H := H0
      refine AtE.run 1 (fun W => by kernel_rfl) ?_
      exact AtE.cut [0] (hd16 B t) (by kernel_rfl)
  have hd23 : ∀ B : Nat, AtL Tryd.prog 5 150 (regOps [.code (sub (Eng.body Tryd.f5) [1, 1, 0])]) 7 #[true, true, false, true, false, false, false, false, false, false] [.code (sub (Eng.body Tryd.f5) [1, 1, 1])] [(0, .string s), (1, .int .i64 atv), (7, .bool r1), (23, .slice (some ⟨B, 0, none⟩) 1 1), (25, .string s)] [(B, .cells #[.int .u8 first] 5)] [] w0 R := by
    intro B
    refine AtL.step [2, 4] (by kernel_rfl) ⟨fun t => ?_, fun t => ?_, trivial⟩
    · have H := (H0.2 B)
      refine AtE.toString 0 (E := 5) (o := 0) (len := 1) (cap := 1) (c := ([.int .u8 first] : List Value)) (l := [UInt8.ofNat (Int.toNat first)]) (by kernel_rfl) (oneByte H.1) ?_
      replace H := H.2
      exact AtE.cut [0] (hd15 B t) (by kernel_rfl)
    · have H := H0
      refine AtE.run 1 (fun W => by kernel_rfl) ?_
      exact AtE.cut [0] (hd17 B t) (by kernel_rfl)
  have hd24 : ∀ B : Nat, AtL Tryd.prog 5 150 (regOps [.code (sub (Eng.body Tryd.f5) [1, 1, 0])]) 7 #[true, true, false, false, true, false, false, false, false, false] [.code (sub (Eng.body Tryd.f5) [1, 1, 1])] [(0, .string s), (1, .int .i64 atv), (7, .bool r1), (23, .slice (some ⟨B, 0, none⟩) 1 1), (26, .string s)] [(B, .cells #[.int .u8 first] 5)] [] w0 R := by
    intro B
    refine AtL.step [2, 3, 5] (by kernel_rfl) ⟨fun t => ?_, fun t => ?_, fun t => ?_, trivial⟩
    · have H := (H0.2 B)
      refine AtE.toString 0 (E := 5) (o := 0) (len := 1) (cap := 1) (c := ([.int .u8 first] : List Value)) (l := [UInt8.ofNat (Int.toNat first)]) (by kernel_rfl) (oneByte H.1) ?_
      replace H := H.2
      exact AtE.cut [0] (hd16 B t) (by kernel_rfl)
    · have H := H0
      refine AtE.run 1 (fun W => by kernel_rfl) ?_
      exact AtE.cut [0] (hd17 B t) (by kernel_rfl)
    · have H := H0
      refine AtE.run 1 (fun W => by kernel_rfl) ?_
      exact AtE.cut [0] (hd18 B t) (by kernel_rfl)
  have hd25 : AtL Tryd.prog 5 150 (regOps [.code (sub (Eng.body Tryd.f5) [1, 1, 0])]) 7 #[true, false, false, true, true, false, false, false, false, false] [.code (sub (Eng.body Tryd.f5) [1, 1, 1])] [(1, .int .i64 atv), (7, .bool r1), (22, .int .u8 first), (25, .string s), (26, .string s)] [] [] w0 R := by
    refine AtL.step [1, 5] (by kernel_rfl) ⟨fun t => ?_, fun t => ?_, trivial⟩
    · have H := H0.2
      refine AtE.new (fun B => .slice (some ⟨B, 0, none⟩) 1 1) (.cells #[.int .u8 first] 5) (fun W => by kernel_rfl) (by kernel_rfl) (fun B => ?_)
      replace H := H B
      exact AtE.cut [0] (hd17 B t) (by kernel_rfl)
    · have H := H0
      refine AtE.run 1 (fun W => by kernel_rfl) ?_
      exact AtE.cut [] (hd19  t) (by kernel_rfl)
  have hd26 : AtL Tryd.prog 5 150 (regOps [.code (sub (Eng.body Tryd.f5) [1, 1, 0])]) 7 #[true, false, false, false, true, true, false, false, false, false] [.code (sub (Eng.body Tryd.f5) [1, 1, 1])] [(0, .string s), (1, .int .i64 atv), (7, .bool r1), (22, .int .u8 first), (27, .int .i64 (s.size : Int))] [] [] w0 R := by
    refine AtL.step [1, 3, 6] (by kernel_rfl) ⟨fun t => ?_, fun t => ?_, fun t => ?_, trivial⟩
    · have H := H0.2
      refine AtE.new (fun B => .slice (some ⟨B, 0, none⟩) 1 1) (.cells #[.int .u8 first] 5) (fun W => by kernel_rfl) (by kernel_rfl) (fun B => ?_)
      replace H := H B
      exact AtE.cut [0] (hd18 B t) (by kernel_rfl)
    · have H := H0
      refine AtE.run 1 (fun W => by kernel_rfl) ?_
      exact AtE.cut [] (hd19  t) (by kernel_rfl)
    · have H := H0
      refine AtE.run 1 (fun W => by kernel_rfl) ?_
      exact AtE.cut [] (hd20  t) (by kernel_rfl)
  have hd27 : AtL Tryd.prog 5 150 (regOps [.code (sub (Eng.body Tryd.f5) [1, 1, 0])]) 7 #[false, false, false, true, true, true, false, false, false, false] [.code (sub (Eng.body Tryd.f5) [1, 1, 1])] [(1, .int .i64 atv), (2, .int .u8 first), (7, .bool r1), (25, .string s), (27, .int .i64 (s.size : Int))] [] [] w0 R := by
    refine AtL.step [0, 6] (by kernel_rfl) ⟨fun t => ?_, fun t => ?_, trivial⟩
    · have H := H0
      refine AtE.run 1 (fun W => by kernel_rfl) ?_
      exact AtE.cut [] (hd19  t) (by kernel_rfl)
    · have H := H0
      refine AtE.run 1 (fun W => by kernel_rfl) ?_
      exact AtE.cut [] (hd21  t) (by kernel_rfl)
  have hd28 : AtL Tryd.prog 5 150 (regOps [.code (sub (Eng.body Tryd.f5) [1, 1, 0])]) 7 #[false, false, false, false, true, true, true, false, false, false] [.code (sub (Eng.body Tryd.f5) [1, 1, 1])] [(0, .string s), (1, .int .i64 atv), (2, .int .u8 first), (7, .bool r1), (28, .int .i64 (if (300 : Int) < (s.size : Int) then (300 : Int) else (s.size : Int)))] [] [] w0 R := by
    refine AtL.step [0, 3] (by kernel_rfl) ⟨fun t => ?_, fun t => ?_, trivial⟩
    · have H := H0
      refine AtE.run 1 (fun W => by kernel_rfl) ?_
      exact AtE.cut [] (hd20  t) (by kernel_rfl)
    · have H := H0
      refine AtE.run 1 (fun W => by kernel_rfl) ?_
      exact AtE.cut [] (hd21  t) (by kernel_rfl)
  have hd29 : ∀ B : Nat, AtL Tryd.prog 5 150 (regOps [.code (sub (Eng.body Tryd.f5) [1, 1, 0])]) 8 #[true, true, false, false, false, false, false, false, false, false] [.code (sub (Eng.body Tryd.f5) [1, 1, 1])] [(0, .string s), (1, .int .i64 atv), (7, .bool r1), (23, .slice (some ⟨B, 0, none⟩) 1 1)] [(B, .cells #[.int .u8 first] 5)] [] w0 R := by
    intro B
    refine AtL.step [2, 3, 4] (by kernel_rfl) ⟨fun t => ?_, fun t => ?_, fun t => ?_, trivial⟩
    · have H := (H0.2 B)
      refine AtE.toString 0 (E := 5) (o := 0) (len := 1) (cap := 1) (c := ([.int .u8 first] : List Value)) (l := [UInt8.ofNat (Int.toNat first)]) (by kernel_rfl) (oneByte H.1) ?_
      replace H := H.2
      exact AtE.cut [0] (hd22 B t) (by kernel_rfl)
    · have H := H0
      refine AtE.run 1 (fun W => by kernel_rfl) ?_
      exact AtE.cut [0] (hd23 B t) (by kernel_rfl)
    · have H := H0
      refine AtE.run 1 (fun W => by kernel_rfl) ?_
      exact AtE.cut [0] (hd24 B t) (by kernel_rfl)
  have hd30 : AtL Tryd.prog 5 150 (regOps [.code (sub (Eng.body Tryd.f5) [1, 1, 0])]) 8 #[true, false, false, true, false, false, false, false, false, false] [.code (sub (Eng.body Tryd.f5) [1, 1, 1])] [(0, .string s), (1, .int .i64 atv), (7, .bool r1), (22, .int .u8 first), (25, .string s)] [] [] w0 R := by
    refine AtL.step [1, 4] (by kernel_rfl) ⟨fun t => ?_, fun t => ?_, trivial⟩
    · have H := H0.2
      refine AtE.new (fun B => .slice (some ⟨B, 0, none⟩) 1 1) (.cells #[.int .u8 first] 5) (fun W => by kernel_rfl) (by kernel_rfl) (fun B => ?_)
      replace H := H B
      exact AtE.cut [0] (hd23 B t) (by kernel_rfl)
    · have H := H0
      refine AtE.run 1 (fun W => by kernel_rfl) ?_
      exact AtE.cut [] (hd25  t) (by kernel_rfl)
  have hd31 : AtL Tryd.prog 5 150 (regOps [.code (sub (Eng.body Tryd.f5) [1, 1, 0])]) 8 #[true, false, false, false, true, false, false, false, false, false] [.code (sub (Eng.body Tryd.f5) [1, 1, 1])] [(0, .string s), (1, .int .i64 atv), (7, .bool r1), (22, .int .u8 first), (26, .string s)] [] [] w0 R := by
    refine AtL.step [1, 3, 5] (by kernel_rfl) ⟨fun t => ?_, fun t => ?_, fun t => ?_, trivial⟩
    · have H := H0.2
      refine AtE.new (fun B => .slice (some ⟨B, 0, none⟩) 1 1) (.cells #[.int .u8 first] 5) (fun W => by kernel_rfl) (by kernel_rfl) (fun B => ?_)
      replace H := H B
      exact AtE.cut [0] (hd24 B t) (by kernel_rfl)
    · have H := H0
      refine AtE.run 1 (fun W => by kernel_rfl) ?_
      exact AtE.cut [] (hd25  t) (by kernel_rfl)
    · have H := H0
      refine AtE.run 1 (fun W => by kernel_rfl) ?_
      exact AtE.cut [] (hd26  t) (by kernel_rfl)
  have hd32 : AtL Tryd.prog 5 150 (regOps [.code (sub (Eng.body Tryd.f5) [1, 1, 0])]) 8 #[false, false, false, true, true, false, false, false, false, false] [.code (sub (Eng.body Tryd.f5) [1, 1, 1])] [(1, .int .i64 atv), (2, .int .u8 first), (7, .bool r1), (25, .string s), (26, .string s)] [] [] w0 R := by
    refine AtL.step [0, 5] (by kernel_rfl) ⟨fun t => ?_, fun t => ?_, trivial⟩
    · have H := H0
      refine AtE.run 1 (fun W => by kernel_rfl) ?_
      exact AtE.cut [] (hd25  t) (by kernel_rfl)
    · have H := H0
      refine AtE.run 1 (fun W => by kernel_rfl) ?_
      exact AtE.cut [] (hd27  t) (by kernel_rfl)
  have hd33 : AtL Tryd.prog 5 150 (regOps [.code (sub (Eng.body Tryd.f5) [1, 1, 0])]) 8 #[false, false, false, false, true, true, false, false, false, false] [.code (sub (Eng.body Tryd.f5) [1, 1, 1])] [(0, .string s), (1, .int .i64 atv), (2, .int .u8 first), (7, .bool r1), (27, .int .i64 (s.size : Int))] [] [] w0 R := by
    refine AtL.step [0, 3, 6] (by kernel_rfl) ⟨fun t => ?_, fun t => ?_, fun t => ?_, trivial⟩
    · have H := H0
      refine AtE.run 1 (fun W => by kernel_rfl) ?_
      exact AtE.cut [] (hd26  t) (by kernel_rfl)
    · have H := H0
      refine AtE.run 1 (fun W => by kernel_rfl) ?_
      exact AtE.cut [] (hd27  t) (by kernel_rfl)
    · have H := H0
      refine AtE.run 1 (fun W => by kernel_rfl) ?_
      exact AtE.cut [] (hd28  t) (by kernel_rfl)
  have hd34 : AtL Tryd.prog 5 150 (regOps [.code (sub (Eng.body Tryd.f5) [1, 1, 0])]) 9 #[true, false, false, false, false, false, false, false, false, false] [.code (sub (Eng.body Tryd.f5) [1, 1, 1])] [(0, .string s), (1, .int .i64 atv), (7, .bool r1), (22, .int .u8 first)] [] [] w0 R := by
    refine AtL.step [1, 3, 4] (by kernel_rfl) ⟨fun t => ?_, fun t => ?_, fun t => ?_, trivial⟩
    · have H := H0.2
      refine AtE.new (fun B => .slice (some ⟨B, 0, none⟩) 1 1) (.cells #[.int .u8 first] 5) (fun W => by kernel_rfl) (by kernel_rfl) (fun B => ?_)
      replace H := H B
      exact AtE.cut [0] (hd29 B t) (by kernel_rfl)
    · have H := H0
      refine AtE.run 1 (fun W => by kernel_rfl) ?_
      exact AtE.cut [] (hd30  t) (by kernel_rfl)
    · have H := H0
      refine AtE.run 1 (fun W => by kernel_rfl) ?_
      exact AtE.cut [] (hd31  t) (by kernel_rfl)
  have hd35 : AtL Tryd.prog 5 150 (regOps [.code (sub (Eng.body Tryd.f5) [1, 1, 0])]) 9 #[false, false, false, true, false, false, false, false, false, false] [.code (sub (Eng.body Tryd.f5) [1, 1, 1])] [(0, .string s), (1, .int .i64 atv), (2, .int .u8 first), (7, .bool r1), (25, .string s)] [] [] w0 R := by
    refine AtL.step [0, 4] (by kernel_rfl) ⟨fun t => ?_, fun t => ?_, trivial⟩
    · have H := H0
      refine AtE.run 1 (fun W => by kernel_rfl) ?_
      exact AtE.cut [] (hd30  t) (by kernel_rfl)
    · have H := H0
      refine AtE.run 1 (fun W => by kernel_rfl) ?_
      exact AtE.cut [] (hd32  t) (by kernel_rfl)
  have hd36 : AtL Tryd.prog 5 150 (regOps [.code (sub (Eng.body Tryd.f5) [1, 1, 0])]) 9 #[false, false, false, false, true, false, false, false, false, false] [.code (sub (Eng.body Tryd.f5) [1, 1, 1])] [(0, .string s), (1, .int .i64 atv), (2, .int .u8 first), (7, .bool r1), (26, .string s)] [] [] w0 R := by
    refine AtL.step [0, 3, 5] (by kernel_rfl) ⟨fun t => ?_, fun t => ?_, fun t => ?_, trivial⟩
    · have H := H0
      refine AtE.run 1 (fun W => by kernel_rfl) ?_
      exact AtE.cut [] (hd31  t) (by kernel_rfl)
    · have H := H0
      refine AtE.run 1 (fun W => by kernel_rfl) ?_
      exact AtE.cut [] (hd32  t) (by kernel_rfl)
    · have H := H0
      refine AtE.run 1 (fun W => by kernel_rfl) ?_
      exact AtE.cut [] (hd33  t) (by kernel_rfl)
  have hd37 : AtL Tryd.prog 5 150 (regOps [.code (sub (Eng.body Tryd.f5) [1, 1, 0])]) 10 #[false, false, false, false, false, false, false, false, false, false] [.code (sub (Eng.body Tryd.f5) [1, 1, 1])] [(0, .string s), (1, .int .i64 atv), (2, .int .u8 first), (7, .bool r1)] [] [] w0 R := by
    refine AtL.step [0, 3, 4] (by kernel_rfl) ⟨fun t => ?_, fun t => ?_, fun t => ?_, trivial⟩
    · have H := H0
      refine AtE.run 1 (fun W => by kernel_rfl) ?_
      exact AtE.cut [] (hd34  t) (by kernel_rfl)
    · have H := H0
      refine AtE.run 1 (fun W => by kernel_rfl) ?_
      exact AtE.cut [] (hd35  t) (by kernel_rfl)
    · have H := H0
      refine AtE.run 1 (fun W => by kernel_rfl) ?_
      exact AtE.cut [] (hd36  t) (by kernel_rfl)
  exact AtE.cut [] (AtE.drawAny (k := [.code (sub (Eng.body Tryd.f5) [1, 1, 0]), .code (sub (Eng.body Tryd.f5) [1, 1, 1])]) (by kernel_rfl) hd37) (by kernel_rfl)

end Go.Eng
