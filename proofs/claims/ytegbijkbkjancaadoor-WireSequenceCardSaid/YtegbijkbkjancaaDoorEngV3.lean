/- Verification conditions of the functions, written by a program of the prover, checked here. -/
import Derived.Test.YtegbijkbkjancaaDoorEngDrawRules

import Derived.Test.YtegbijkbkjancaaDoorChecked

namespace Go.Eng

open Go Go.RowKit Go.Proofs

set_option linter.unusedVariables false

set_option maxRecDepth 100000

def Matches_c0 (B1 : Nat) (atv1 : Int) (ok : Bool) (few1 : ByteArray) (t42_l : Nat) (t42_c : Nat) (t43 : Int) (t44 : Int) (m0 : Int) (m1 : Int) (w0 : World) (R : Ending → World → Prop) : Prop :=
  AtE Tryd.prog 3 164 [.code (sub (Eng.body Tryd.f3) [1, 1, 1, 0, 1, 0, 0]), .inLoop (sub (Eng.body Tryd.f3) [1, 1, 1, 0, 1, 0, 0]), .inBlock 0, .code (sub (Eng.body Tryd.f3) [1, 1, 1, 1])] [(2, .int .i64 atv1), (7, .bool ok), (8, .string few1), (42, .slice (some ⟨B1, 0, none⟩) t42_l t42_c), (43, .int .i64 t43), (44, .int .i64 t44)] [(B1, .cells #[.int .i64 m0, .int .i64 m1] 3)] [] w0 R

def Matches_c1 (B3 : Nat) (ok1 : Bool) (few2 : ByteArray) (t73_l : Nat) (t73_c : Nat) (t74 : Int) (t75 : Int) (m01 : Int) (m11 : Int) (w0 : World) (R : Ending → World → Prop) : Prop :=
  AtE Tryd.prog 3 164 [.code (sub (Eng.body Tryd.f3) [1, 1, 1, 1, 0, 1, 0, 0]), .inLoop (sub (Eng.body Tryd.f3) [1, 1, 1, 1, 0, 1, 0, 0]), .inBlock 2, .code (sub (Eng.body Tryd.f3) [1, 1, 1, 1, 1])] [(7, .bool ok1), (8, .string few2), (73, .slice (some ⟨B3, 0, none⟩) t73_l t73_c), (74, .int .i64 t74), (75, .int .i64 t75)] [(B3, .cells #[.int .i64 m01, .int .i64 m11] 3)] [] w0 R

theorem Matches_c0_vc (B1 : Nat) (atv1 : Int) (ok : Bool) (few1 : ByteArray) (t42_l : Nat) (t42_c : Nat) (t43 : Int) (t44 : Int) (m0 : Int) (m1 : Int) {R : Ending → World → Prop} {w0 : World}
    (H :
      ((t44 < t43) →
        (0 ≤ t44 ∧ t44 < t42_l) ∧
        ∃ (m2 : Int), (([.int .i64 m0, .int .i64 m1] : List Value))[(Int.toNat t44)]? = some (.int .i64 m2) ∧
        CallH Tryd.prog 12 ⟨[.int .i64 m2]⟩ [(B1, .cells #[.int .i64 m0, .int .i64 m1] 3)] [] w0 (fun v L' => ∃ (r31 : ByteArray) (r41 : Int), v = (.tuple #[.string r31, .int .i64 r41]) ∧ L' = [(B1, .cells #[.int .i64 m0, .int .i64 m1] 3)] ∧
          CallH Tryd.prog 13 ⟨[.int .i64 m2]⟩ [(B1, .cells #[.int .i64 m0, .int .i64 m1] 3)] [] w0 (fun v L' => ∃ (r51 : ByteArray) (r61 : Int), v = (.tuple #[.string r51, .int .i64 r61]) ∧ L' = [(B1, .cells #[.int .i64 m0, .int .i64 m1] 3)] ∧
            ((¬ r31 = r51) →
              Fin R [(B1, .cells #[.int .i64 m0, .int .i64 m1] 3)] [] w0 (.bool false)) ∧
             ((r31 = r51) →
              ((¬ (r41 = r61)) →
                Fin R [(B1, .cells #[.int .i64 m0, .int .i64 m1] 3)] [] w0 (.bool false)) ∧
               ((r41 = r61) →
                Matches_c0 B1 atv1 ok few1 t42_l t42_c t43 (IntKind.i64.wrap (t44 + (1 : Int))) m0 m1 w0 R))))) ∧
       ((¬ (t44 < t43)) →
        CallH Tryd.prog 14 ⟨[.int .i64 atv1, .int .i64 (IntKind.i64.wrap ((few1.size : Int) + (2 : Int)))]⟩ [(B1, .cells #[.int .i64 m0, .int .i64 m1] 3)] [] w0 (fun v L' => ∃ (r71 : Int), v = (.int .i64 r71) ∧ L' = [(B1, .cells #[.int .i64 m0, .int .i64 m1] 3)] ∧
          ∀ B2 : Nat,
          Matches_c1 B2 ok few1 2 2 (2 : Int) (0 : Int) atv1 r71 w0 R))) :
    Matches_c0 B1 atv1 ok few1 t42_l t42_c t43 t44 m0 m1 w0 R := by
  unfold Matches_c0
  refine AtE.run 5 (fun W => by kernel_rfl) ?_
  refine AtE.splitP 45 (p := t44 < t43) (by kernel_rfl) (fun h1' => ?_) (fun h1' => ?_)
  · replace H := H.1 h1'
    refine AtE.run 6 (fun W => by kernel_rfl) ?_
    refine AtE.indexAddrL (E := 3) (b := B1) (o := 0) (len := t42_l) (cap := t42_c) (sz := 1) (o' := (Int.toNat t44)) (kd := .i64) (i := t44) (by kernel_rfl) H.1 (by omega) ?_
    replace H := H.2
    obtain ⟨m2, hx, H⟩ := H
    refine AtE.loadS 0 (off := (Int.toNat t44)) (T := 3) (v := .int .i64 m2) (by kernel_rfl) (valAt_one hx (by kernel_rfl)) ?_
    refine AtE.run 5 (fun W => by kernel_rfl) ?_
    refine AtE.call 12 ⟨[.int .i64 m2]⟩ (fun W => by kernel_rfl) (by kernel_rfl) H ?_
    clear H
    rintro _ _ ⟨r31, r41, rfl, rfl, H⟩
    refine AtE.run 9 (fun W => by kernel_rfl) ?_
    refine AtE.call 13 ⟨[.int .i64 m2]⟩ (fun W => by kernel_rfl) (by kernel_rfl) H ?_
    clear H
    rintro _ _ ⟨r51, r61, rfl, rfl, H⟩
    refine AtE.run 12 (fun W => by kernel_rfl) ?_
    refine AtE.splitT 61 (x := r31) (y := r51) (by kernel_rfl) (fun h2' => ?_) (fun h2' => ?_)
    · replace H := H.1 h2'
      refine AtE.run 10 (fun W => by kernel_rfl) ?_
      exact AtE.ret Tryd.func3 (by kernel_rfl) H
    · replace H := H.2 h2'
      refine AtE.run 5 (fun W => by kernel_rfl) ?_
      refine AtE.splitN 65 (p := r41 = r61) (by kernel_rfl) (fun h3' => ?_) (fun h3' => ?_)
      · replace H := H.1 h3'
        refine AtE.run 5 (fun W => by kernel_rfl) ?_
        exact AtE.ret Tryd.func3 (by kernel_rfl) H
      · replace H := H.2 h3'
        refine AtE.run 8 (fun W => by kernel_rfl) ?_
        exact AtE.cut [0] H (by kernel_rfl)
  · replace H := H.2 h1'
    refine AtE.run 10 (fun W => by kernel_rfl) ?_
    refine AtE.call 14 ⟨[.int .i64 atv1, .int .i64 (IntKind.i64.wrap ((few1.size : Int) + (2 : Int)))]⟩ (fun W => by kernel_rfl) (by kernel_rfl) H ?_
    clear H
    rintro _ _ ⟨r71, rfl, rfl, H⟩
    refine AtE.new (fun B => .slice (some ⟨B, 0, none⟩) 2 2) (.cells #[.int .i64 atv1, .int .i64 r71] 3) (fun W => by kernel_rfl) (by kernel_rfl) (fun B2 => ?_)
    replace H := H B2
    refine AtE.run 5 (fun W => by kernel_rfl) ?_
    exact AtE.cut [1] H (by kernel_rfl)

theorem Matches_c1_vc (B3 : Nat) (ok1 : Bool) (few2 : ByteArray) (t73_l : Nat) (t73_c : Nat) (t74 : Int) (t75 : Int) (m01 : Int) (m11 : Int) {R : Ending → World → Prop} {w0 : World}
    (H :
      ((t75 < t74) →
        (0 ≤ t75 ∧ t75 < t73_l) ∧
        ∃ (m31 : Int), (([.int .i64 m01, .int .i64 m11] : List Value))[(Int.toNat t75)]? = some (.int .i64 m31) ∧
        CallH Tryd.prog 15 ⟨[.string few2, .int .i64 m31]⟩ [(B3, .cells #[.int .i64 m01, .int .i64 m11] 3)] [] w0 (fun v L' => ∃ (r81 : Int) (r91 : Int) (r101 : Int), v = (.tuple #[.int .i64 r81, .int .i64 r91, .int .i64 r101]) ∧ L' = [(B3, .cells #[.int .i64 m01, .int .i64 m11] 3)] ∧
          CallH Tryd.prog 16 ⟨[.string few2, .int .i64 m31]⟩ [(B3, .cells #[.int .i64 m01, .int .i64 m11] 3)] [] w0 (fun v L' => ∃ (r111 : Int) (r121 : Int) (r131 : Int), v = (.tuple #[.int .i64 r111, .int .i64 r121, .int .i64 r131]) ∧ L' = [(B3, .cells #[.int .i64 m01, .int .i64 m11] 3)] ∧
            CallH Tryd.prog 17 ⟨[.string few2, .int .i64 m31]⟩ [(B3, .cells #[.int .i64 m01, .int .i64 m11] 3)] [] w0 (fun v L' => ∃ (r141 : ByteArray) (r151 : Int) (r161 : Int), v = (.tuple #[.string r141, .int .i64 r151, .int .i64 r161]) ∧ L' = [(B3, .cells #[.int .i64 m01, .int .i64 m11] 3)] ∧
              CallH Tryd.prog 18 ⟨[.string few2, .int .i64 m31]⟩ [(B3, .cells #[.int .i64 m01, .int .i64 m11] 3)] [] w0 (fun v L' => ∃ (r171 : ByteArray) (r181 : Int) (r191 : Int), v = (.tuple #[.string r171, .int .i64 r181, .int .i64 r191]) ∧ L' = [(B3, .cells #[.int .i64 m01, .int .i64 m11] 3)] ∧
                ((¬ (r81 = r111)) →
                  Fin R [(B3, .cells #[.int .i64 m01, .int .i64 m11] 3)] [] w0 (.bool false)) ∧
                 ((r81 = r111) →
                  ((¬ (r91 = r121)) →
                    Fin R [(B3, .cells #[.int .i64 m01, .int .i64 m11] 3)] [] w0 (.bool false)) ∧
                   ((r91 = r121) →
                    ((¬ (r101 = r131)) →
                      Fin R [(B3, .cells #[.int .i64 m01, .int .i64 m11] 3)] [] w0 (.bool false)) ∧
                     ((r101 = r131) →
                      ((¬ r141 = r171) →
                        Fin R [(B3, .cells #[.int .i64 m01, .int .i64 m11] 3)] [] w0 (.bool false)) ∧
                       ((r141 = r171) →
                        ((¬ (r151 = r181)) →
                          Fin R [(B3, .cells #[.int .i64 m01, .int .i64 m11] 3)] [] w0 (.bool false)) ∧
                         ((r151 = r181) →
                          ((¬ (r161 = r191)) →
                            Fin R [(B3, .cells #[.int .i64 m01, .int .i64 m11] 3)] [] w0 (.bool false)) ∧
                           ((r161 = r191) →
                            Matches_c1 B3 ok1 few2 t73_l t73_c t74 (IntKind.i64.wrap (t75 + (1 : Int))) m01 m11 w0 R))))))))))) ∧
       ((¬ (t75 < t74)) →
        CallH Tryd.prog 19 ⟨[.string few2]⟩ [(B3, .cells #[.int .i64 m01, .int .i64 m11] 3)] [] w0 (fun v L' => ∃ (r201 : ByteArray) (r221 : Int), v = (.tuple #[.string r201, .int .i64 r221]) ∧ L' = [(B3, .cells #[.int .i64 m01, .int .i64 m11] 3)] ∧
          CallH Tryd.prog 20 ⟨[.string few2]⟩ [(B3, .cells #[.int .i64 m01, .int .i64 m11] 3)] [] w0 (fun v L' => ∃ (r231 : ByteArray) (r241 : Int), v = (.tuple #[.string r231, .int .i64 r241]) ∧ L' = [(B3, .cells #[.int .i64 m01, .int .i64 m11] 3)] ∧
            ((ok1 = true) →
              ((r201 = r231) →
                ((r221 = r241) →
                  CallH Tryd.prog 21 ⟨[.string few2]⟩ [(B3, .cells #[.int .i64 m01, .int .i64 m11] 3)] [] w0 (fun v L' => ∃ (r251 : Int), v = (.int .i64 r251) ∧ L' = [(B3, .cells #[.int .i64 m01, .int .i64 m11] 3)] ∧
                    CallH Tryd.prog 22 ⟨[.string few2]⟩ [(B3, .cells #[.int .i64 m01, .int .i64 m11] 3)] [] w0 (fun v L' => ∃ (r261 : Int), v = (.int .i64 r261) ∧ L' = [(B3, .cells #[.int .i64 m01, .int .i64 m11] 3)] ∧
                      Fin R [(B3, .cells #[.int .i64 m01, .int .i64 m11] 3)] [] w0 (.bool (decide (r251 = r261)))))) ∧
                 ((¬ (r221 = r241)) →
                  Fin R [(B3, .cells #[.int .i64 m01, .int .i64 m11] 3)] [] w0 (.bool false))) ∧
               ((¬ r201 = r231) →
                Fin R [(B3, .cells #[.int .i64 m01, .int .i64 m11] 3)] [] w0 (.bool false))) ∧
             ((ok1 = false) →
              Fin R [(B3, .cells #[.int .i64 m01, .int .i64 m11] 3)] [] w0 (.bool false)))))) :
    Matches_c1 B3 ok1 few2 t73_l t73_c t74 t75 m01 m11 w0 R := by
  unfold Matches_c1
  refine AtE.run 5 (fun W => by kernel_rfl) ?_
  refine AtE.splitP 76 (p := t75 < t74) (by kernel_rfl) (fun h4' => ?_) (fun h4' => ?_)
  · replace H := H.1 h4'
    refine AtE.run 6 (fun W => by kernel_rfl) ?_
    refine AtE.indexAddrL (E := 3) (b := B3) (o := 0) (len := t73_l) (cap := t73_c) (sz := 1) (o' := (Int.toNat t75)) (kd := .i64) (i := t75) (by kernel_rfl) H.1 (by omega) ?_
    replace H := H.2
    obtain ⟨m31, hx, H⟩ := H
    refine AtE.loadS 0 (off := (Int.toNat t75)) (T := 3) (v := .int .i64 m31) (by kernel_rfl) (valAt_one hx (by kernel_rfl)) ?_
    refine AtE.run 6 (fun W => by kernel_rfl) ?_
    refine AtE.call 15 ⟨[.string few2, .int .i64 m31]⟩ (fun W => by kernel_rfl) (by kernel_rfl) H ?_
    clear H
    rintro _ _ ⟨r81, r91, r101, rfl, rfl, H⟩
    refine AtE.run 12 (fun W => by kernel_rfl) ?_
    refine AtE.call 16 ⟨[.string few2, .int .i64 m31]⟩ (fun W => by kernel_rfl) (by kernel_rfl) H ?_
    clear H
    rintro _ _ ⟨r111, r121, r131, rfl, rfl, H⟩
    refine AtE.run 12 (fun W => by kernel_rfl) ?_
    refine AtE.call 17 ⟨[.string few2, .int .i64 m31]⟩ (fun W => by kernel_rfl) (by kernel_rfl) H ?_
    clear H
    rintro _ _ ⟨r141, r151, r161, rfl, rfl, H⟩
    refine AtE.run 12 (fun W => by kernel_rfl) ?_
    refine AtE.call 18 ⟨[.string few2, .int .i64 m31]⟩ (fun W => by kernel_rfl) (by kernel_rfl) H ?_
    clear H
    rintro _ _ ⟨r171, r181, r191, rfl, rfl, H⟩
    refine AtE.run 14 (fun W => by kernel_rfl) ?_
    refine AtE.splitN 110 (p := r81 = r111) (by kernel_rfl) (fun h5' => ?_) (fun h5' => ?_)
    · replace H := H.1 h5'
      refine AtE.run 30 (fun W => by kernel_rfl) ?_
      exact AtE.ret Tryd.func3 (by kernel_rfl) H
    · replace H := H.2 h5'
      refine AtE.run 5 (fun W => by kernel_rfl) ?_
      refine AtE.splitN 115 (p := r91 = r121) (by kernel_rfl) (fun h6' => ?_) (fun h6' => ?_)
      · replace H := H.1 h6'
        refine AtE.run 25 (fun W => by kernel_rfl) ?_
        exact AtE.ret Tryd.func3 (by kernel_rfl) H
      · replace H := H.2 h6'
        refine AtE.run 5 (fun W => by kernel_rfl) ?_
        refine AtE.splitN 120 (p := r101 = r131) (by kernel_rfl) (fun h7' => ?_) (fun h7' => ?_)
        · replace H := H.1 h7'
          refine AtE.run 20 (fun W => by kernel_rfl) ?_
          exact AtE.ret Tryd.func3 (by kernel_rfl) H
        · replace H := H.2 h7'
          refine AtE.run 5 (fun W => by kernel_rfl) ?_
          refine AtE.splitT 125 (x := r141) (y := r171) (by kernel_rfl) (fun h8' => ?_) (fun h8' => ?_)
          · replace H := H.1 h8'
            refine AtE.run 15 (fun W => by kernel_rfl) ?_
            exact AtE.ret Tryd.func3 (by kernel_rfl) H
          · replace H := H.2 h8'
            refine AtE.run 5 (fun W => by kernel_rfl) ?_
            refine AtE.splitN 130 (p := r151 = r181) (by kernel_rfl) (fun h9' => ?_) (fun h9' => ?_)
            · replace H := H.1 h9'
              refine AtE.run 10 (fun W => by kernel_rfl) ?_
              exact AtE.ret Tryd.func3 (by kernel_rfl) H
            · replace H := H.2 h9'
              refine AtE.run 5 (fun W => by kernel_rfl) ?_
              refine AtE.splitN 134 (p := r161 = r191) (by kernel_rfl) (fun h10' => ?_) (fun h10' => ?_)
              · replace H := H.1 h10'
                refine AtE.run 5 (fun W => by kernel_rfl) ?_
                exact AtE.ret Tryd.func3 (by kernel_rfl) H
              · replace H := H.2 h10'
                refine AtE.run 8 (fun W => by kernel_rfl) ?_
                exact AtE.cut [0] H (by kernel_rfl)
  · replace H := H.2 h4'
    refine AtE.run 5 (fun W => by kernel_rfl) ?_
    refine AtE.call 19 ⟨[.string few2]⟩ (fun W => by kernel_rfl) (by kernel_rfl) H ?_
    clear H
    rintro _ _ ⟨r201, r221, rfl, rfl, H⟩
    refine AtE.run 9 (fun W => by kernel_rfl) ?_
    refine AtE.call 20 ⟨[.string few2]⟩ (fun W => by kernel_rfl) (by kernel_rfl) H ?_
    clear H
    rintro _ _ ⟨r231, r241, rfl, rfl, H⟩
    refine AtE.run 10 (fun W => by kernel_rfl) ?_
    refine AtE.split 147 (b := ok1) (by kernel_rfl) (fun h11' => ?_) (fun h11' => ?_)
    · replace H := H.1 h11'
      refine AtE.run 5 (fun W => by kernel_rfl) ?_
      refine AtE.splitS 152 (x := r201) (y := r231) (by kernel_rfl) (fun h12' => ?_) (fun h12' => ?_)
      · replace H := H.1 h12'
        refine AtE.run 5 (fun W => by kernel_rfl) ?_
        refine AtE.splitP 157 (p := r221 = r241) (by kernel_rfl) (fun h13' => ?_) (fun h13' => ?_)
        · replace H := H.1 h13'
          refine AtE.run 1 (fun W => by kernel_rfl) ?_
          refine AtE.call 21 ⟨[.string few2]⟩ (fun W => by kernel_rfl) (by kernel_rfl) H ?_
          clear H
          rintro _ _ ⟨r251, rfl, rfl, H⟩
          refine AtE.run 1 (fun W => by kernel_rfl) ?_
          refine AtE.call 22 ⟨[.string few2]⟩ (fun W => by kernel_rfl) (by kernel_rfl) H ?_
          clear H
          rintro _ _ ⟨r261, rfl, rfl, H⟩
          refine AtE.run 4 (fun W => by kernel_rfl) ?_
          exact AtE.ret Tryd.func3 (by kernel_rfl) H
        · replace H := H.2 h13'
          refine AtE.run 8 (fun W => by kernel_rfl) ?_
          exact AtE.ret Tryd.func3 (by kernel_rfl) H
      · replace H := H.2 h12'
        refine AtE.run 13 (fun W => by kernel_rfl) ?_
        exact AtE.ret Tryd.func3 (by kernel_rfl) H
    · replace H := H.2 h11'
      refine AtE.run 18 (fun W => by kernel_rfl) ?_
      exact AtE.ret Tryd.func3 (by kernel_rfl) H

theorem Matches_vc (n : Int) (s : ByteArray) (atv : Int) {R : Ending → World → Prop} {w0 W : World} (hm : Mem [] [] w0 W)
    (H :
      CallH Tryd.prog 10 ⟨[]⟩ [] [] w0 (fun v L' => ∃ (r1 : Bool), v = (.bool r1) ∧ L' = [] ∧
        (0 ≤ (0 : Int) ∧ (0 : Int) ≤ (if (300 : Int) < (s.size : Int) then (300 : Int) else (s.size : Int)) ∧ (if (300 : Int) < (s.size : Int) then (300 : Int) else (s.size : Int)) ≤ s.size) ∧
        ∀ few : ByteArray, few = (s.extract 0 (Int.toNat (if (300 : Int) < (s.size : Int) then (300 : Int) else (s.size : Int)))) →
        CallH Tryd.prog 11 ⟨[.int .i64 n]⟩ [] [] w0 (fun v L' => ∃ (r21 : Int), v = (.int .i64 r21) ∧ L' = [] ∧
          ∀ B : Nat,
          Matches_c0 B atv r1 few 2 2 (2 : Int) (0 : Int) n r21 w0 R))) :
    Calls Tryd.prog 3 ⟨[.int .i64 n, .string s, .int .i64 atv]⟩ W R := by
  refine AtE.calls (nt := 164) Tryd.func3 (by kernel_rfl) hm ?_
  refine AtE.run 6 (fun W => by kernel_rfl) ?_
  refine AtE.call 10 ⟨[]⟩ (fun W => by kernel_rfl) (by kernel_rfl) H ?_
  clear H
  rintro _ _ ⟨r1, rfl, rfl, H⟩
  refine AtE.run 8 (fun W => by kernel_rfl) ?_
  refine AtE.sliceS (s := s) (lo := none) (hi := some (.int .i64 (if (300 : Int) < (s.size : Int) then (300 : Int) else (s.size : Int)))) (a := (0 : Int)) (b := (if (300 : Int) < (s.size : Int) then (300 : Int) else (s.size : Int))) (by kernel_rfl) (.inr ⟨rfl, rfl⟩) (.inl ⟨.i64, rfl⟩) H.1 ?_
  replace H := H.2
  refine AtE.run 1 (fun W => by kernel_rfl) ?_
  refine AtE.letS 8 (n := (s.extract 0 (Int.toNat (if (300 : Int) < (s.size : Int) then (300 : Int) else (s.size : Int))))) (by kernel_rfl) (fun few hfew => ?_)
  replace H := H few hfew
  refine AtE.run 6 (fun W => by kernel_rfl) ?_
  refine AtE.call 11 ⟨[.int .i64 n]⟩ (fun W => by kernel_rfl) (by kernel_rfl) H ?_
  clear H
  rintro _ _ ⟨r21, rfl, rfl, H⟩
  refine AtE.new (fun B => .slice (some ⟨B, 0, none⟩) 2 2) (.cells #[.int .i64 n, .int .i64 r21] 3) (fun W => by kernel_rfl) (by kernel_rfl) (fun B => ?_)
  replace H := H B
  refine AtE.run 5 (fun W => by kernel_rfl) ?_
  exact AtE.cut [0] H (by kernel_rfl)

theorem RoundTrip_vc (cv : Int) (text : ByteArray) (around_0 : ByteArray) (around_1 : ByteArray) {R : Ending → World → Prop} {w0 W : World} (hm : Mem [] [] w0 W)
    (H :
      ∀ B : Nat,
      CallH Tryd.prog 10 ⟨[]⟩ [(B, .cells #[.string around_0, .string around_1] 36)] [] w0 (fun v L' => ∃ (r1 : Bool), v = (.bool r1) ∧ L' = [(B, .cells #[.string around_0, .string around_1] 36)] ∧
        CallH Tryd.prog 11 ⟨[.int .i64 cv]⟩ [(B, .cells #[.string around_0, .string around_1] 36)] [] w0 (fun v L' => ∃ (r21 : Int), v = (.int .i64 r21) ∧ L' = [(B, .cells #[.string around_0, .string around_1] 36)] ∧
          (0 ≤ (0 : Int) ∧ (0 : Int) ≤ (if (200 : Int) < (around_0.size : Int) then (200 : Int) else (around_0.size : Int)) ∧ (if (200 : Int) < (around_0.size : Int) then (200 : Int) else (around_0.size : Int)) ≤ around_0.size) ∧
          ∀ p : ByteArray, p = (around_0.extract 0 (Int.toNat (if (200 : Int) < (around_0.size : Int) then (200 : Int) else (around_0.size : Int)))) →
          (0 ≤ (0 : Int) ∧ (0 : Int) ≤ (if (200 : Int) < (around_1.size : Int) then (200 : Int) else (around_1.size : Int)) ∧ (if (200 : Int) < (around_1.size : Int) then (200 : Int) else (around_1.size : Int)) ≤ around_1.size) ∧
          ∀ q : ByteArray, q = (around_1.extract 0 (Int.toNat (if (200 : Int) < (around_1.size : Int) then (200 : Int) else (around_1.size : Int)))) →
          (0 ≤ (0 : Int) ∧ (0 : Int) ≤ (if (200 : Int) < (text.size : Int) then (200 : Int) else (text.size : Int)) ∧ (if (200 : Int) < (text.size : Int) then (200 : Int) else (text.size : Int)) ≤ text.size) ∧
          ∀ t : ByteArray, t = (text.extract 0 (Int.toNat (if (200 : Int) < (text.size : Int) then (200 : Int) else (text.size : Int)))) →
          CallH Tryd.prog 12 ⟨[.int .i64 r21]⟩ [(B, .cells #[.string around_0, .string around_1] 36)] [] w0 (fun v L' => ∃ (r31 : ByteArray) (r41 : Int), v = (.tuple #[.string r31, .int .i64 r41]) ∧ L' = [(B, .cells #[.string around_0, .string around_1] 36)] ∧
            CallH Tryd.prog 19 ⟨[.string t]⟩ [(B, .cells #[.string around_0, .string around_1] 36)] [] w0 (fun v L' => ∃ (r51 : ByteArray) (r61 : Int), v = (.tuple #[.string r51, .int .i64 r61]) ∧ L' = [(B, .cells #[.string around_0, .string around_1] 36)] ∧
              (p.size + r31.size ≤ 9223372036854775807) ∧
              ((p ++ r31).size + q.size ≤ 9223372036854775807) ∧
              CallH Tryd.prog 15 ⟨[.string ((p ++ r31) ++ q), .int .i64 (p.size : Int)]⟩ [(B, .cells #[.string around_0, .string around_1] 36)] [] w0 (fun v L' => ∃ (r71 : Int) (r81 : Int) (r91 : Int), v = (.tuple #[.int .i64 r71, .int .i64 r81, .int .i64 r91]) ∧ L' = [(B, .cells #[.string around_0, .string around_1] 36)] ∧
                (p.size + r51.size ≤ 9223372036854775807) ∧
                ((p ++ r51).size + q.size ≤ 9223372036854775807) ∧
                CallH Tryd.prog 17 ⟨[.string ((p ++ r51) ++ q), .int .i64 (p.size : Int)]⟩ [(B, .cells #[.string around_0, .string around_1] 36)] [] w0 (fun v L' => ∃ (r101 : ByteArray) (r111 : Int) (r121 : Int), v = (.tuple #[.string r101, .int .i64 r111, .int .i64 r121]) ∧ L' = [(B, .cells #[.string around_0, .string around_1] 36)] ∧
                  ((r1 = true) →
                    ((r41 = (0 : Int)) →
                      ((r61 = (0 : Int)) →
                        ((r91 = (0 : Int)) →
                          ((r121 = (0 : Int)) →
                            ((r71 = r21) →
                              ((r81 = (IntKind.i64.wrap ((p.size : Int) + (r31.size : Int)))) →
                                ((r101 = t) →
                                  Fin R [(B, .cells #[.string around_0, .string around_1] 36)] [] w0 (.bool (decide (r111 = (IntKind.i64.wrap ((p.size : Int) + (r51.size : Int))))))) ∧
                                 ((¬ r101 = t) →
                                  Fin R [(B, .cells #[.string around_0, .string around_1] 36)] [] w0 (.bool false))) ∧
                               ((¬ (r81 = (IntKind.i64.wrap ((p.size : Int) + (r31.size : Int))))) →
                                Fin R [(B, .cells #[.string around_0, .string around_1] 36)] [] w0 (.bool false))) ∧
                             ((¬ (r71 = r21)) →
                              Fin R [(B, .cells #[.string around_0, .string around_1] 36)] [] w0 (.bool false))) ∧
                           ((¬ (r121 = (0 : Int))) →
                            Fin R [(B, .cells #[.string around_0, .string around_1] 36)] [] w0 (.bool false))) ∧
                         ((¬ (r91 = (0 : Int))) →
                          Fin R [(B, .cells #[.string around_0, .string around_1] 36)] [] w0 (.bool false))) ∧
                       ((¬ (r61 = (0 : Int))) →
                        Fin R [(B, .cells #[.string around_0, .string around_1] 36)] [] w0 (.bool false))) ∧
                     ((¬ (r41 = (0 : Int))) →
                      Fin R [(B, .cells #[.string around_0, .string around_1] 36)] [] w0 (.bool false))) ∧
                   ((r1 = false) →
                    Fin R [(B, .cells #[.string around_0, .string around_1] 36)] [] w0 (.bool false))))))))) :
    Calls Tryd.prog 4 ⟨[.int .i64 cv, .string text, .agg #[.string around_0, .string around_1]]⟩ W R := by
  refine AtE.calls (nt := 123) Tryd.func4 (by kernel_rfl) hm ?_
  refine AtE.run 2 (fun W => by kernel_rfl) ?_
  refine AtE.new (fun B => .pointer (some ⟨B, 0, none⟩)) (.cells #[.string around_0, .string around_1] 36) (fun W => by kernel_rfl) (by kernel_rfl) (fun B => ?_)
  replace H := H B
  refine AtE.run 4 (fun W => by kernel_rfl) ?_
  refine AtE.call 10 ⟨[]⟩ (fun W => by kernel_rfl) (by kernel_rfl) H ?_
  clear H
  rintro _ _ ⟨r1, rfl, rfl, H⟩
  refine AtE.run 5 (fun W => by kernel_rfl) ?_
  refine AtE.call 11 ⟨[.int .i64 cv]⟩ (fun W => by kernel_rfl) (by kernel_rfl) H ?_
  clear H
  rintro _ _ ⟨r21, rfl, rfl, H⟩
  refine AtE.run 5 (fun W => by kernel_rfl) ?_
  refine AtE.load 0 0 (T := 9) (v := .string around_0) (by kernel_rfl) ?_
  refine AtE.run 1 (fun W => by kernel_rfl) ?_
  refine AtE.load 0 0 (T := 9) (v := .string around_0) (by kernel_rfl) ?_
  refine AtE.run 2 (fun W => by kernel_rfl) ?_
  refine AtE.sliceS (s := around_0) (lo := none) (hi := some (.int .i64 (if (200 : Int) < (around_0.size : Int) then (200 : Int) else (around_0.size : Int)))) (a := (0 : Int)) (b := (if (200 : Int) < (around_0.size : Int) then (200 : Int) else (around_0.size : Int))) (by kernel_rfl) (.inr ⟨rfl, rfl⟩) (.inl ⟨.i64, rfl⟩) H.1 ?_
  replace H := H.2
  refine AtE.run 1 (fun W => by kernel_rfl) ?_
  refine AtE.letS 9 (n := (around_0.extract 0 (Int.toNat (if (200 : Int) < (around_0.size : Int) then (200 : Int) else (around_0.size : Int))))) (by kernel_rfl) (fun p hp => ?_)
  replace H := H p hp
  refine AtE.run 4 (fun W => by kernel_rfl) ?_
  refine AtE.load 0 1 (T := 9) (v := .string around_1) (by kernel_rfl) ?_
  refine AtE.run 1 (fun W => by kernel_rfl) ?_
  refine AtE.load 0 1 (T := 9) (v := .string around_1) (by kernel_rfl) ?_
  refine AtE.run 2 (fun W => by kernel_rfl) ?_
  refine AtE.sliceS (s := around_1) (lo := none) (hi := some (.int .i64 (if (200 : Int) < (around_1.size : Int) then (200 : Int) else (around_1.size : Int)))) (a := (0 : Int)) (b := (if (200 : Int) < (around_1.size : Int) then (200 : Int) else (around_1.size : Int))) (by kernel_rfl) (.inr ⟨rfl, rfl⟩) (.inl ⟨.i64, rfl⟩) H.1 ?_
  replace H := H.2
  refine AtE.run 1 (fun W => by kernel_rfl) ?_
  refine AtE.letS 10 (n := (around_1.extract 0 (Int.toNat (if (200 : Int) < (around_1.size : Int) then (200 : Int) else (around_1.size : Int))))) (by kernel_rfl) (fun q hq => ?_)
  replace H := H q hq
  refine AtE.run 7 (fun W => by kernel_rfl) ?_
  refine AtE.sliceS (s := text) (lo := none) (hi := some (.int .i64 (if (200 : Int) < (text.size : Int) then (200 : Int) else (text.size : Int)))) (a := (0 : Int)) (b := (if (200 : Int) < (text.size : Int) then (200 : Int) else (text.size : Int))) (by kernel_rfl) (.inr ⟨rfl, rfl⟩) (.inl ⟨.i64, rfl⟩) H.1 ?_
  replace H := H.2
  refine AtE.run 1 (fun W => by kernel_rfl) ?_
  refine AtE.letS 11 (n := (text.extract 0 (Int.toNat (if (200 : Int) < (text.size : Int) then (200 : Int) else (text.size : Int))))) (by kernel_rfl) (fun t ht => ?_)
  replace H := H t ht
  refine AtE.run 4 (fun W => by kernel_rfl) ?_
  refine AtE.call 12 ⟨[.int .i64 r21]⟩ (fun W => by kernel_rfl) (by kernel_rfl) H ?_
  clear H
  rintro _ _ ⟨r31, r41, rfl, rfl, H⟩
  refine AtE.run 9 (fun W => by kernel_rfl) ?_
  refine AtE.call 19 ⟨[.string t]⟩ (fun W => by kernel_rfl) (by kernel_rfl) H ?_
  clear H
  rintro _ _ ⟨r51, r61, rfl, rfl, H⟩
  refine AtE.run 10 (fun W => by kernel_rfl) ?_
  refine AtE.concat (x := p) (y := r31) (by kernel_rfl) H.1 ?_
  replace H := H.2
  refine AtE.run 1 (fun W => by kernel_rfl) ?_
  refine AtE.concat (x := (p ++ r31)) (y := q) (by kernel_rfl) H.1 ?_
  replace H := H.2
  refine AtE.run 2 (fun W => by kernel_rfl) ?_
  refine AtE.call 15 ⟨[.string ((p ++ r31) ++ q), .int .i64 (p.size : Int)]⟩ (fun W => by kernel_rfl) (by kernel_rfl) H ?_
  clear H
  rintro _ _ ⟨r71, r81, r91, rfl, rfl, H⟩
  refine AtE.run 12 (fun W => by kernel_rfl) ?_
  refine AtE.concat (x := p) (y := r51) (by kernel_rfl) H.1 ?_
  replace H := H.2
  refine AtE.run 1 (fun W => by kernel_rfl) ?_
  refine AtE.concat (x := (p ++ r51)) (y := q) (by kernel_rfl) H.1 ?_
  replace H := H.2
  refine AtE.run 2 (fun W => by kernel_rfl) ?_
  refine AtE.call 17 ⟨[.string ((p ++ r51) ++ q), .int .i64 (p.size : Int)]⟩ (fun W => by kernel_rfl) (by kernel_rfl) H ?_
  clear H
  rintro _ _ ⟨r101, r111, r121, rfl, rfl, H⟩
  refine AtE.run 12 (fun W => by kernel_rfl) ?_
  refine AtE.split 79 (b := r1) (by kernel_rfl) (fun h1' => ?_) (fun h1' => ?_)
  · replace H := H.1 h1'
    refine AtE.run 4 (fun W => by kernel_rfl) ?_
    refine AtE.splitP 83 (p := r41 = (0 : Int)) (by kernel_rfl) (fun h2' => ?_) (fun h2' => ?_)
    · replace H := H.1 h2'
      refine AtE.run 4 (fun W => by kernel_rfl) ?_
      refine AtE.splitP 87 (p := r61 = (0 : Int)) (by kernel_rfl) (fun h3' => ?_) (fun h3' => ?_)
      · replace H := H.1 h3'
        refine AtE.run 4 (fun W => by kernel_rfl) ?_
        refine AtE.splitP 91 (p := r91 = (0 : Int)) (by kernel_rfl) (fun h4' => ?_) (fun h4' => ?_)
        · replace H := H.1 h4'
          refine AtE.run 4 (fun W => by kernel_rfl) ?_
          refine AtE.splitP 95 (p := r121 = (0 : Int)) (by kernel_rfl) (fun h5' => ?_) (fun h5' => ?_)
          · replace H := H.1 h5'
            refine AtE.run 5 (fun W => by kernel_rfl) ?_
            refine AtE.splitP 100 (p := r71 = r21) (by kernel_rfl) (fun h6' => ?_) (fun h6' => ?_)
            · replace H := H.1 h6'
              refine AtE.run 9 (fun W => by kernel_rfl) ?_
              refine AtE.splitP 109 (p := r81 = (IntKind.i64.wrap ((p.size : Int) + (r31.size : Int)))) (by kernel_rfl) (fun h7' => ?_) (fun h7' => ?_)
              · replace H := H.1 h7'
                refine AtE.run 5 (fun W => by kernel_rfl) ?_
                refine AtE.splitS 114 (x := r101) (y := t) (by kernel_rfl) (fun h8' => ?_) (fun h8' => ?_)
                · replace H := H.1 h8'
                  refine AtE.run 10 (fun W => by kernel_rfl) ?_
                  exact AtE.ret Tryd.func4 (by kernel_rfl) H
                · replace H := H.2 h8'
                  refine AtE.run 10 (fun W => by kernel_rfl) ?_
                  exact AtE.ret Tryd.func4 (by kernel_rfl) H
              · replace H := H.2 h7'
                refine AtE.run 15 (fun W => by kernel_rfl) ?_
                exact AtE.ret Tryd.func4 (by kernel_rfl) H
            · replace H := H.2 h6'
              refine AtE.run 24 (fun W => by kernel_rfl) ?_
              exact AtE.ret Tryd.func4 (by kernel_rfl) H
          · replace H := H.2 h5'
            refine AtE.run 29 (fun W => by kernel_rfl) ?_
            exact AtE.ret Tryd.func4 (by kernel_rfl) H
        · replace H := H.2 h4'
          refine AtE.run 33 (fun W => by kernel_rfl) ?_
          exact AtE.ret Tryd.func4 (by kernel_rfl) H
      · replace H := H.2 h3'
        refine AtE.run 37 (fun W => by kernel_rfl) ?_
        exact AtE.ret Tryd.func4 (by kernel_rfl) H
    · replace H := H.2 h2'
      refine AtE.run 41 (fun W => by kernel_rfl) ?_
      exact AtE.ret Tryd.func4 (by kernel_rfl) H
  · replace H := H.2 h1'
    refine AtE.run 45 (fun W => by kernel_rfl) ?_
    exact AtE.ret Tryd.func4 (by kernel_rfl) H

theorem Truncated_vc (cv : Int) (d : Int) (text : ByteArray) (atv : Int) {R : Ending → World → Prop} {w0 W : World} (hm : Mem [] [] w0 W)
    (H :
      CallH Tryd.prog 10 ⟨[]⟩ [] [] w0 (fun v L' => ∃ (r1 : Bool), v = (.bool r1) ∧ L' = [] ∧
        CallH Tryd.prog 11 ⟨[.int .i64 cv]⟩ [] [] w0 (fun v L' => ∃ (r21 : Int), v = (.int .i64 r21) ∧ L' = [] ∧
          CallH Tryd.prog 12 ⟨[.int .i64 r21]⟩ [] [] w0 (fun v L' => ∃ (r31 : ByteArray) (r41 : Int), v = (.tuple #[.string r31, .int .i64 r41]) ∧ L' = [] ∧
            CallH Tryd.prog 11 ⟨[.int .i64 d]⟩ [] [] w0 (fun v L' => ∃ (r51 : Int), v = (.int .i64 r51) ∧ L' = [] ∧
              CallH Tryd.prog 12 ⟨[.int .i64 r51]⟩ [] [] w0 (fun v L' => ∃ (r61 : ByteArray) (r71 : Int), v = (.tuple #[.string r61, .int .i64 r71]) ∧ L' = [] ∧
                (0 ≤ (0 : Int) ∧ (0 : Int) ≤ (if (200 : Int) < (text.size : Int) then (200 : Int) else (text.size : Int)) ∧ (if (200 : Int) < (text.size : Int) then (200 : Int) else (text.size : Int)) ≤ text.size) ∧
                CallH Tryd.prog 19 ⟨[.string (text.extract 0 (Int.toNat (if (200 : Int) < (text.size : Int) then (200 : Int) else (text.size : Int))))]⟩ [] [] w0 (fun v L' => ∃ (r81 : ByteArray) (r91 : Int), v = (.tuple #[.string r81, .int .i64 r91]) ∧ L' = [] ∧
                  ((¬ (r41 = (0 : Int))) →
                    Fin R [] [] w0 (.bool false)) ∧
                   ((r41 = (0 : Int)) →
                    ((¬ (r71 = (0 : Int))) →
                      Fin R [] [] w0 (.bool false)) ∧
                     ((r71 = (0 : Int)) →
                      ((¬ (r91 = (0 : Int))) →
                        Fin R [] [] w0 (.bool false)) ∧
                       ((r91 = (0 : Int)) →
                        (((r31.size : Int) = (0 : Int)) →
                          Fin R [] [] w0 (.bool false)) ∧
                         ((¬ ((r31.size : Int) = (0 : Int))) →
                          (((r81.size : Int) = (0 : Int)) →
                            Fin R [] [] w0 (.bool false)) ∧
                           ((¬ ((r81.size : Int) = (0 : Int))) →
                            CallH Tryd.prog 14 ⟨[.int .i64 atv, .int .i64 (r31.size : Int)]⟩ [] [] w0 (fun v L' => ∃ (r101 : Int), v = (.int .i64 r101) ∧ L' = [] ∧
                              (0 ≤ (0 : Int) ∧ (0 : Int) ≤ r101 ∧ r101 ≤ r31.size) ∧
                              CallH Tryd.prog 15 ⟨[.string (r31.extract 0 (Int.toNat r101)), .int .i64 (0 : Int)]⟩ [] [] w0 (fun v L' => ∃ (r111 : Int) (r121 : Int) (r131 : Int), v = (.tuple #[.int .i64 r111, .int .i64 r121, .int .i64 r131]) ∧ L' = [] ∧
                                CallH Tryd.prog 14 ⟨[.int .i64 atv, .int .i64 (r81.size : Int)]⟩ [] [] w0 (fun v L' => ∃ (r141 : Int), v = (.int .i64 r141) ∧ L' = [] ∧
                                  (0 ≤ (0 : Int) ∧ (0 : Int) ≤ r141 ∧ r141 ≤ r81.size) ∧
                                  CallH Tryd.prog 17 ⟨[.string (r81.extract 0 (Int.toNat r141)), .int .i64 (0 : Int)]⟩ [] [] w0 (fun v L' => ∃ (r151 : ByteArray) (r161 : Int) (r171 : Int), v = (.tuple #[.string r151, .int .i64 r161, .int .i64 r171]) ∧ L' = [] ∧
                                    (((r31.size : Int) ≤ (r61.size : Int)) →
                                      (0 ≤ (0 : Int) ∧ (0 : Int) ≤ (r31.size : Int) ∧ (r31.size : Int) ≤ r61.size) ∧
                                      ((r1 = true) →
                                        ((r131 = (10 : Int)) →
                                          ((r171 = (10 : Int)) →
                                            CallH Tryd.prog 11 ⟨[.int .i64 cv]⟩ [] [] w0 (fun v L' => ∃ (r181 : Int), v = (.int .i64 r181) ∧ L' = [] ∧
                                              CallH Tryd.prog 11 ⟨[.int .i64 d]⟩ [] [] w0 (fun v L' => ∃ (r191 : Int), v = (.int .i64 r191) ∧ L' = [] ∧
                                                (((r61.extract 0 (Int.toNat (r31.size : Int))) = r31) →
                                                  ((r181 = r191) →
                                                    Fin R [] [] w0 (.bool true)) ∧
                                                   ((¬ (r181 = r191)) →
                                                    Fin R [] [] w0 (.bool false))) ∧
                                                 ((¬ (r61.extract 0 (Int.toNat (r31.size : Int))) = r31) →
                                                  ((r181 = r191) →
                                                    Fin R [] [] w0 (.bool false)) ∧
                                                   ((¬ (r181 = r191)) →
                                                    Fin R [] [] w0 (.bool true)))))) ∧
                                           ((¬ (r171 = (10 : Int))) →
                                            Fin R [] [] w0 (.bool false))) ∧
                                         ((¬ (r131 = (10 : Int))) →
                                          Fin R [] [] w0 (.bool false))) ∧
                                       ((r1 = false) →
                                        Fin R [] [] w0 (.bool false))) ∧
                                     ((¬ ((r31.size : Int) ≤ (r61.size : Int))) →
                                      ((r1 = true) →
                                        ((r131 = (10 : Int)) →
                                          ((r171 = (10 : Int)) →
                                            CallH Tryd.prog 11 ⟨[.int .i64 cv]⟩ [] [] w0 (fun v L' => ∃ (r201 : Int), v = (.int .i64 r201) ∧ L' = [] ∧
                                              CallH Tryd.prog 11 ⟨[.int .i64 d]⟩ [] [] w0 (fun v L' => ∃ (r221 : Int), v = (.int .i64 r221) ∧ L' = [] ∧
                                                ((r201 = r221) →
                                                  Fin R [] [] w0 (.bool false)) ∧
                                                 ((¬ (r201 = r221)) →
                                                  Fin R [] [] w0 (.bool true))))) ∧
                                           ((¬ (r171 = (10 : Int))) →
                                            Fin R [] [] w0 (.bool false))) ∧
                                         ((¬ (r131 = (10 : Int))) →
                                          Fin R [] [] w0 (.bool false))) ∧
                                       ((r1 = false) →
                                        Fin R [] [] w0 (.bool false))))))))))))))))))) :
    Calls Tryd.prog 7 ⟨[.int .i64 cv, .int .i64 d, .string text, .int .i64 atv]⟩ W R := by
  refine AtE.calls (nt := 118) Tryd.func7 (by kernel_rfl) hm ?_
  refine AtE.run 6 (fun W => by kernel_rfl) ?_
  refine AtE.call 10 ⟨[]⟩ (fun W => by kernel_rfl) (by kernel_rfl) H ?_
  clear H
  rintro _ _ ⟨r1, rfl, rfl, H⟩
  refine AtE.run 5 (fun W => by kernel_rfl) ?_
  refine AtE.call 11 ⟨[.int .i64 cv]⟩ (fun W => by kernel_rfl) (by kernel_rfl) H ?_
  clear H
  rintro _ _ ⟨r21, rfl, rfl, H⟩
  refine AtE.call 12 ⟨[.int .i64 r21]⟩ (fun W => by kernel_rfl) (by kernel_rfl) H ?_
  clear H
  rintro _ _ ⟨r31, r41, rfl, rfl, H⟩
  refine AtE.run 9 (fun W => by kernel_rfl) ?_
  refine AtE.call 11 ⟨[.int .i64 d]⟩ (fun W => by kernel_rfl) (by kernel_rfl) H ?_
  clear H
  rintro _ _ ⟨r51, rfl, rfl, H⟩
  refine AtE.call 12 ⟨[.int .i64 r51]⟩ (fun W => by kernel_rfl) (by kernel_rfl) H ?_
  clear H
  rintro _ _ ⟨r61, r71, rfl, rfl, H⟩
  refine AtE.run 12 (fun W => by kernel_rfl) ?_
  refine AtE.sliceS (s := text) (lo := none) (hi := some (.int .i64 (if (200 : Int) < (text.size : Int) then (200 : Int) else (text.size : Int)))) (a := (0 : Int)) (b := (if (200 : Int) < (text.size : Int) then (200 : Int) else (text.size : Int))) (by kernel_rfl) (.inr ⟨rfl, rfl⟩) (.inl ⟨.i64, rfl⟩) H.1 ?_
  replace H := H.2
  refine AtE.call 19 ⟨[.string (text.extract 0 (Int.toNat (if (200 : Int) < (text.size : Int) then (200 : Int) else (text.size : Int))))]⟩ (fun W => by kernel_rfl) (by kernel_rfl) H ?_
  clear H
  rintro _ _ ⟨r81, r91, rfl, rfl, H⟩
  refine AtE.run 12 (fun W => by kernel_rfl) ?_
  refine AtE.splitN 47 (p := r41 = (0 : Int)) (by kernel_rfl) (fun h1' => ?_) (fun h1' => ?_)
  · replace H := H.1 h1'
    refine AtE.run 23 (fun W => by kernel_rfl) ?_
    exact AtE.ret Tryd.func7 (by kernel_rfl) H
  · replace H := H.2 h1'
    refine AtE.run 4 (fun W => by kernel_rfl) ?_
    refine AtE.splitN 51 (p := r71 = (0 : Int)) (by kernel_rfl) (fun h2' => ?_) (fun h2' => ?_)
    · replace H := H.1 h2'
      refine AtE.run 19 (fun W => by kernel_rfl) ?_
      exact AtE.ret Tryd.func7 (by kernel_rfl) H
    · replace H := H.2 h2'
      refine AtE.run 4 (fun W => by kernel_rfl) ?_
      refine AtE.splitN 55 (p := r91 = (0 : Int)) (by kernel_rfl) (fun h3' => ?_) (fun h3' => ?_)
      · replace H := H.1 h3'
        refine AtE.run 15 (fun W => by kernel_rfl) ?_
        exact AtE.ret Tryd.func7 (by kernel_rfl) H
      · replace H := H.2 h3'
        refine AtE.run 5 (fun W => by kernel_rfl) ?_
        refine AtE.splitP 60 (p := (r31.size : Int) = (0 : Int)) (by kernel_rfl) (fun h4' => ?_) (fun h4' => ?_)
        · replace H := H.1 h4'
          refine AtE.run 10 (fun W => by kernel_rfl) ?_
          exact AtE.ret Tryd.func7 (by kernel_rfl) H
        · replace H := H.2 h4'
          refine AtE.run 5 (fun W => by kernel_rfl) ?_
          refine AtE.splitP 64 (p := (r81.size : Int) = (0 : Int)) (by kernel_rfl) (fun h5' => ?_) (fun h5' => ?_)
          · replace H := H.1 h5'
            refine AtE.run 5 (fun W => by kernel_rfl) ?_
            exact AtE.ret Tryd.func7 (by kernel_rfl) H
          · replace H := H.2 h5'
            refine AtE.run 8 (fun W => by kernel_rfl) ?_
            refine AtE.call 14 ⟨[.int .i64 atv, .int .i64 (r31.size : Int)]⟩ (fun W => by kernel_rfl) (by kernel_rfl) H ?_
            clear H
            rintro _ _ ⟨r101, rfl, rfl, H⟩
            refine AtE.sliceS (s := r31) (lo := none) (hi := some (.int .i64 r101)) (a := (0 : Int)) (b := r101) (by kernel_rfl) (.inr ⟨rfl, rfl⟩) (.inl ⟨.i64, rfl⟩) H.1 ?_
            replace H := H.2
            refine AtE.call 15 ⟨[.string (r31.extract 0 (Int.toNat r101)), .int .i64 (0 : Int)]⟩ (fun W => by kernel_rfl) (by kernel_rfl) H ?_
            clear H
            rintro _ _ ⟨r111, r121, r131, rfl, rfl, H⟩
            refine AtE.run 14 (fun W => by kernel_rfl) ?_
            refine AtE.call 14 ⟨[.int .i64 atv, .int .i64 (r81.size : Int)]⟩ (fun W => by kernel_rfl) (by kernel_rfl) H ?_
            clear H
            rintro _ _ ⟨r141, rfl, rfl, H⟩
            refine AtE.sliceS (s := r81) (lo := none) (hi := some (.int .i64 r141)) (a := (0 : Int)) (b := r141) (by kernel_rfl) (.inr ⟨rfl, rfl⟩) (.inl ⟨.i64, rfl⟩) H.1 ?_
            replace H := H.2
            refine AtE.call 17 ⟨[.string (r81.extract 0 (Int.toNat r141)), .int .i64 (0 : Int)]⟩ (fun W => by kernel_rfl) (by kernel_rfl) H ?_
            clear H
            rintro _ _ ⟨r151, r161, r171, rfl, rfl, H⟩
            refine AtE.run 16 (fun W => by kernel_rfl) ?_
            refine AtE.splitP 92 (p := (r31.size : Int) ≤ (r61.size : Int)) (by kernel_rfl) (fun h6' => ?_) (fun h6' => ?_)
            · replace H := H.1 h6'
              refine AtE.run 3 (fun W => by kernel_rfl) ?_
              refine AtE.sliceS (s := r61) (lo := none) (hi := some (.int .i64 (r31.size : Int))) (a := (0 : Int)) (b := (r31.size : Int)) (by kernel_rfl) (.inr ⟨rfl, rfl⟩) (.inl ⟨.i64, rfl⟩) H.1 ?_
              replace H := H.2
              refine AtE.run 9 (fun W => by kernel_rfl) ?_
              refine AtE.split 101 (b := r1) (by kernel_rfl) (fun h7' => ?_) (fun h7' => ?_)
              · replace H := H.1 h7'
                refine AtE.run 4 (fun W => by kernel_rfl) ?_
                refine AtE.splitP 105 (p := r131 = (10 : Int)) (by kernel_rfl) (fun h8' => ?_) (fun h8' => ?_)
                · replace H := H.1 h8'
                  refine AtE.run 4 (fun W => by kernel_rfl) ?_
                  refine AtE.splitP 109 (p := r171 = (10 : Int)) (by kernel_rfl) (fun h9' => ?_) (fun h9' => ?_)
                  · replace H := H.1 h9'
                    refine AtE.run 2 (fun W => by kernel_rfl) ?_
                    refine AtE.call 11 ⟨[.int .i64 cv]⟩ (fun W => by kernel_rfl) (by kernel_rfl) H ?_
                    clear H
                    rintro _ _ ⟨r181, rfl, rfl, H⟩
                    refine AtE.run 1 (fun W => by kernel_rfl) ?_
                    refine AtE.call 11 ⟨[.int .i64 d]⟩ (fun W => by kernel_rfl) (by kernel_rfl) H ?_
                    clear H
                    rintro _ _ ⟨r191, rfl, rfl, H⟩
                    refine AtE.run 1 (fun W => by kernel_rfl) ?_
                    refine AtE.splitS 110 (x := (r61.extract 0 (Int.toNat (r31.size : Int)))) (y := r31) (by kernel_rfl) (fun h10' => ?_) (fun h10' => ?_)
                    · replace H := H.1 h10'
                      refine AtE.splitP 115 (p := r181 = r191) (by kernel_rfl) (fun h11' => ?_) (fun h11' => ?_)
                      · replace H := H.1 h11'
                        refine AtE.run 4 (fun W => by kernel_rfl) ?_
                        exact AtE.ret Tryd.func7 (by kernel_rfl) H
                      · replace H := H.2 h11'
                        refine AtE.run 4 (fun W => by kernel_rfl) ?_
                        exact AtE.ret Tryd.func7 (by kernel_rfl) H
                    · replace H := H.2 h10'
                      refine AtE.splitP 115 (p := r181 = r191) (by kernel_rfl) (fun h12' => ?_) (fun h12' => ?_)
                      · replace H := H.1 h12'
                        refine AtE.run 4 (fun W => by kernel_rfl) ?_
                        exact AtE.ret Tryd.func7 (by kernel_rfl) H
                      · replace H := H.2 h12'
                        refine AtE.run 4 (fun W => by kernel_rfl) ?_
                        exact AtE.ret Tryd.func7 (by kernel_rfl) H
                  · replace H := H.2 h9'
                    refine AtE.run 10 (fun W => by kernel_rfl) ?_
                    exact AtE.ret Tryd.func7 (by kernel_rfl) H
                · replace H := H.2 h8'
                  refine AtE.run 14 (fun W => by kernel_rfl) ?_
                  exact AtE.ret Tryd.func7 (by kernel_rfl) H
              · replace H := H.2 h7'
                refine AtE.run 18 (fun W => by kernel_rfl) ?_
                exact AtE.ret Tryd.func7 (by kernel_rfl) H
            · replace H := H.2 h6'
              refine AtE.run 13 (fun W => by kernel_rfl) ?_
              refine AtE.split 101 (b := r1) (by kernel_rfl) (fun h13' => ?_) (fun h13' => ?_)
              · replace H := H.1 h13'
                refine AtE.run 4 (fun W => by kernel_rfl) ?_
                refine AtE.splitP 105 (p := r131 = (10 : Int)) (by kernel_rfl) (fun h14' => ?_) (fun h14' => ?_)
                · replace H := H.1 h14'
                  refine AtE.run 4 (fun W => by kernel_rfl) ?_
                  refine AtE.splitP 109 (p := r171 = (10 : Int)) (by kernel_rfl) (fun h15' => ?_) (fun h15' => ?_)
                  · replace H := H.1 h15'
                    refine AtE.run 2 (fun W => by kernel_rfl) ?_
                    refine AtE.call 11 ⟨[.int .i64 cv]⟩ (fun W => by kernel_rfl) (by kernel_rfl) H ?_
                    clear H
                    rintro _ _ ⟨r201, rfl, rfl, H⟩
                    refine AtE.run 1 (fun W => by kernel_rfl) ?_
                    refine AtE.call 11 ⟨[.int .i64 d]⟩ (fun W => by kernel_rfl) (by kernel_rfl) H ?_
                    clear H
                    rintro _ _ ⟨r221, rfl, rfl, H⟩
                    refine AtE.run 1 (fun W => by kernel_rfl) ?_
                    refine AtE.splitP 115 (p := r201 = r221) (by kernel_rfl) (fun h16' => ?_) (fun h16' => ?_)
                    · replace H := H.1 h16'
                      refine AtE.run 4 (fun W => by kernel_rfl) ?_
                      exact AtE.ret Tryd.func7 (by kernel_rfl) H
                    · replace H := H.2 h16'
                      refine AtE.run 4 (fun W => by kernel_rfl) ?_
                      exact AtE.ret Tryd.func7 (by kernel_rfl) H
                  · replace H := H.2 h15'
                    refine AtE.run 10 (fun W => by kernel_rfl) ?_
                    exact AtE.ret Tryd.func7 (by kernel_rfl) H
                · replace H := H.2 h14'
                  refine AtE.run 14 (fun W => by kernel_rfl) ?_
                  exact AtE.ret Tryd.func7 (by kernel_rfl) H
              · replace H := H.2 h13'
                refine AtE.run 18 (fun W => by kernel_rfl) ?_
                exact AtE.ret Tryd.func7 (by kernel_rfl) H

def Burst_c0 (B1 : Nat) (s1 : ByteArray) (bits1 : Int) (ok : Bool) (b_l : Nat) (b_c : Nat) (fromv : Int) (changed : Bool) (i : Int) (lo : Nat) (hi : Nat) (cs : List Value) (w0 : World) (R : Ending → World → Prop) : Prop :=
  AtE Tryd.prog 8 81 [.code (sub (Eng.body Tryd.f8) [1, 1, 1, 1, 1, 1, 0, 1, 0, 0]), .inLoop (sub (Eng.body Tryd.f8) [1, 1, 1, 1, 1, 1, 0, 1, 0, 0]), .inBlock 0, .code (sub (Eng.body Tryd.f8) [1, 1, 1, 1, 1, 1, 1])] [(0, .string s1), (2, .int .u32 bits1), (7, .bool ok), (8, .slice (some ⟨B1, 0, none⟩) b_l b_c), (9, .int .i64 fromv), (10, .bool changed), (11, .int .i64 i)] [(B1, .cells ⟨cs⟩ 5 (lo, hi))] [] w0 R

theorem Burst_c0_vc (B1 : Nat) (s1 : ByteArray) (bits1 : Int) (ok : Bool) (b_l : Nat) (b_c : Nat) (fromv : Int) (changed : Bool) (i : Int) (lo : Nat) (hi : Nat) (cs : List Value) {R : Ending → World → Prop} {w0 : World}
    (H :
      ((i < (32 : Int)) →
        (((IntKind.i64.wrap (fromv + i)) < (IntKind.i64.wrap ((8 : Int) * (b_l : Int)))) →
          (0 ≤ i) ∧
          ((((bits1.fdiv (2 ^ (min (Int.toNat i) 32))).tmod (2 : Int)) = (1 : Int)) →
            ∀ kv : Int, kv = (IntKind.i64.wrap (fromv + i)) →
            (0 ≤ (IntKind.i64.wrap (kv.tdiv (8 : Int))) ∧ (IntKind.i64.wrap (kv.tdiv (8 : Int))) < b_l) ∧
            ∃ (m1 : Int), (cs)[(Int.toNat (IntKind.i64.wrap (kv.tdiv (8 : Int))))]? = some (.int .u8 m1) ∧
            (0 ≤ (kv.tmod (8 : Int))) ∧
            (0 ≤ (IntKind.i64.wrap (kv.tdiv (8 : Int))) ∧ (IntKind.i64.wrap (kv.tdiv (8 : Int))) < b_l) ∧
            ((Int.toNat (IntKind.i64.wrap (kv.tdiv (8 : Int)))) < (cs).length) ∧
            ((Int.toNat (IntKind.i64.wrap (kv.tdiv (8 : Int)))) < lo ∨ hi ≤ (Int.toNat (IntKind.i64.wrap (kv.tdiv (8 : Int))))) ∧
            ∀ i1 : Int, i1 = (IntKind.i64.wrap (i + (1 : Int))) →
            Burst_c0 B1 s1 bits1 ok b_l b_c fromv true i1 lo hi ((cs).set (Int.toNat (IntKind.i64.wrap (kv.tdiv (8 : Int)))) (.int .u8 (ixor .u8 m1 (IntKind.u8.wrap ((1 : Int) * 2 ^ (min (Int.toNat (kv.tmod (8 : Int))) 8)))))) w0 R) ∧
           ((¬ (((bits1.fdiv (2 ^ (min (Int.toNat i) 32))).tmod (2 : Int)) = (1 : Int))) →
            ∀ i2 : Int, i2 = (IntKind.i64.wrap (i + (1 : Int))) →
            Burst_c0 B1 s1 bits1 ok b_l b_c fromv changed i2 lo hi cs w0 R)) ∧
         ((¬ ((IntKind.i64.wrap (fromv + i)) < (IntKind.i64.wrap ((8 : Int) * (b_l : Int))))) →
          ((ok = true) →
            ∃ bs : List UInt8, (((cs).drop 0).take b_l = bytesL bs ∧ bs.length = b_l) ∧
            ∃ (r41 : Int), (QCall Tryd.prog 21 ⟨[.string (⟨bs.toArray⟩)]⟩ [(B1, .cells ⟨cs⟩ 5 (lo, hi))] [] w0 (.int .i64 r41)) ∧
            (0 ≤ (0 : Int) ∧ (0 : Int) ≤ (b_l : Int) ∧ (b_l : Int) ≤ s1.size) ∧
            ∃ (r51 : Int), (QCall Tryd.prog 21 ⟨[.string (s1.extract 0 (Int.toNat (b_l : Int)))]⟩ [(B1, .cells ⟨cs⟩ 5 (lo, hi))] [] w0 (.int .i64 r51)) ∧
            ((changed = true) →
              ((¬ (r41 = r51)) →
                Fin R [(B1, .cells ⟨cs⟩ 5 (lo, hi))] [] w0 (.bool true)) ∧
               ((r41 = r51) →
                Fin R [(B1, .cells ⟨cs⟩ 5 (lo, hi))] [] w0 (.bool false))) ∧
             ((changed = false) →
              ((¬ (r41 = r51)) →
                Fin R [(B1, .cells ⟨cs⟩ 5 (lo, hi))] [] w0 (.bool false)) ∧
               ((r41 = r51) →
                Fin R [(B1, .cells ⟨cs⟩ 5 (lo, hi))] [] w0 (.bool true)))) ∧
           ((ok = false) →
            Fin R [(B1, .cells ⟨cs⟩ 5 (lo, hi))] [] w0 (.bool false)))) ∧
       ((¬ (i < (32 : Int))) →
        ((ok = true) →
          ∃ bs1 : List UInt8, (((cs).drop 0).take b_l = bytesL bs1 ∧ bs1.length = b_l) ∧
          ∃ (r61 : Int), (QCall Tryd.prog 21 ⟨[.string (⟨bs1.toArray⟩)]⟩ [(B1, .cells ⟨cs⟩ 5 (lo, hi))] [] w0 (.int .i64 r61)) ∧
          (0 ≤ (0 : Int) ∧ (0 : Int) ≤ (b_l : Int) ∧ (b_l : Int) ≤ s1.size) ∧
          ∃ (r71 : Int), (QCall Tryd.prog 21 ⟨[.string (s1.extract 0 (Int.toNat (b_l : Int)))]⟩ [(B1, .cells ⟨cs⟩ 5 (lo, hi))] [] w0 (.int .i64 r71)) ∧
          ((changed = true) →
            ((¬ (r61 = r71)) →
              Fin R [(B1, .cells ⟨cs⟩ 5 (lo, hi))] [] w0 (.bool true)) ∧
             ((r61 = r71) →
              Fin R [(B1, .cells ⟨cs⟩ 5 (lo, hi))] [] w0 (.bool false))) ∧
           ((changed = false) →
            ((¬ (r61 = r71)) →
              Fin R [(B1, .cells ⟨cs⟩ 5 (lo, hi))] [] w0 (.bool false)) ∧
             ((r61 = r71) →
              Fin R [(B1, .cells ⟨cs⟩ 5 (lo, hi))] [] w0 (.bool true)))) ∧
         ((ok = false) →
          Fin R [(B1, .cells ⟨cs⟩ 5 (lo, hi))] [] w0 (.bool false)))) :
    Burst_c0 B1 s1 bits1 ok b_l b_c fromv changed i lo hi cs w0 R := by
  unfold Burst_c0
  refine AtE.run 6 (fun W => by kernel_rfl) ?_
  refine AtE.splitP 35 (p := i < (32 : Int)) (by kernel_rfl) (fun h3' => ?_) (fun h3' => ?_)
  · replace H := H.1 h3'
    refine AtE.run 9 (fun W => by kernel_rfl) ?_
    refine AtE.splitP 43 (p := (IntKind.i64.wrap (fromv + i)) < (IntKind.i64.wrap ((8 : Int) * (b_l : Int)))) (by kernel_rfl) (fun h4' => ?_) (fun h4' => ?_)
    · replace H := H.1 h4'
      refine AtE.run 8 (fun W => by kernel_rfl) ?_
      refine AtE.shr (kd := .u32) (kc := .i64) (x := bits1) (y := i) (by kernel_rfl) H.1 ?_
      replace H := H.2
      refine AtE.run 3 (fun W => by kernel_rfl) ?_
      refine AtE.splitP 50 (p := ((bits1.fdiv (2 ^ (min (Int.toNat i) 32))).tmod (2 : Int)) = (1 : Int)) (by kernel_rfl) (fun h5' => ?_) (fun h5' => ?_)
      · replace H := H.1 h5'
        refine AtE.run 7 (fun W => by kernel_rfl) ?_
        refine AtE.letI 12 (kd := .i64) (n := (IntKind.i64.wrap (fromv + i))) (by kernel_rfl) (fun kv hkv => ?_)
        replace H := H kv hkv
        refine AtE.run 2 (fun W => by kernel_rfl) ?_
        refine AtE.draw 13 (by kernel_rfl) ?_
        refine AtQ.pure (by kernel_rfl) (fun W => by kernel_rfl) ?_
        refine AtQ.pure (by kernel_rfl) (fun W => by kernel_rfl) ?_
        refine AtQ.pure (by kernel_rfl) (fun W => by kernel_rfl) ?_
        refine AtQ.pure (by kernel_rfl) (fun W => by kernel_rfl) ?_
        refine AtQ.pure (by kernel_rfl) (fun W => by kernel_rfl) ?_
        refine AtQ.pure (by kernel_rfl) (fun W => by kernel_rfl) ?_
        refine AtQ.indexAddrL (E := 5) (b := B1) (o := 0) (len := b_l) (cap := b_c) (sz := 1) (o' := (Int.toNat (IntKind.i64.wrap (kv.tdiv (8 : Int))))) (kd := .i64) (i := (IntKind.i64.wrap (kv.tdiv (8 : Int)))) (by kernel_rfl) H.1 (by omega) ?_
        replace H := H.2
        obtain ⟨m1, hx, H⟩ := H
        refine AtQ.loadS 0 (off := (Int.toNat (IntKind.i64.wrap (kv.tdiv (8 : Int))))) (T := 5) (v := .int .u8 m1) (by kernel_rfl) (valAt_one hx (by kernel_rfl)) ?_
        refine AtQ.pure (by kernel_rfl) (fun W => by kernel_rfl) ?_
        refine AtQ.pure (by kernel_rfl) (fun W => by kernel_rfl) ?_
        refine AtQ.shl (kd := .u8) (kc := .i64) (x := (1 : Int)) (y := (kv.tmod (8 : Int))) (by kernel_rfl) H.1 ?_
        replace H := H.2
        refine AtQ.pure (by kernel_rfl) (fun W => by kernel_rfl) ?_
        refine AtQ.indexAddrL (E := 5) (b := B1) (o := 0) (len := b_l) (cap := b_c) (sz := 1) (o' := (Int.toNat (IntKind.i64.wrap (kv.tdiv (8 : Int))))) (kd := .i64) (i := (IntKind.i64.wrap (kv.tdiv (8 : Int)))) (by kernel_rfl) H.1 (by omega) ?_
        replace H := H.2
        refine AtQ.done (by kernel_rfl) ?_
        refine AtE.storeS 0 (off := (Int.toNat (IntKind.i64.wrap (kv.tdiv (8 : Int))))) (lo := lo) (hi := hi) (T := 5) (v := .int .u8 (ixor .u8 m1 (IntKind.u8.wrap ((1 : Int) * 2 ^ (min (Int.toNat (kv.tmod (8 : Int))) 8))))) (c := cs) (by kernel_rfl) H.1 H.2.1 ?_
        replace H := H.2.2
        refine AtE.run 9 (fun W => by kernel_rfl) ?_
        refine AtE.letI 11 (kd := .i64) (n := (IntKind.i64.wrap (i + (1 : Int)))) (by kernel_rfl) (fun i1 hi1 => ?_)
        replace H := H i1 hi1
        refine AtE.run 2 (fun W => by kernel_rfl) ?_
        exact AtE.cut [0] H (by kernel_rfl)
      · replace H := H.2 h5'
        refine AtE.run 7 (fun W => by kernel_rfl) ?_
        refine AtE.letI 11 (kd := .i64) (n := (IntKind.i64.wrap (i + (1 : Int)))) (by kernel_rfl) (fun i2 hi2 => ?_)
        replace H := H i2 hi2
        refine AtE.run 2 (fun W => by kernel_rfl) ?_
        exact AtE.cut [0] H (by kernel_rfl)
    · replace H := H.2 h4'
      refine AtE.run 3 (fun W => by kernel_rfl) ?_
      refine AtE.draw 15 (by kernel_rfl) ?_
      refine AtQ.pure (by kernel_rfl) (fun W => by kernel_rfl) ?_
      refine AtQ.pure (by kernel_rfl) (fun W => by kernel_rfl) ?_
      refine AtQ.split 68 (b := ok) (by kernel_rfl) (fun h6' => ?_) (fun h6' => ?_)
      · replace H := H.1 h6'
        refine AtQ.pure (by kernel_rfl) (fun W => by kernel_rfl) ?_
        refine AtQ.pure (by kernel_rfl) (fun W => by kernel_rfl) ?_
        obtain ⟨bs, hb, H⟩ := H
        refine AtQ.toString 0 (E := 5) (o := 0) (len := b_l) (cap := b_c) (c := cs) (l := bs) (by kernel_rfl) hb ?_
        obtain ⟨r41, hq, H⟩ := H
        refine AtQ.call 21 ⟨[.string (⟨bs.toArray⟩)]⟩ (fun W => by kernel_rfl) (by kernel_rfl) hq ?_
        refine AtQ.pure (by kernel_rfl) (fun W => by kernel_rfl) ?_
        refine AtQ.pure (by kernel_rfl) (fun W => by kernel_rfl) ?_
        refine AtQ.pure (by kernel_rfl) (fun W => by kernel_rfl) ?_
        refine AtQ.sliceS (s := s1) (lo := none) (hi := some (.int .i64 (b_l : Int))) (a := (0 : Int)) (b := (b_l : Int)) (by kernel_rfl) (.inr ⟨rfl, rfl⟩) (.inl ⟨.i64, rfl⟩) H.1 ?_
        replace H := H.2
        obtain ⟨r51, hq, H⟩ := H
        refine AtQ.call 21 ⟨[.string (s1.extract 0 (Int.toNat (b_l : Int)))]⟩ (fun W => by kernel_rfl) (by kernel_rfl) hq ?_
        refine AtQ.pure (by kernel_rfl) (fun W => by kernel_rfl) ?_
        refine AtQ.split 69 (b := changed) (by kernel_rfl) (fun h7' => ?_) (fun h7' => ?_)
        · replace H := H.1 h7'
          refine AtQ.splitN 78 (p := r41 = r51) (by kernel_rfl) (fun h8' => ?_) (fun h8' => ?_)
          · replace H := H.1 h8'
            refine AtQ.pure (by kernel_rfl) (fun W => by kernel_rfl) ?_
            refine AtQ.pure (by kernel_rfl) (fun W => by kernel_rfl) ?_
            refine AtQ.pure (by kernel_rfl) (fun W => by kernel_rfl) ?_
            refine AtQ.done (by kernel_rfl) ?_
            refine AtE.run 1 (fun W => by kernel_rfl) ?_
            exact AtE.ret Tryd.func8 (by kernel_rfl) H
          · replace H := H.2 h8'
            refine AtQ.pure (by kernel_rfl) (fun W => by kernel_rfl) ?_
            refine AtQ.pure (by kernel_rfl) (fun W => by kernel_rfl) ?_
            refine AtQ.pure (by kernel_rfl) (fun W => by kernel_rfl) ?_
            refine AtQ.done (by kernel_rfl) ?_
            refine AtE.run 1 (fun W => by kernel_rfl) ?_
            exact AtE.ret Tryd.func8 (by kernel_rfl) H
        · replace H := H.2 h7'
          refine AtQ.splitN 78 (p := r41 = r51) (by kernel_rfl) (fun h9' => ?_) (fun h9' => ?_)
          · replace H := H.1 h9'
            refine AtQ.pure (by kernel_rfl) (fun W => by kernel_rfl) ?_
            refine AtQ.pure (by kernel_rfl) (fun W => by kernel_rfl) ?_
            refine AtQ.pure (by kernel_rfl) (fun W => by kernel_rfl) ?_
            refine AtQ.done (by kernel_rfl) ?_
            refine AtE.run 1 (fun W => by kernel_rfl) ?_
            exact AtE.ret Tryd.func8 (by kernel_rfl) H
          · replace H := H.2 h9'
            refine AtQ.pure (by kernel_rfl) (fun W => by kernel_rfl) ?_
            refine AtQ.pure (by kernel_rfl) (fun W => by kernel_rfl) ?_
            refine AtQ.pure (by kernel_rfl) (fun W => by kernel_rfl) ?_
            refine AtQ.done (by kernel_rfl) ?_
            refine AtE.run 1 (fun W => by kernel_rfl) ?_
            exact AtE.ret Tryd.func8 (by kernel_rfl) H
      · replace H := H.2 h6'
        refine AtQ.skip (by kernel_rfl) ?_
        refine AtQ.skip (by kernel_rfl) ?_
        refine AtQ.skip (by kernel_rfl) ?_
        refine AtQ.skip (by kernel_rfl) ?_
        refine AtQ.skip (by kernel_rfl) ?_
        refine AtQ.skip (by kernel_rfl) ?_
        refine AtQ.skip (by kernel_rfl) ?_
        refine AtQ.skip (by kernel_rfl) ?_
        refine AtQ.skip (by kernel_rfl) ?_
        refine AtQ.skip (by kernel_rfl) ?_
        refine AtQ.skip (by kernel_rfl) ?_
        refine AtQ.pure (by kernel_rfl) (fun W => by kernel_rfl) ?_
        refine AtQ.pure (by kernel_rfl) (fun W => by kernel_rfl) ?_
        refine AtQ.done (by kernel_rfl) ?_
        refine AtE.run 1 (fun W => by kernel_rfl) ?_
        exact AtE.ret Tryd.func8 (by kernel_rfl) H
  · replace H := H.2 h3'
    refine AtE.run 12 (fun W => by kernel_rfl) ?_
    refine AtE.draw 15 (by kernel_rfl) ?_
    refine AtQ.pure (by kernel_rfl) (fun W => by kernel_rfl) ?_
    refine AtQ.pure (by kernel_rfl) (fun W => by kernel_rfl) ?_
    refine AtQ.split 68 (b := ok) (by kernel_rfl) (fun h10' => ?_) (fun h10' => ?_)
    · replace H := H.1 h10'
      refine AtQ.pure (by kernel_rfl) (fun W => by kernel_rfl) ?_
      refine AtQ.pure (by kernel_rfl) (fun W => by kernel_rfl) ?_
      obtain ⟨bs1, hb, H⟩ := H
      refine AtQ.toString 0 (E := 5) (o := 0) (len := b_l) (cap := b_c) (c := cs) (l := bs1) (by kernel_rfl) hb ?_
      obtain ⟨r61, hq, H⟩ := H
      refine AtQ.call 21 ⟨[.string (⟨bs1.toArray⟩)]⟩ (fun W => by kernel_rfl) (by kernel_rfl) hq ?_
      refine AtQ.pure (by kernel_rfl) (fun W => by kernel_rfl) ?_
      refine AtQ.pure (by kernel_rfl) (fun W => by kernel_rfl) ?_
      refine AtQ.pure (by kernel_rfl) (fun W => by kernel_rfl) ?_
      refine AtQ.sliceS (s := s1) (lo := none) (hi := some (.int .i64 (b_l : Int))) (a := (0 : Int)) (b := (b_l : Int)) (by kernel_rfl) (.inr ⟨rfl, rfl⟩) (.inl ⟨.i64, rfl⟩) H.1 ?_
      replace H := H.2
      obtain ⟨r71, hq, H⟩ := H
      refine AtQ.call 21 ⟨[.string (s1.extract 0 (Int.toNat (b_l : Int)))]⟩ (fun W => by kernel_rfl) (by kernel_rfl) hq ?_
      refine AtQ.pure (by kernel_rfl) (fun W => by kernel_rfl) ?_
      refine AtQ.split 69 (b := changed) (by kernel_rfl) (fun h11' => ?_) (fun h11' => ?_)
      · replace H := H.1 h11'
        refine AtQ.splitN 78 (p := r61 = r71) (by kernel_rfl) (fun h12' => ?_) (fun h12' => ?_)
        · replace H := H.1 h12'
          refine AtQ.pure (by kernel_rfl) (fun W => by kernel_rfl) ?_
          refine AtQ.pure (by kernel_rfl) (fun W => by kernel_rfl) ?_
          refine AtQ.pure (by kernel_rfl) (fun W => by kernel_rfl) ?_
          refine AtQ.done (by kernel_rfl) ?_
          refine AtE.run 1 (fun W => by kernel_rfl) ?_
          exact AtE.ret Tryd.func8 (by kernel_rfl) H
        · replace H := H.2 h12'
          refine AtQ.pure (by kernel_rfl) (fun W => by kernel_rfl) ?_
          refine AtQ.pure (by kernel_rfl) (fun W => by kernel_rfl) ?_
          refine AtQ.pure (by kernel_rfl) (fun W => by kernel_rfl) ?_
          refine AtQ.done (by kernel_rfl) ?_
          refine AtE.run 1 (fun W => by kernel_rfl) ?_
          exact AtE.ret Tryd.func8 (by kernel_rfl) H
      · replace H := H.2 h11'
        refine AtQ.splitN 78 (p := r61 = r71) (by kernel_rfl) (fun h13' => ?_) (fun h13' => ?_)
        · replace H := H.1 h13'
          refine AtQ.pure (by kernel_rfl) (fun W => by kernel_rfl) ?_
          refine AtQ.pure (by kernel_rfl) (fun W => by kernel_rfl) ?_
          refine AtQ.pure (by kernel_rfl) (fun W => by kernel_rfl) ?_
          refine AtQ.done (by kernel_rfl) ?_
          refine AtE.run 1 (fun W => by kernel_rfl) ?_
          exact AtE.ret Tryd.func8 (by kernel_rfl) H
        · replace H := H.2 h13'
          refine AtQ.pure (by kernel_rfl) (fun W => by kernel_rfl) ?_
          refine AtQ.pure (by kernel_rfl) (fun W => by kernel_rfl) ?_
          refine AtQ.pure (by kernel_rfl) (fun W => by kernel_rfl) ?_
          refine AtQ.done (by kernel_rfl) ?_
          refine AtE.run 1 (fun W => by kernel_rfl) ?_
          exact AtE.ret Tryd.func8 (by kernel_rfl) H
    · replace H := H.2 h10'
      refine AtQ.skip (by kernel_rfl) ?_
      refine AtQ.skip (by kernel_rfl) ?_
      refine AtQ.skip (by kernel_rfl) ?_
      refine AtQ.skip (by kernel_rfl) ?_
      refine AtQ.skip (by kernel_rfl) ?_
      refine AtQ.skip (by kernel_rfl) ?_
      refine AtQ.skip (by kernel_rfl) ?_
      refine AtQ.skip (by kernel_rfl) ?_
      refine AtQ.skip (by kernel_rfl) ?_
      refine AtQ.skip (by kernel_rfl) ?_
      refine AtQ.skip (by kernel_rfl) ?_
      refine AtQ.pure (by kernel_rfl) (fun W => by kernel_rfl) ?_
      refine AtQ.pure (by kernel_rfl) (fun W => by kernel_rfl) ?_
      refine AtQ.done (by kernel_rfl) ?_
      refine AtE.run 1 (fun W => by kernel_rfl) ?_
      exact AtE.ret Tryd.func8 (by kernel_rfl) H

theorem Burst_vc (s : ByteArray) (atv : Int) (bits : Int) {R : Ending → World → Prop} {w0 W : World} (hm : Mem [] [] w0 W)
    (H :
      CallH Tryd.prog 10 ⟨[]⟩ [] [] w0 (fun v L' => ∃ (r1 : Bool), v = (.bool r1) ∧ L' = [] ∧
        (0 ≤ (0 : Int) ∧ (0 : Int) ≤ (if (300 : Int) < (s.size : Int) then (300 : Int) else (s.size : Int)) ∧ (if (300 : Int) < (s.size : Int) then (300 : Int) else (s.size : Int)) ≤ s.size) ∧
        ∀ B r2 : Nat,
        ((((s.extract 0 (Int.toNat (if (300 : Int) < (s.size : Int) then (300 : Int) else (s.size : Int)))).size : Int) = (0 : Int)) →
          Fin R [(B, .cells ⟨(bytesL (s.extract 0 (Int.toNat (if (300 : Int) < (s.size : Int) then (300 : Int) else (s.size : Int)))).data.toList ++ List.replicate r2 (.int .u8 0))⟩ 5 ((s.extract 0 (Int.toNat (if (300 : Int) < (s.size : Int) then (300 : Int) else (s.size : Int)))).size + r2, (s.extract 0 (Int.toNat (if (300 : Int) < (s.size : Int) then (300 : Int) else (s.size : Int)))).size + r2 + 1))] [] w0 (.bool r1)) ∧
         ((¬ (((s.extract 0 (Int.toNat (if (300 : Int) < (s.size : Int) then (300 : Int) else (s.size : Int)))).size : Int) = (0 : Int))) →
          ((bits = (0 : Int)) →
            Fin R [(B, .cells ⟨(bytesL (s.extract 0 (Int.toNat (if (300 : Int) < (s.size : Int) then (300 : Int) else (s.size : Int)))).data.toList ++ List.replicate r2 (.int .u8 0))⟩ 5 ((s.extract 0 (Int.toNat (if (300 : Int) < (s.size : Int) then (300 : Int) else (s.size : Int)))).size + r2, (s.extract 0 (Int.toNat (if (300 : Int) < (s.size : Int) then (300 : Int) else (s.size : Int)))).size + r2 + 1))] [] w0 (.bool r1)) ∧
           ((¬ (bits = (0 : Int))) →
            CallH Tryd.prog 14 ⟨[.int .i64 atv, .int .i64 (IntKind.i64.wrap ((8 : Int) * ((s.extract 0 (Int.toNat (if (300 : Int) < (s.size : Int) then (300 : Int) else (s.size : Int)))).size : Int)))]⟩ [(B, .cells ⟨(bytesL (s.extract 0 (Int.toNat (if (300 : Int) < (s.size : Int) then (300 : Int) else (s.size : Int)))).data.toList ++ List.replicate r2 (.int .u8 0))⟩ 5 ((s.extract 0 (Int.toNat (if (300 : Int) < (s.size : Int) then (300 : Int) else (s.size : Int)))).size + r2, (s.extract 0 (Int.toNat (if (300 : Int) < (s.size : Int) then (300 : Int) else (s.size : Int)))).size + r2 + 1))] [] w0 (fun v L' => ∃ (r31 : Int), v = (.int .i64 r31) ∧ L' = [(B, .cells ⟨(bytesL (s.extract 0 (Int.toNat (if (300 : Int) < (s.size : Int) then (300 : Int) else (s.size : Int)))).data.toList ++ List.replicate r2 (.int .u8 0))⟩ 5 ((s.extract 0 (Int.toNat (if (300 : Int) < (s.size : Int) then (300 : Int) else (s.size : Int)))).size + r2, (s.extract 0 (Int.toNat (if (300 : Int) < (s.size : Int) then (300 : Int) else (s.size : Int)))).size + r2 + 1))] ∧
              Burst_c0 B s bits r1 ((s.extract 0 (Int.toNat (if (300 : Int) < (s.size : Int) then (300 : Int) else (s.size : Int)))).size) ((s.extract 0 (Int.toNat (if (300 : Int) < (s.size : Int) then (300 : Int) else (s.size : Int)))).size + r2) r31 false (0 : Int) ((s.extract 0 (Int.toNat (if (300 : Int) < (s.size : Int) then (300 : Int) else (s.size : Int)))).size + r2) ((s.extract 0 (Int.toNat (if (300 : Int) < (s.size : Int) then (300 : Int) else (s.size : Int)))).size + r2 + 1) (bytesL (s.extract 0 (Int.toNat (if (300 : Int) < (s.size : Int) then (300 : Int) else (s.size : Int)))).data.toList ++ List.replicate r2 (.int .u8 0)) w0 R))))) :
    Calls Tryd.prog 8 ⟨[.string s, .int .i64 atv, .int .u32 bits]⟩ W R := by
  refine AtE.calls (nt := 81) Tryd.func8 (by kernel_rfl) hm ?_
  refine AtE.run 6 (fun W => by kernel_rfl) ?_
  refine AtE.call 10 ⟨[]⟩ (fun W => by kernel_rfl) (by kernel_rfl) H ?_
  clear H
  rintro _ _ ⟨r1, rfl, rfl, H⟩
  refine AtE.run 8 (fun W => by kernel_rfl) ?_
  refine AtE.sliceS (s := s) (lo := none) (hi := some (.int .i64 (if (300 : Int) < (s.size : Int) then (300 : Int) else (s.size : Int)))) (a := (0 : Int)) (b := (if (300 : Int) < (s.size : Int) then (300 : Int) else (s.size : Int))) (by kernel_rfl) (.inr ⟨rfl, rfl⟩) (.inl ⟨.i64, rfl⟩) H.1 ?_
  replace H := H.2
  refine AtE.toBytes (E := 5) (s := (s.extract 0 (Int.toNat (if (300 : Int) < (s.size : Int) then (300 : Int) else (s.size : Int))))) (by kernel_rfl) (fun B r2 => ?_)
  replace H := H B r2
  refine AtE.run 9 (fun W => by kernel_rfl) ?_
  refine AtE.splitP 23 (p := ((s.extract 0 (Int.toNat (if (300 : Int) < (s.size : Int) then (300 : Int) else (s.size : Int)))).size : Int) = (0 : Int)) (by kernel_rfl) (fun h1' => ?_) (fun h1' => ?_)
  · replace H := H.1 h1'
    refine AtE.run 10 (fun W => by kernel_rfl) ?_
    exact AtE.ret Tryd.func8 (by kernel_rfl) H
  · replace H := H.2 h1'
    refine AtE.run 4 (fun W => by kernel_rfl) ?_
    refine AtE.splitP 26 (p := bits = (0 : Int)) (by kernel_rfl) (fun h2' => ?_) (fun h2' => ?_)
    · replace H := H.1 h2'
      refine AtE.run 6 (fun W => by kernel_rfl) ?_
      exact AtE.ret Tryd.func8 (by kernel_rfl) H
    · replace H := H.2 h2'
      refine AtE.run 8 (fun W => by kernel_rfl) ?_
      refine AtE.call 14 ⟨[.int .i64 atv, .int .i64 (IntKind.i64.wrap ((8 : Int) * ((s.extract 0 (Int.toNat (if (300 : Int) < (s.size : Int) then (300 : Int) else (s.size : Int)))).size : Int)))]⟩ (fun W => by kernel_rfl) (by kernel_rfl) H ?_
      clear H
      rintro _ _ ⟨r31, rfl, rfl, H⟩
      refine AtE.run 13 (fun W => by kernel_rfl) ?_
      exact AtE.cut [0] H (by kernel_rfl)

def Affine_c0 (B1 : Nat) (a1 : ByteArray) (b1 : ByteArray) (cv1 : ByteArray) (ok : Bool) (n1 : Int) (x_l : Nat) (x_c : Nat) (i : Int) (cs : List Value) (w0 : World) (R : Ending → World → Prop) : Prop :=
  AtE Tryd.prog 9 61 [.code (sub (Eng.body Tryd.f9) [1, 1, 1, 1, 0, 1, 0, 0]), .inLoop (sub (Eng.body Tryd.f9) [1, 1, 1, 1, 0, 1, 0, 0]), .inBlock 0, .code (sub (Eng.body Tryd.f9) [1, 1, 1, 1, 1])] [(0, .string a1), (1, .string b1), (2, .string cv1), (7, .bool ok), (8, .int .i64 n1), (9, .slice (some ⟨B1, 0, none⟩) x_l x_c), (10, .int .i64 i)] [(B1, .cells ⟨cs⟩ 5)] [] w0 R

theorem Affine_c0_vc (B1 : Nat) (a1 : ByteArray) (b1 : ByteArray) (cv1 : ByteArray) (ok : Bool) (n1 : Int) (x_l : Nat) (x_c : Nat) (i : Int) (cs : List Value) {R : Ending → World → Prop} {w0 : World}
    (H :
      ((i < n1) →
        (0 ≤ i ∧ i < a1.size) ∧
        (0 ≤ i ∧ i < b1.size) ∧
        (0 ≤ i ∧ i < cv1.size) ∧
        (0 ≤ i ∧ i < x_l) ∧
        ((Int.toNat i) < (cs).length) ∧
        ∀ i1 : Int, i1 = (IntKind.i64.wrap (i + (1 : Int))) →
        Affine_c0 B1 a1 b1 cv1 ok n1 x_l x_c i1 ((cs).set (Int.toNat i) (.int .u8 (ixor .u8 (ixor .u8 (bat a1 i) (bat b1 i)) (bat cv1 i)))) w0 R) ∧
       ((¬ (i < n1)) →
        ((ok = true) →
          ∃ bs : List UInt8, (((cs).drop 0).take x_l = bytesL bs ∧ bs.length = x_l) ∧
          ∃ (r21 : Int), (QCall Tryd.prog 21 ⟨[.string (⟨bs.toArray⟩)]⟩ [(B1, .cells ⟨cs⟩ 5)] [] w0 (.int .i64 r21)) ∧
          (0 ≤ (0 : Int) ∧ (0 : Int) ≤ n1 ∧ n1 ≤ a1.size) ∧
          ∃ (r31 : Int), (QCall Tryd.prog 21 ⟨[.string (a1.extract 0 (Int.toNat n1))]⟩ [(B1, .cells ⟨cs⟩ 5)] [] w0 (.int .i64 r31)) ∧
          (0 ≤ (0 : Int) ∧ (0 : Int) ≤ n1 ∧ n1 ≤ b1.size) ∧
          ∃ (r41 : Int), (QCall Tryd.prog 21 ⟨[.string (b1.extract 0 (Int.toNat n1))]⟩ [(B1, .cells ⟨cs⟩ 5)] [] w0 (.int .i64 r41)) ∧
          (0 ≤ (0 : Int) ∧ (0 : Int) ≤ n1 ∧ n1 ≤ cv1.size) ∧
          ∃ (r51 : Int), (QCall Tryd.prog 21 ⟨[.string (cv1.extract 0 (Int.toNat n1))]⟩ [(B1, .cells ⟨cs⟩ 5)] [] w0 (.int .i64 r51)) ∧
          Fin R [(B1, .cells ⟨cs⟩ 5)] [] w0 (.bool (decide (r21 = (ixor .i64 (ixor .i64 r31 r41) r51))))) ∧
         ((ok = false) →
          Fin R [(B1, .cells ⟨cs⟩ 5)] [] w0 (.bool false)))) :
    Affine_c0 B1 a1 b1 cv1 ok n1 x_l x_c i cs w0 R := by
  unfold Affine_c0
  refine AtE.run 7 (fun W => by kernel_rfl) ?_
  refine AtE.splitP 23 (p := i < n1) (by kernel_rfl) (fun h1' => ?_) (fun h1' => ?_)
  · replace H := H.1 h1'
    refine AtE.run 4 (fun W => by kernel_rfl) ?_
    refine AtE.draw 14 (by kernel_rfl) ?_
    refine AtQ.pure (by kernel_rfl) (fun W => by kernel_rfl) ?_
    refine AtQ.pure (by kernel_rfl) (fun W => by kernel_rfl) ?_
    refine AtQ.pure (by kernel_rfl) (fun W => by kernel_rfl) ?_
    refine AtQ.pure (by kernel_rfl) (fun W => by kernel_rfl) ?_
    refine AtQ.indexS (s := a1) (kd := .i64) (i := i) (by kernel_rfl) H.1 ?_
    replace H := H.2
    refine AtQ.pure (by kernel_rfl) (fun W => by kernel_rfl) ?_
    refine AtQ.pure (by kernel_rfl) (fun W => by kernel_rfl) ?_
    refine AtQ.indexS (s := b1) (kd := .i64) (i := i) (by kernel_rfl) H.1 ?_
    replace H := H.2
    refine AtQ.pure (by kernel_rfl) (fun W => by kernel_rfl) ?_
    refine AtQ.pure (by kernel_rfl) (fun W => by kernel_rfl) ?_
    refine AtQ.pure (by kernel_rfl) (fun W => by kernel_rfl) ?_
    refine AtQ.indexS (s := cv1) (kd := .i64) (i := i) (by kernel_rfl) H.1 ?_
    replace H := H.2
    refine AtQ.pure (by kernel_rfl) (fun W => by kernel_rfl) ?_
    refine AtQ.indexAddrL (E := 5) (b := B1) (o := 0) (len := x_l) (cap := x_c) (sz := 1) (o' := (Int.toNat i)) (kd := .i64) (i := i) (by kernel_rfl) H.1 (by omega) ?_
    replace H := H.2
    refine AtQ.done (by kernel_rfl) ?_
    refine AtE.storeS 0 (off := (Int.toNat i)) (lo := 0) (hi := 0) (T := 5) (v := .int .u8 (ixor .u8 (ixor .u8 (bat a1 i) (bat b1 i)) (bat cv1 i))) (c := cs) (by kernel_rfl) H.1 (.inr (Nat.zero_le _)) ?_
    replace H := H.2
    refine AtE.run 6 (fun W => by kernel_rfl) ?_
    refine AtE.letI 10 (kd := .i64) (n := (IntKind.i64.wrap (i + (1 : Int)))) (by kernel_rfl) (fun i1 hi1 => ?_)
    replace H := H i1 hi1
    refine AtE.run 2 (fun W => by kernel_rfl) ?_
    exact AtE.cut [0] H (by kernel_rfl)
  · replace H := H.2 h1'
    refine AtE.run 3 (fun W => by kernel_rfl) ?_
    refine AtE.draw 22 (by kernel_rfl) ?_
    refine AtQ.pure (by kernel_rfl) (fun W => by kernel_rfl) ?_
    refine AtQ.pure (by kernel_rfl) (fun W => by kernel_rfl) ?_
    refine AtQ.split 41 (b := ok) (by kernel_rfl) (fun h2' => ?_) (fun h2' => ?_)
    · replace H := H.1 h2'
      refine AtQ.pure (by kernel_rfl) (fun W => by kernel_rfl) ?_
      obtain ⟨bs, hb, H⟩ := H
      refine AtQ.toString 0 (E := 5) (o := 0) (len := x_l) (cap := x_c) (c := cs) (l := bs) (by kernel_rfl) hb ?_
      obtain ⟨r21, hq, H⟩ := H
      refine AtQ.call 21 ⟨[.string (⟨bs.toArray⟩)]⟩ (fun W => by kernel_rfl) (by kernel_rfl) hq ?_
      refine AtQ.pure (by kernel_rfl) (fun W => by kernel_rfl) ?_
      refine AtQ.pure (by kernel_rfl) (fun W => by kernel_rfl) ?_
      refine AtQ.sliceS (s := a1) (lo := none) (hi := some (.int .i64 n1)) (a := (0 : Int)) (b := n1) (by kernel_rfl) (.inr ⟨rfl, rfl⟩) (.inl ⟨.i64, rfl⟩) H.1 ?_
      replace H := H.2
      obtain ⟨r31, hq, H⟩ := H
      refine AtQ.call 21 ⟨[.string (a1.extract 0 (Int.toNat n1))]⟩ (fun W => by kernel_rfl) (by kernel_rfl) hq ?_
      refine AtQ.pure (by kernel_rfl) (fun W => by kernel_rfl) ?_
      refine AtQ.pure (by kernel_rfl) (fun W => by kernel_rfl) ?_
      refine AtQ.sliceS (s := b1) (lo := none) (hi := some (.int .i64 n1)) (a := (0 : Int)) (b := n1) (by kernel_rfl) (.inr ⟨rfl, rfl⟩) (.inl ⟨.i64, rfl⟩) H.1 ?_
      replace H := H.2
      obtain ⟨r41, hq, H⟩ := H
      refine AtQ.call 21 ⟨[.string (b1.extract 0 (Int.toNat n1))]⟩ (fun W => by kernel_rfl) (by kernel_rfl) hq ?_
      refine AtQ.pure (by kernel_rfl) (fun W => by kernel_rfl) ?_
      refine AtQ.pure (by kernel_rfl) (fun W => by kernel_rfl) ?_
      refine AtQ.pure (by kernel_rfl) (fun W => by kernel_rfl) ?_
      refine AtQ.sliceS (s := cv1) (lo := none) (hi := some (.int .i64 n1)) (a := (0 : Int)) (b := n1) (by kernel_rfl) (.inr ⟨rfl, rfl⟩) (.inl ⟨.i64, rfl⟩) H.1 ?_
      replace H := H.2
      obtain ⟨r51, hq, H⟩ := H
      refine AtQ.call 21 ⟨[.string (cv1.extract 0 (Int.toNat n1))]⟩ (fun W => by kernel_rfl) (by kernel_rfl) hq ?_
      refine AtQ.pure (by kernel_rfl) (fun W => by kernel_rfl) ?_
      refine AtQ.pure (by kernel_rfl) (fun W => by kernel_rfl) ?_
      refine AtQ.pure (by kernel_rfl) (fun W => by kernel_rfl) ?_
      refine AtQ.pure (by kernel_rfl) (fun W => by kernel_rfl) ?_
      refine AtQ.done (by kernel_rfl) ?_
      refine AtE.run 1 (fun W => by kernel_rfl) ?_
      exact AtE.ret Tryd.func9 (by kernel_rfl) H
    · replace H := H.2 h2'
      refine AtQ.skip (by kernel_rfl) ?_
      refine AtQ.skip (by kernel_rfl) ?_
      refine AtQ.skip (by kernel_rfl) ?_
      refine AtQ.skip (by kernel_rfl) ?_
      refine AtQ.skip (by kernel_rfl) ?_
      refine AtQ.skip (by kernel_rfl) ?_
      refine AtQ.skip (by kernel_rfl) ?_
      refine AtQ.skip (by kernel_rfl) ?_
      refine AtQ.skip (by kernel_rfl) ?_
      refine AtQ.skip (by kernel_rfl) ?_
      refine AtQ.skip (by kernel_rfl) ?_
      refine AtQ.skip (by kernel_rfl) ?_
      refine AtQ.skip (by kernel_rfl) ?_
      refine AtQ.skip (by kernel_rfl) ?_
      refine AtQ.skip (by kernel_rfl) ?_
      refine AtQ.skip (by kernel_rfl) ?_
      refine AtQ.skip (by kernel_rfl) ?_
      refine AtQ.skip (by kernel_rfl) ?_
      refine AtQ.pure (by kernel_rfl) (fun W => by kernel_rfl) ?_
      refine AtQ.pure (by kernel_rfl) (fun W => by kernel_rfl) ?_
      refine AtQ.done (by kernel_rfl) ?_
      refine AtE.run 1 (fun W => by kernel_rfl) ?_
      exact AtE.ret Tryd.func9 (by kernel_rfl) H

theorem Affine_vc (a : ByteArray) (b : ByteArray) (cv : ByteArray) {R : Ending → World → Prop} {w0 W : World} (hm : Mem [] [] w0 W)
    (H :
      CallH Tryd.prog 10 ⟨[]⟩ [] [] w0 (fun v L' => ∃ (r1 : Bool), v = (.bool r1) ∧ L' = [] ∧
        ∀ n : Int, n = (if (200 : Int) < (if (cv.size : Int) < (if (b.size : Int) < (a.size : Int) then (b.size : Int) else (a.size : Int)) then (cv.size : Int) else (if (b.size : Int) < (a.size : Int) then (b.size : Int) else (a.size : Int))) then (200 : Int) else (if (cv.size : Int) < (if (b.size : Int) < (a.size : Int) then (b.size : Int) else (a.size : Int)) then (cv.size : Int) else (if (b.size : Int) < (a.size : Int) then (b.size : Int) else (a.size : Int)))) →
        (0 ≤ n ∧ n ≤ n ∧ 1 * n ≤ 281474976710656 ∧ n ≤ 9223372036854775807) ∧
        ∀ B : Nat,
        Affine_c0 B a b cv r1 n (Int.toNat n) (Int.toNat n) (0 : Int) (List.replicate (Int.toNat n) (.int .u8 (0 : Int))) w0 R)) :
    Calls Tryd.prog 9 ⟨[.string a, .string b, .string cv]⟩ W R := by
  refine AtE.calls (nt := 61) Tryd.func9 (by kernel_rfl) hm ?_
  refine AtE.run 6 (fun W => by kernel_rfl) ?_
  refine AtE.call 10 ⟨[]⟩ (fun W => by kernel_rfl) (by kernel_rfl) H ?_
  clear H
  rintro _ _ ⟨r1, rfl, rfl, H⟩
  refine AtE.run 12 (fun W => by kernel_rfl) ?_
  refine AtE.letI 8 (kd := .i64) (n := (if (200 : Int) < (if (cv.size : Int) < (if (b.size : Int) < (a.size : Int) then (b.size : Int) else (a.size : Int)) then (cv.size : Int) else (if (b.size : Int) < (a.size : Int) then (b.size : Int) else (a.size : Int))) then (200 : Int) else (if (cv.size : Int) < (if (b.size : Int) < (a.size : Int) then (b.size : Int) else (a.size : Int)) then (cv.size : Int) else (if (b.size : Int) < (a.size : Int) then (b.size : Int) else (a.size : Int))))) (by kernel_rfl) (fun n hn => ?_)
  replace H := H n hn
  refine AtE.run 4 (fun W => by kernel_rfl) ?_
  refine AtE.make (E := 5) (kl := .i64) (kc := .i64) (n := n) (m := n) (z := .int .u8 (0 : Int)) (bytes := 1) (by kernel_rfl) H.1 (fun B => ?_)
  replace H := H.2 B
  refine AtE.run 9 (fun W => by kernel_rfl) ?_
  exact AtE.cut [0] H (by kernel_rfl)

end Go.Eng
