/- Verification conditions of the functions, written by a program of the prover, checked here. -/
import Derived.Test.YtbbakbekhhgkgaaTwEngInl

import Derived.Test.YtbbakbekhhgkgaaTwEngFreeRules

import Derived.Test.YtbbakbekhhgkgaaChecked

namespace Go.Eng

open Go Go.RowKit Go.Proofs

set_option linter.unusedVariables false

set_option maxRecDepth 100000

theorem dsane_vc (F : SHeap) {R : Ending → World → Prop} {w0 W : World} (hm : Mem (F) [] w0 W)
    (H :
      CallH Try.prog 12 ⟨[.int .i64 (4 : Int)]⟩ (F) [] w0 (fun v L' => ∃ (r1 : Option Addr) (r21 : Int) (F1 : SHeap), v = (.tuple #[.pointer r1, .int .i64 r21]) ∧ L' = (F1) ∧
        CallH Try.prog 12 ⟨[.int .i64 (0 : Int)]⟩ (F1) [] w0 (fun v L' => ∃ (r31 : Option Addr) (r41 : Int) (F2 : SHeap), v = (.tuple #[.pointer r31, .int .i64 r41]) ∧ L' = (F2) ∧
          ((¬ (r21 = (0 : Int))) →
            Fin R (F2) [] w0 (.bool false)) ∧
           ((r21 = (0 : Int)) →
            ((r1 = none) →
              Fin R (F2) [] w0 (.bool false)) ∧
             (∀ a : Addr, r1 = some a →
              CallH Try.prog 17 ⟨[.pointer (some a), .int .i64 (0 : Int), .string (⟨#[97, 98]⟩)]⟩ (F2) [] w0 (fun v L' => ∃ (r51 : Int) (F3 : SHeap), v = (.int .i64 r51) ∧ L' = (F3) ∧
                CallH Try.prog 17 ⟨[.pointer (some a), .int .i64 (1 : Int), .string (⟨#[120, 121]⟩)]⟩ (F3) [] w0 (fun v L' => ∃ (r61 : Int) (F4 : SHeap), v = (.int .i64 r61) ∧ L' = (F4) ∧
                  CallH Try.prog 17 ⟨[.pointer (some a), .int .i64 (3 : Int), .string (⟨#[122, 122]⟩)]⟩ (F4) [] w0 (fun v L' => ∃ (r71 : Int) (F5 : SHeap), v = (.int .i64 r71) ∧ L' = (F5) ∧
                    CallH Try.prog 13 ⟨[.pointer (some a), .int .i64 (0 : Int), .int .i64 (4 : Int)]⟩ (F5) [] w0 (fun v L' => ∃ (r81 : ByteArray) (r91 : Int) (F6 : SHeap), v = (.tuple #[.string r81, .int .i64 r91]) ∧ L' = (F6) ∧
                      CallH Try.prog 16 ⟨[.pointer (some a)]⟩ (F6) [] w0 (fun v L' => ∃ (r101 : Int) (F7 : SHeap), v = (.int .i64 r101) ∧ L' = (F7) ∧
                        ∀ B : Nat,
                        CallH Try.prog 21 ⟨[.pointer (some a), .slice (some ⟨B, 0, none⟩) 2 2, .int .i64 (1 : Int)]⟩ ((B, .cells #[.int .i64 (1 : Int), .int .i64 (0 : Int)] 3) :: F7) [] w0 (fun v L' => ∃ (r111 : Int) (F8 : SHeap), v = (.int .i64 r111) ∧ L' = ((B, .cells #[.int .i64 (1 : Int), .int .i64 (0 : Int)] 3) :: F8) ∧
                          CallH Try.prog 13 ⟨[.pointer (some a), .int .i64 (0 : Int), .int .i64 (4 : Int)]⟩ ((B, .cells #[.int .i64 (1 : Int), .int .i64 (0 : Int)] 3) :: F8) [] w0 (fun v L' => ∃ (r121 : ByteArray) (r131 : Int) (F9 : SHeap), v = (.tuple #[.string r121, .int .i64 r131]) ∧ L' = ((B, .cells #[.int .i64 (1 : Int), .int .i64 (0 : Int)] 3) :: F9) ∧
                            CallH Try.prog 20 ⟨[.pointer (some a), .int .i64 (1 : Int)]⟩ ((B, .cells #[.int .i64 (1 : Int), .int .i64 (0 : Int)] 3) :: F9) [] w0 (fun v L' => ∃ (r141 : Int) (F10 : SHeap), v = (.int .i64 r141) ∧ L' = ((B, .cells #[.int .i64 (1 : Int), .int .i64 (0 : Int)] 3) :: F10) ∧
                              CallH Try.prog 17 ⟨[.pointer (some a), .int .i64 (3 : Int), .string (⟨#[113]⟩)]⟩ ((B, .cells #[.int .i64 (1 : Int), .int .i64 (0 : Int)] 3) :: F10) [] w0 (fun v L' => ∃ (r151 : Int) (F11 : SHeap), v = (.int .i64 r151) ∧ L' = ((B, .cells #[.int .i64 (1 : Int), .int .i64 (0 : Int)] 3) :: F11) ∧
                                CallH Try.prog 19 ⟨[.pointer (some a)]⟩ ((B, .cells #[.int .i64 (1 : Int), .int .i64 (0 : Int)] 3) :: F11) [] w0 (fun v L' => ∃ (r161 : Int) (F12 : SHeap), v = (.int .i64 r161) ∧ L' = ((B, .cells #[.int .i64 (1 : Int), .int .i64 (0 : Int)] 3) :: F12) ∧
                                  ((r41 = (2 : Int)) →
                                    ((r51 = (0 : Int)) →
                                      ((r61 = (0 : Int)) →
                                        ((r71 = (230 : Int)) →
                                          ((r81 = (⟨#[97, 120, 121, 0]⟩ : ByteArray)) →
                                            ((r101 = (2 : Int)) →
                                              ((r111 = (0 : Int)) →
                                                ((r121 = (⟨#[97, 120, 0, 0]⟩ : ByteArray)) →
                                                  ((r131 = (0 : Int)) →
                                                    ((r141 = (0 : Int)) →
                                                      ((r151 = (0 : Int)) →
                                                        ((r161 = (231 : Int)) →
                                                          CallH Try.prog 15 ⟨[.pointer (some a)]⟩ ((B, .cells #[.int .i64 (1 : Int), .int .i64 (0 : Int)] 3) :: F12) [] w0 (fun v L' => ∃ (r171 : Int) (F13 : SHeap), v = (.int .i64 r171) ∧ L' = ((B, .cells #[.int .i64 (1 : Int), .int .i64 (0 : Int)] 3) :: F13) ∧
                                                            Fin R ((B, .cells #[.int .i64 (1 : Int), .int .i64 (0 : Int)] 3) :: F13) [] w0 (.bool (decide (r171 = (4 : Int)))))) ∧
                                                         ((¬ (r161 = (231 : Int))) →
                                                          Fin R ((B, .cells #[.int .i64 (1 : Int), .int .i64 (0 : Int)] 3) :: F12) [] w0 (.bool false))) ∧
                                                       ((¬ (r151 = (0 : Int))) →
                                                        Fin R ((B, .cells #[.int .i64 (1 : Int), .int .i64 (0 : Int)] 3) :: F12) [] w0 (.bool false))) ∧
                                                     ((¬ (r141 = (0 : Int))) →
                                                      Fin R ((B, .cells #[.int .i64 (1 : Int), .int .i64 (0 : Int)] 3) :: F12) [] w0 (.bool false))) ∧
                                                   ((¬ (r131 = (0 : Int))) →
                                                    Fin R ((B, .cells #[.int .i64 (1 : Int), .int .i64 (0 : Int)] 3) :: F12) [] w0 (.bool false))) ∧
                                                 ((¬ r121 = (⟨#[97, 120, 0, 0]⟩ : ByteArray)) →
                                                  Fin R ((B, .cells #[.int .i64 (1 : Int), .int .i64 (0 : Int)] 3) :: F12) [] w0 (.bool false))) ∧
                                               ((¬ (r111 = (0 : Int))) →
                                                Fin R ((B, .cells #[.int .i64 (1 : Int), .int .i64 (0 : Int)] 3) :: F12) [] w0 (.bool false))) ∧
                                             ((¬ (r101 = (2 : Int))) →
                                              Fin R ((B, .cells #[.int .i64 (1 : Int), .int .i64 (0 : Int)] 3) :: F12) [] w0 (.bool false))) ∧
                                           ((¬ r81 = (⟨#[97, 120, 121, 0]⟩ : ByteArray)) →
                                            Fin R ((B, .cells #[.int .i64 (1 : Int), .int .i64 (0 : Int)] 3) :: F12) [] w0 (.bool false))) ∧
                                         ((¬ (r71 = (230 : Int))) →
                                          Fin R ((B, .cells #[.int .i64 (1 : Int), .int .i64 (0 : Int)] 3) :: F12) [] w0 (.bool false))) ∧
                                       ((¬ (r61 = (0 : Int))) →
                                        Fin R ((B, .cells #[.int .i64 (1 : Int), .int .i64 (0 : Int)] 3) :: F12) [] w0 (.bool false))) ∧
                                     ((¬ (r51 = (0 : Int))) →
                                      Fin R ((B, .cells #[.int .i64 (1 : Int), .int .i64 (0 : Int)] 3) :: F12) [] w0 (.bool false))) ∧
                                   ((¬ (r41 = (2 : Int))) →
                                    Fin R ((B, .cells #[.int .i64 (1 : Int), .int .i64 (0 : Int)] 3) :: F12) [] w0 (.bool false))))))))))))))))) :
    Calls Try.prog 11 ⟨[]⟩ W R := by
  refine AtE.calls (nt := 109) Try.func11 (by kernel_rfl) hm ?_
  refine AtE.run 6 (fun W => by kernel_rfl) ?_
  refine AtE.call 12 ⟨[.int .i64 (4 : Int)]⟩ (fun W => by kernel_rfl) (by kernel_rfl) H ?_
  clear H
  rintro _ F1 ⟨r1, r21, _, rfl, rfl, H⟩
  refine AtE.run 8 (fun W => by kernel_rfl) ?_
  refine AtE.call 12 ⟨[.int .i64 (0 : Int)]⟩ (fun W => by kernel_rfl) (by kernel_rfl) H ?_
  clear H
  rintro _ F2 ⟨r31, r41, _, rfl, rfl, H⟩
  refine AtE.run 12 (fun W => by kernel_rfl) ?_
  refine AtE.splitN 27 (p := r21 = (0 : Int)) (by kernel_rfl) (fun h1' => ?_) (fun h1' => ?_)
  · replace H := H.1 h1'
    refine AtE.run 9 (fun W => by kernel_rfl) ?_
    exact AtE.ret Try.func11 (by kernel_rfl) H
  · replace H := H.2 h1'
    refine AtE.run 1 (fun W => by kernel_rfl) ?_
    rcases r1 with _ | a
    · replace H := H.1 rfl
      refine AtE.run 8 (fun W => by kernel_rfl) ?_
      exact AtE.ret Try.func11 (by kernel_rfl) H
    · replace H := H.2 a rfl
      refine AtE.run 8 (fun W => by kernel_rfl) ?_
      refine AtE.call 17 ⟨[.pointer (some a), .int .i64 (0 : Int), .string (⟨#[97, 98]⟩)]⟩ (fun W => by kernel_rfl) (by kernel_rfl) H ?_
      clear H
      rintro _ F3 ⟨r51, _, rfl, rfl, H⟩
      refine AtE.run 5 (fun W => by kernel_rfl) ?_
      refine AtE.call 17 ⟨[.pointer (some a), .int .i64 (1 : Int), .string (⟨#[120, 121]⟩)]⟩ (fun W => by kernel_rfl) (by kernel_rfl) H ?_
      clear H
      rintro _ F4 ⟨r61, _, rfl, rfl, H⟩
      refine AtE.run 5 (fun W => by kernel_rfl) ?_
      refine AtE.call 17 ⟨[.pointer (some a), .int .i64 (3 : Int), .string (⟨#[122, 122]⟩)]⟩ (fun W => by kernel_rfl) (by kernel_rfl) H ?_
      clear H
      rintro _ F5 ⟨r71, _, rfl, rfl, H⟩
      refine AtE.norm (k' := [.inRegion (regOps [.code (sub (Eng.body Try.f11) [1, 1, 1, 1, 1, 1, 0])]) [2], .code (sub (Eng.body Try.f11) [1, 1, 1, 1, 1, 1, 1])]) (e' := [(1, .pointer (some a)), (4, .int .i64 r41), (5, .int .i64 r51), (6, .int .i64 r61), (36, .int .i64 r71)]) (L' := (F5)) ?_ (by kernel_rfl)
      refine AtE.run 5 (fun W => by kernel_rfl) ?_
      refine AtE.call 13 ⟨[.pointer (some a), .int .i64 (0 : Int), .int .i64 (4 : Int)]⟩ (fun W => by kernel_rfl) (by kernel_rfl) H ?_
      clear H
      rintro _ F6 ⟨r81, r91, _, rfl, rfl, H⟩
      refine AtE.run 9 (fun W => by kernel_rfl) ?_
      refine AtE.call 16 ⟨[.pointer (some a)]⟩ (fun W => by kernel_rfl) (by kernel_rfl) H ?_
      clear H
      rintro _ F7 ⟨r101, _, rfl, rfl, H⟩
      refine AtE.run 5 (fun W => by kernel_rfl) ?_
      refine AtE.new (fun B => .slice (some ⟨B, 0, none⟩) 2 2) (.cells #[.int .i64 (1 : Int), .int .i64 (0 : Int)] 3) (fun W => by kernel_rfl) (by kernel_rfl) (fun B => ?_)
      replace H := H B
      refine AtE.front ?_
      refine AtE.call 21 ⟨[.pointer (some a), .slice (some ⟨B, 0, none⟩) 2 2, .int .i64 (1 : Int)]⟩ (fun W => by kernel_rfl) (by kernel_rfl) H ?_
      clear H
      rintro _ _ ⟨r111, F8, rfl, rfl, H⟩
      refine AtE.run 5 (fun W => by kernel_rfl) ?_
      refine AtE.call 13 ⟨[.pointer (some a), .int .i64 (0 : Int), .int .i64 (4 : Int)]⟩ (fun W => by kernel_rfl) (by kernel_rfl) H ?_
      clear H
      rintro _ _ ⟨r121, r131, F9, rfl, rfl, H⟩
      refine AtE.run 9 (fun W => by kernel_rfl) ?_
      refine AtE.call 20 ⟨[.pointer (some a), .int .i64 (1 : Int)]⟩ (fun W => by kernel_rfl) (by kernel_rfl) H ?_
      clear H
      rintro _ _ ⟨r141, F10, rfl, rfl, H⟩
      refine AtE.run 5 (fun W => by kernel_rfl) ?_
      refine AtE.call 17 ⟨[.pointer (some a), .int .i64 (3 : Int), .string (⟨#[113]⟩)]⟩ (fun W => by kernel_rfl) (by kernel_rfl) H ?_
      clear H
      rintro _ _ ⟨r151, F11, rfl, rfl, H⟩
      refine AtE.norm (k' := [.inRegion (regOps [.code (sub (Eng.body Try.f11) [1, 1, 1, 1, 1, 1, 1, 1, 1, 1, 1, 1, 0])]) [2], .code (sub (Eng.body Try.f11) [1, 1, 1, 1, 1, 1, 1, 1, 1, 1, 1, 1, 1])]) (e' := [(1, .pointer (some a)), (4, .int .i64 r41), (5, .int .i64 r51), (6, .int .i64 r61), (7, .int .i64 r71), (8, .string r81), (10, .int .i64 r101), (11, .int .i64 r111), (12, .string r121), (13, .int .i64 r131), (14, .int .i64 r141), (55, .int .i64 r151)]) (L' := ((B, .cells #[.int .i64 (1 : Int), .int .i64 (0 : Int)] 3) :: F11)) ?_ (by kernel_rfl)
      refine AtE.run 5 (fun W => by kernel_rfl) ?_
      refine AtE.call 19 ⟨[.pointer (some a)]⟩ (fun W => by kernel_rfl) (by kernel_rfl) H ?_
      clear H
      rintro _ _ ⟨r161, F12, rfl, rfl, H⟩
      refine AtE.run 7 (fun W => by kernel_rfl) ?_
      refine AtE.splitP 60 (p := r41 = (2 : Int)) (by kernel_rfl) (fun h2' => ?_) (fun h2' => ?_)
      · replace H := H.1 h2'
        refine AtE.run 4 (fun W => by kernel_rfl) ?_
        refine AtE.splitP 64 (p := r51 = (0 : Int)) (by kernel_rfl) (fun h3' => ?_) (fun h3' => ?_)
        · replace H := H.1 h3'
          refine AtE.run 4 (fun W => by kernel_rfl) ?_
          refine AtE.splitP 68 (p := r61 = (0 : Int)) (by kernel_rfl) (fun h4' => ?_) (fun h4' => ?_)
          · replace H := H.1 h4'
            refine AtE.run 4 (fun W => by kernel_rfl) ?_
            refine AtE.splitP 72 (p := r71 = (230 : Int)) (by kernel_rfl) (fun h5' => ?_) (fun h5' => ?_)
            · replace H := H.1 h5'
              refine AtE.run 4 (fun W => by kernel_rfl) ?_
              refine AtE.splitS 76 (x := r81) (y := (⟨#[97, 120, 121, 0]⟩ : ByteArray)) (by kernel_rfl) (fun h6' => ?_) (fun h6' => ?_)
              · replace H := H.1 h6'
                refine AtE.run 4 (fun W => by kernel_rfl) ?_
                refine AtE.splitP 80 (p := r101 = (2 : Int)) (by kernel_rfl) (fun h7' => ?_) (fun h7' => ?_)
                · replace H := H.1 h7'
                  refine AtE.norm (k' := [.inRegion (regOps [.code (sub (Eng.body Try.f11) [1, 1, 1, 1, 1, 1, 1, 1, 1, 1, 1, 1, 1, 1, 0])]) [23, 24, 25, 26, 27, 28, 29, 30, 31, 32, 33, 34, 35, 36, 37, 38, 39, 40, 41, 42, 43, 44, 45, 46, 47, 48, 49, 50, 51], .code (sub (Eng.body Try.f11) [1, 1, 1, 1, 1, 1, 1, 1, 1, 1, 1, 1, 1, 1, 1])]) (e' := [(1, .pointer (some a)), (11, .int .i64 r111), (12, .string r121), (13, .int .i64 r131), (14, .int .i64 r141), (15, .int .i64 r151), (16, .int .i64 r161), (80, .bool true)]) (L' := ((B, .cells #[.int .i64 (1 : Int), .int .i64 (0 : Int)] 3) :: F12)) ?_ (by kernel_rfl)
                  refine AtE.run 4 (fun W => by kernel_rfl) ?_
                  refine AtE.splitP 84 (p := r111 = (0 : Int)) (by kernel_rfl) (fun h8' => ?_) (fun h8' => ?_)
                  · replace H := H.1 h8'
                    refine AtE.run 4 (fun W => by kernel_rfl) ?_
                    refine AtE.splitS 88 (x := r121) (y := (⟨#[97, 120, 0, 0]⟩ : ByteArray)) (by kernel_rfl) (fun h9' => ?_) (fun h9' => ?_)
                    · replace H := H.1 h9'
                      refine AtE.run 4 (fun W => by kernel_rfl) ?_
                      refine AtE.splitP 92 (p := r131 = (0 : Int)) (by kernel_rfl) (fun h10' => ?_) (fun h10' => ?_)
                      · replace H := H.1 h10'
                        refine AtE.run 4 (fun W => by kernel_rfl) ?_
                        refine AtE.splitP 96 (p := r141 = (0 : Int)) (by kernel_rfl) (fun h11' => ?_) (fun h11' => ?_)
                        · replace H := H.1 h11'
                          refine AtE.run 4 (fun W => by kernel_rfl) ?_
                          refine AtE.splitP 100 (p := r151 = (0 : Int)) (by kernel_rfl) (fun h12' => ?_) (fun h12' => ?_)
                          · replace H := H.1 h12'
                            refine AtE.run 4 (fun W => by kernel_rfl) ?_
                            refine AtE.splitP 104 (p := r161 = (231 : Int)) (by kernel_rfl) (fun h13' => ?_) (fun h13' => ?_)
                            · replace H := H.1 h13'
                              refine AtE.run 1 (fun W => by kernel_rfl) ?_
                              refine AtE.call 15 ⟨[.pointer (some a)]⟩ (fun W => by kernel_rfl) (by kernel_rfl) H ?_
                              clear H
                              rintro _ _ ⟨r171, F13, rfl, rfl, H⟩
                              refine AtE.norm (k' := [.inRegion (regOps [.code (sub (Eng.body Try.f11) [1, 1, 1, 1, 1, 1, 1, 1, 1, 1, 1, 1, 1, 1, 0])]) [49, 50, 51], .code (sub (Eng.body Try.f11) [1, 1, 1, 1, 1, 1, 1, 1, 1, 1, 1, 1, 1, 1, 1])]) (e' := [(104, .bool true), (106, .int .i64 r171)]) (L' := ((B, .cells #[.int .i64 (1 : Int), .int .i64 (0 : Int)] 3) :: F13)) ?_ (by kernel_rfl)
                              refine AtE.run 4 (fun W => by kernel_rfl) ?_
                              exact AtE.ret Try.func11 (by kernel_rfl) H
                            · replace H := H.2 h13'
                              refine AtE.run 6 (fun W => by kernel_rfl) ?_
                              exact AtE.ret Try.func11 (by kernel_rfl) H
                          · replace H := H.2 h12'
                            refine AtE.run 10 (fun W => by kernel_rfl) ?_
                            exact AtE.ret Try.func11 (by kernel_rfl) H
                        · replace H := H.2 h11'
                          refine AtE.run 14 (fun W => by kernel_rfl) ?_
                          exact AtE.ret Try.func11 (by kernel_rfl) H
                      · replace H := H.2 h10'
                        refine AtE.run 18 (fun W => by kernel_rfl) ?_
                        exact AtE.ret Try.func11 (by kernel_rfl) H
                    · replace H := H.2 h9'
                      refine AtE.run 22 (fun W => by kernel_rfl) ?_
                      exact AtE.ret Try.func11 (by kernel_rfl) H
                  · replace H := H.2 h8'
                    refine AtE.run 26 (fun W => by kernel_rfl) ?_
                    exact AtE.ret Try.func11 (by kernel_rfl) H
                · replace H := H.2 h7'
                  refine AtE.norm (k' := [.inRegion (regOps [.code (sub (Eng.body Try.f11) [1, 1, 1, 1, 1, 1, 1, 1, 1, 1, 1, 1, 1, 1, 0])]) [23, 24, 25, 26, 27, 28, 29, 30, 31, 32, 33, 34, 35, 36, 37, 38, 39, 40, 41, 42, 43, 44, 45, 46, 47, 48, 49, 50, 51], .code (sub (Eng.body Try.f11) [1, 1, 1, 1, 1, 1, 1, 1, 1, 1, 1, 1, 1, 1, 1])]) (e' := [(1, .pointer (some a)), (11, .int .i64 r111), (12, .string r121), (13, .int .i64 r131), (14, .int .i64 r141), (15, .int .i64 r151), (16, .int .i64 r161), (80, .bool false)]) (L' := ((B, .cells #[.int .i64 (1 : Int), .int .i64 (0 : Int)] 3) :: F12)) ?_ (by kernel_rfl)
                  refine AtE.run 30 (fun W => by kernel_rfl) ?_
                  exact AtE.ret Try.func11 (by kernel_rfl) H
              · replace H := H.2 h6'
                refine AtE.run 34 (fun W => by kernel_rfl) ?_
                exact AtE.ret Try.func11 (by kernel_rfl) H
            · replace H := H.2 h5'
              refine AtE.run 38 (fun W => by kernel_rfl) ?_
              exact AtE.ret Try.func11 (by kernel_rfl) H
          · replace H := H.2 h4'
            refine AtE.run 42 (fun W => by kernel_rfl) ?_
            exact AtE.ret Try.func11 (by kernel_rfl) H
        · replace H := H.2 h3'
          refine AtE.run 46 (fun W => by kernel_rfl) ?_
          exact AtE.ret Try.func11 (by kernel_rfl) H
      · replace H := H.2 h2'
        refine AtE.run 50 (fun W => by kernel_rfl) ?_
        exact AtE.ret Try.func11 (by kernel_rfl) H

def put_c0 (B1 : Nat) (b_l : Nat) (b_c : Nat) (off1 : Int) (s1 : ByteArray) (i : Int) (cs : List Value) (S : List Nat) (w0 : World) (R : Ending → World → Prop) : Prop :=
  AtE Try.prog 23 21 [.code (sub (Eng.body Try.f23) [1, 0, 0]), .inLoop (sub (Eng.body Try.f23) [1, 0, 0]), .inBlock 0] [(0, .slice (some ⟨B1, 0, none⟩) b_l b_c), (1, .int .i64 off1), (2, .string s1), (6, .int .i64 i)] [(B1, .cells ⟨cs⟩ 5)] S w0 (nrm R)

theorem put_c0_vc (B1 : Nat) (b_l : Nat) (b_c : Nat) (off1 : Int) (s1 : ByteArray) (i : Int) (cs : List Value) {R : Ending → World → Prop} {S : List Nat} {w0 : World}
    (H :
      ((i < (s1.size : Int)) →
        (0 ≤ i ∧ i < s1.size) ∧
        (0 ≤ (IntKind.i64.wrap (off1 + i)) ∧ (IntKind.i64.wrap (off1 + i)) < b_l) ∧
        ((Int.toNat (IntKind.i64.wrap (off1 + i))) < (cs).length) ∧
        ∀ i1 : Int, i1 = (IntKind.i64.wrap (i + (1 : Int))) →
        put_c0 B1 b_l b_c off1 s1 i1 ((cs).set (Int.toNat (IntKind.i64.wrap (off1 + i))) (.int .u8 (bat s1 i))) S w0 R) ∧
       ((¬ (i < (s1.size : Int))) →
        Fin R [(B1, .cells ⟨cs⟩ 5)] S w0 (.tuple #[]))) :
    put_c0 B1 b_l b_c off1 s1 i cs S w0 R := by
  unfold put_c0
  refine AtE.run 8 (fun W => by kernel_rfl) ?_
  refine AtE.splitP 10 (p := i < (s1.size : Int)) (by kernel_rfl) (fun h1' => ?_) (fun h1' => ?_)
  · replace H := H.1 h1'
    refine AtE.run 11 (fun W => by kernel_rfl) ?_
    refine AtE.indexS (s := s1) (kd := .i64) (i := i) (by kernel_rfl) H.1 ?_
    replace H := H.2
    refine AtE.indexAddrL (E := 5) (b := B1) (o := 0) (len := b_l) (cap := b_c) (sz := 1) (o' := (Int.toNat (IntKind.i64.wrap (off1 + i)))) (kd := .i64) (i := (IntKind.i64.wrap (off1 + i))) (by kernel_rfl) H.1 (by omega) ?_
    replace H := H.2
    refine AtE.storeS 0 (off := (Int.toNat (IntKind.i64.wrap (off1 + i)))) (lo := 0) (hi := 0) (T := 5) (v := .int .u8 (bat s1 i)) (c := cs) (by kernel_rfl) H.1 (.inr (Nat.zero_le _)) ?_
    replace H := H.2
    refine AtE.run 6 (fun W => by kernel_rfl) ?_
    refine AtE.letI 6 (kd := .i64) (n := (IntKind.i64.wrap (i + (1 : Int)))) (by kernel_rfl) (fun i1 hi1 => ?_)
    replace H := H i1 hi1
    refine AtE.run 2 (fun W => by kernel_rfl) ?_
    exact AtE.cut [0] H (by kernel_rfl)
  · replace H := H.2 h1'
    refine AtE.run 2 (fun W => by kernel_rfl) ?_
    exact AtE.ret Try.func23 (by kernel_rfl) H

theorem put_vc (B : Nat) (n : Nat) (off : Int) (s : ByteArray) (c : List Value) {R : Ending → World → Prop} {S : List Nat} {w0 W : World} (hm : Mem [(B, .cells ⟨c⟩ 5)] S w0 W)
    (H :
      put_c0 B n n off s (0 : Int) c S w0 R) :
    Calls Try.prog 23 ⟨[.slice (some ⟨B, 0, none⟩) n n, .int .i64 off, .string s]⟩ W R := by
  refine AtE.calls (nt := 21) Try.func23 (by kernel_rfl) hm ?_
  refine AtE.run 6 (fun W => by kernel_rfl) ?_
  exact AtE.cut [0] H (by kernel_rfl)

theorem Nil_vc (off : Int) (n : Int) (s : ByteArray) (keep_p : Option Addr) (keep_l : Nat) (keep_c : Nat) (F : SHeap) {R : Ending → World → Prop} {w0 W : World} (hm : Mem (F) [] w0 W)
    (H :
      CallH Try.prog 11 ⟨[]⟩ (F) [] w0 (fun v L' => ∃ (r1 : Bool), v = (.bool r1) ∧ L' = (F) ∧
        CallH Try.prog 13 ⟨[.pointer none, .int .i64 off, .int .i64 n]⟩ (F) [] w0 (fun v L' => ∃ (r21 : ByteArray) (r31 : Int) (F1 : SHeap), v = (.tuple #[.string r21, .int .i64 r31]) ∧ L' = (F1) ∧
          ((r1 = true) →
            ((r21 = (⟨#[]⟩ : ByteArray)) →
              ((r31 = (1 : Int)) →
                CallH Try.prog 18 ⟨[.string s, .int .i64 (100 : Int)]⟩ (F1) [] w0 (fun v L' => ∃ (r41 : ByteArray), v = (.string r41) ∧ L' = (F1) ∧
                  CallH Try.prog 17 ⟨[.pointer none, .int .i64 off, .string r41]⟩ (F1) [] w0 (fun v L' => ∃ (r51 : Int) (F2 : SHeap), v = (.int .i64 r51) ∧ L' = (F2) ∧
                    ((r51 = (1 : Int)) →
                      CallH Try.prog 19 ⟨[.pointer none]⟩ (F2) [] w0 (fun v L' => ∃ (r61 : Int) (F3 : SHeap), v = (.int .i64 r61) ∧ L' = (F3) ∧
                        ((r61 = (1 : Int)) →
                          CallH Try.prog 20 ⟨[.pointer none, .int .i64 n]⟩ (F3) [] w0 (fun v L' => ∃ (r71 : Int) (F4 : SHeap), v = (.int .i64 r71) ∧ L' = (F4) ∧
                            ((r71 = (1 : Int)) →
                              (0 ≤ (if (100 : Int) < (keep_l : Int) then (100 : Int) else (keep_l : Int)) ∧ (if (100 : Int) < (keep_l : Int) then (100 : Int) else (keep_l : Int)) ≤ (keep_c : Int)) ∧
                              CallH Try.prog 21 ⟨[.pointer none, .slice keep_p (Int.toNat (if (100 : Int) < (keep_l : Int) then (100 : Int) else (keep_l : Int))) keep_c, .int .i64 n]⟩ (F4) [] w0 (fun v L' => ∃ (r81 : Int) (F5 : SHeap), v = (.int .i64 r81) ∧ L' = (F5) ∧
                                ((r81 = (1 : Int)) →
                                  CallH Try.prog 16 ⟨[.pointer none]⟩ (F5) [] w0 (fun v L' => ∃ (r91 : Int) (F6 : SHeap), v = (.int .i64 r91) ∧ L' = (F6) ∧
                                    ((r91 = (0 : Int)) →
                                      CallH Try.prog 15 ⟨[.pointer none]⟩ (F6) [] w0 (fun v L' => ∃ (r101 : Int) (F7 : SHeap), v = (.int .i64 r101) ∧ L' = (F7) ∧
                                        Fin R (F7) [] w0 (.bool (decide (r101 = (0 : Int)))))) ∧
                                     ((¬ (r91 = (0 : Int))) →
                                      Fin R (F6) [] w0 (.bool false)))) ∧
                                 ((¬ (r81 = (1 : Int))) →
                                  Fin R (F5) [] w0 (.bool false)))) ∧
                             ((¬ (r71 = (1 : Int))) →
                              Fin R (F4) [] w0 (.bool false)))) ∧
                         ((¬ (r61 = (1 : Int))) →
                          Fin R (F3) [] w0 (.bool false)))) ∧
                     ((¬ (r51 = (1 : Int))) →
                      Fin R (F2) [] w0 (.bool false))))) ∧
               ((¬ (r31 = (1 : Int))) →
                Fin R (F1) [] w0 (.bool false))) ∧
             ((¬ r21 = (⟨#[]⟩ : ByteArray)) →
              Fin R (F1) [] w0 (.bool false))) ∧
           ((r1 = false) →
            Fin R (F1) [] w0 (.bool false))))) :
    Calls Try.prog 4 ⟨[.int .i64 off, .int .i64 n, .string s, .slice keep_p keep_l keep_c]⟩ W R := by
  refine AtE.calls (nt := 70) Try.func4 (by kernel_rfl) hm ?_
  refine AtE.run 6 (fun W => by kernel_rfl) ?_
  refine AtE.call 11 ⟨[]⟩ (fun W => by kernel_rfl) (by kernel_rfl) H ?_
  clear H
  rintro _ F ⟨r1, rfl, rfl, H⟩
  refine AtE.run 11 (fun W => by kernel_rfl) ?_
  refine AtE.call 13 ⟨[.pointer none, .int .i64 off, .int .i64 n]⟩ (fun W => by kernel_rfl) (by kernel_rfl) H ?_
  clear H
  rintro _ F1 ⟨r21, r31, _, rfl, rfl, H⟩
  refine AtE.run 10 (fun W => by kernel_rfl) ?_
  refine AtE.split 22 (b := r1) (by kernel_rfl) (fun h1' => ?_) (fun h1' => ?_)
  · replace H := H.1 h1'
    refine AtE.run 4 (fun W => by kernel_rfl) ?_
    refine AtE.splitS 26 (x := r21) (y := (⟨#[]⟩ : ByteArray)) (by kernel_rfl) (fun h2' => ?_) (fun h2' => ?_)
    · replace H := H.1 h2'
      refine AtE.run 4 (fun W => by kernel_rfl) ?_
      refine AtE.splitP 30 (p := r31 = (1 : Int)) (by kernel_rfl) (fun h3' => ?_) (fun h3' => ?_)
      · replace H := H.1 h3'
        refine AtE.run 3 (fun W => by kernel_rfl) ?_
        refine AtE.call 18 ⟨[.string s, .int .i64 (100 : Int)]⟩ (fun W => by kernel_rfl) (by kernel_rfl) H ?_
        clear H
        rintro _ F1 ⟨r41, rfl, rfl, H⟩
        refine AtE.call 17 ⟨[.pointer none, .int .i64 off, .string r41]⟩ (fun W => by kernel_rfl) (by kernel_rfl) H ?_
        clear H
        rintro _ F2 ⟨r51, _, rfl, rfl, H⟩
        refine AtE.norm (k' := [.inRegion (regOps [.code (sub (Eng.body Try.f4) [1, 1, 1, 1, 0])]) [15, 16, 17, 18, 19, 20, 21, 22, 23, 24, 25, 26, 27, 28, 29, 30, 31, 32, 33, 34, 35, 36, 37, 38, 39, 40, 41, 42, 43, 44, 45, 46, 47, 48, 49], .code (sub (Eng.body Try.f4) [1, 1, 1, 1, 1])]) (e' := [(1, .int .i64 n), (3, .slice keep_p keep_l keep_c), (10, .pointer none), (30, .bool true), (35, .int .i64 r51)]) (L' := (F2)) ?_ (by kernel_rfl)
        refine AtE.run 3 (fun W => by kernel_rfl) ?_
        refine AtE.splitP 38 (p := r51 = (1 : Int)) (by kernel_rfl) (fun h4' => ?_) (fun h4' => ?_)
        · replace H := H.1 h4'
          refine AtE.run 1 (fun W => by kernel_rfl) ?_
          refine AtE.call 19 ⟨[.pointer none]⟩ (fun W => by kernel_rfl) (by kernel_rfl) H ?_
          clear H
          rintro _ F3 ⟨r61, _, rfl, rfl, H⟩
          refine AtE.run 3 (fun W => by kernel_rfl) ?_
          refine AtE.splitP 43 (p := r61 = (1 : Int)) (by kernel_rfl) (fun h5' => ?_) (fun h5' => ?_)
          · replace H := H.1 h5'
            refine AtE.run 2 (fun W => by kernel_rfl) ?_
            refine AtE.call 20 ⟨[.pointer none, .int .i64 n]⟩ (fun W => by kernel_rfl) (by kernel_rfl) H ?_
            clear H
            rintro _ F4 ⟨r71, _, rfl, rfl, H⟩
            refine AtE.run 3 (fun W => by kernel_rfl) ?_
            refine AtE.splitP 49 (p := r71 = (1 : Int)) (by kernel_rfl) (fun h6' => ?_) (fun h6' => ?_)
            · replace H := H.1 h6'
              refine AtE.run 5 (fun W => by kernel_rfl) ?_
              refine AtE.sliceU (E := 3) (p := keep_p) (len := keep_l) (cap := keep_c) (sz := 1) (lo := none) (hi := some (.int .i64 (if (100 : Int) < (keep_l : Int) then (100 : Int) else (keep_l : Int)))) (y := (if (100 : Int) < (keep_l : Int) then (100 : Int) else (keep_l : Int))) (by kernel_rfl) (.inr rfl) (.inl ⟨.i64, rfl⟩) H.1 ?_
              replace H := H.2
              refine AtE.run 1 (fun W => by kernel_rfl) ?_
              refine AtE.call 21 ⟨[.pointer none, .slice keep_p (Int.toNat (if (100 : Int) < (keep_l : Int) then (100 : Int) else (keep_l : Int))) keep_c, .int .i64 n]⟩ (fun W => by kernel_rfl) (by kernel_rfl) H ?_
              clear H
              rintro _ F5 ⟨r81, _, rfl, rfl, H⟩
              refine AtE.norm (k' := [.inRegion (regOps [.code (sub (Eng.body Try.f4) [1, 1, 1, 1, 0])]) [37, 38, 39, 40, 41, 42, 43, 44, 45, 46, 47, 48, 49], .code (sub (Eng.body Try.f4) [1, 1, 1, 1, 1])]) (e' := [(10, .pointer none), (49, .bool true), (57, .int .i64 r81)]) (L' := (F5)) ?_ (by kernel_rfl)
              refine AtE.run 3 (fun W => by kernel_rfl) ?_
              refine AtE.splitP 60 (p := r81 = (1 : Int)) (by kernel_rfl) (fun h7' => ?_) (fun h7' => ?_)
              · replace H := H.1 h7'
                refine AtE.run 1 (fun W => by kernel_rfl) ?_
                refine AtE.call 16 ⟨[.pointer none]⟩ (fun W => by kernel_rfl) (by kernel_rfl) H ?_
                clear H
                rintro _ F6 ⟨r91, _, rfl, rfl, H⟩
                refine AtE.run 3 (fun W => by kernel_rfl) ?_
                refine AtE.splitP 65 (p := r91 = (0 : Int)) (by kernel_rfl) (fun h8' => ?_) (fun h8' => ?_)
                · replace H := H.1 h8'
                  refine AtE.run 1 (fun W => by kernel_rfl) ?_
                  refine AtE.call 15 ⟨[.pointer none]⟩ (fun W => by kernel_rfl) (by kernel_rfl) H ?_
                  clear H
                  rintro _ F7 ⟨r101, _, rfl, rfl, H⟩
                  refine AtE.run 4 (fun W => by kernel_rfl) ?_
                  exact AtE.ret Try.func4 (by kernel_rfl) H
                · replace H := H.2 h8'
                  refine AtE.run 6 (fun W => by kernel_rfl) ?_
                  exact AtE.ret Try.func4 (by kernel_rfl) H
              · replace H := H.2 h7'
                refine AtE.run 11 (fun W => by kernel_rfl) ?_
                exact AtE.ret Try.func4 (by kernel_rfl) H
            · replace H := H.2 h6'
              refine AtE.run 22 (fun W => by kernel_rfl) ?_
              exact AtE.ret Try.func4 (by kernel_rfl) H
          · replace H := H.2 h5'
            refine AtE.run 28 (fun W => by kernel_rfl) ?_
            exact AtE.ret Try.func4 (by kernel_rfl) H
        · replace H := H.2 h4'
          refine AtE.run 33 (fun W => by kernel_rfl) ?_
          exact AtE.ret Try.func4 (by kernel_rfl) H
      · replace H := H.2 h3'
        refine AtE.run 41 (fun W => by kernel_rfl) ?_
        exact AtE.ret Try.func4 (by kernel_rfl) H
    · replace H := H.2 h2'
      refine AtE.run 45 (fun W => by kernel_rfl) ?_
      exact AtE.ret Try.func4 (by kernel_rfl) H
  · replace H := H.2 h1'
    refine AtE.run 49 (fun W => by kernel_rfl) ?_
    exact AtE.ret Try.func4 (by kernel_rfl) H

theorem NewM_vc (size : Int) (atv : Int) (F : SHeap) {R : Ending → World → Prop} {w0 W : World} (hm : Mem (F) [] w0 W)
    (H :
      CallH Try.prog 11 ⟨[]⟩ (F) [] w0 (fun v L' => ∃ (r1 : Bool), v = (.bool r1) ∧ L' = (F) ∧
        CallH Try.prog 12 ⟨[.int .i64 size]⟩ (F) [] w0 (fun v L' => ∃ (r21 : Option Addr) (r31 : Int) (F1 : SHeap), v = (.tuple #[.pointer r21, .int .i64 r31]) ∧ L' = (F1) ∧
          ((size < (1 : Int)) →
            ((r1 = true) →
              ((r21 = none) →
                Fin R (F1) [] w0 (.bool (decide (r31 = (2 : Int))))) ∧
               (∀ a : Addr, r21 = some a →
                Fin R (F1) [] w0 (.bool false))) ∧
             ((r1 = false) →
              Fin R (F1) [] w0 (.bool false))) ∧
           ((¬ (size < (1 : Int))) →
            (((4194304 : Int) < size) →
              ((r1 = true) →
                ((r21 = none) →
                  Fin R (F1) [] w0 (.bool (decide (r31 = (2 : Int))))) ∧
                 (∀ a1 : Addr, r21 = some a1 →
                  Fin R (F1) [] w0 (.bool false))) ∧
               ((r1 = false) →
                Fin R (F1) [] w0 (.bool false))) ∧
             ((¬ ((4194304 : Int) < size)) →
              ((r21 = none) →
                Fin R (F1) [] w0 (.bool false)) ∧
               (∀ a2 : Addr, r21 = some a2 →
                ((¬ (r31 = (0 : Int))) →
                  Fin R (F1) [] w0 (.bool false)) ∧
                 ((r31 = (0 : Int)) →
                  CallH Try.prog 14 ⟨[.int .i64 atv, .int .i64 size]⟩ (F1) [] w0 (fun v L' => ∃ (r41 : Int), v = (.int .i64 r41) ∧ L' = (F1) ∧
                    CallH Try.prog 13 ⟨[.pointer (some a2), .int .i64 r41, .int .i64 (1 : Int)]⟩ (F1) [] w0 (fun v L' => ∃ (r51 : ByteArray) (r61 : Int) (F2 : SHeap), v = (.tuple #[.string r51, .int .i64 r61]) ∧ L' = (F2) ∧
                      ((r1 = true) →
                        CallH Try.prog 15 ⟨[.pointer (some a2)]⟩ (F2) [] w0 (fun v L' => ∃ (r71 : Int) (F3 : SHeap), v = (.int .i64 r71) ∧ L' = (F3) ∧
                          ((r71 = size) →
                            CallH Try.prog 16 ⟨[.pointer (some a2)]⟩ (F3) [] w0 (fun v L' => ∃ (r81 : Int) (F4 : SHeap), v = (.int .i64 r81) ∧ L' = (F4) ∧
                              ((r81 = (0 : Int)) →
                                ((r51 = (⟨#[0]⟩ : ByteArray)) →
                                  Fin R (F4) [] w0 (.bool (decide (r61 = (0 : Int))))) ∧
                                 ((¬ r51 = (⟨#[0]⟩ : ByteArray)) →
                                  Fin R (F4) [] w0 (.bool false))) ∧
                               ((¬ (r81 = (0 : Int))) →
                                Fin R (F4) [] w0 (.bool false)))) ∧
                           ((¬ (r71 = size)) →
                            Fin R (F3) [] w0 (.bool false)))) ∧
                       ((r1 = false) →
                        Fin R (F2) [] w0 (.bool false))))))))))) :
    Calls Try.prog 3 ⟨[.int .i64 size, .int .i64 atv]⟩ W R := by
  refine AtE.calls (nt := 65) Try.func3 (by kernel_rfl) hm ?_
  refine AtE.run 6 (fun W => by kernel_rfl) ?_
  refine AtE.call 11 ⟨[]⟩ (fun W => by kernel_rfl) (by kernel_rfl) H ?_
  clear H
  rintro _ F ⟨r1, rfl, rfl, H⟩
  refine AtE.run 5 (fun W => by kernel_rfl) ?_
  refine AtE.call 12 ⟨[.int .i64 size]⟩ (fun W => by kernel_rfl) (by kernel_rfl) H ?_
  clear H
  rintro _ F1 ⟨r21, r31, _, rfl, rfl, H⟩
  refine AtE.run 12 (fun W => by kernel_rfl) ?_
  refine AtE.splitP 18 (p := size < (1 : Int)) (by kernel_rfl) (fun h1' => ?_) (fun h1' => ?_)
  · replace H := H.1 h1'
    refine AtE.run 9 (fun W => by kernel_rfl) ?_
    refine AtE.split 23 (b := r1) (by kernel_rfl) (fun h2' => ?_) (fun h2' => ?_)
    · replace H := H.1 h2'
      refine AtE.run 1 (fun W => by kernel_rfl) ?_
      rcases r21 with _ | a
      · replace H := H.1 rfl
        refine AtE.run 8 (fun W => by kernel_rfl) ?_
        exact AtE.ret Try.func3 (by kernel_rfl) H
      · replace H := H.2 a rfl
        refine AtE.run 8 (fun W => by kernel_rfl) ?_
        exact AtE.ret Try.func3 (by kernel_rfl) H
    · replace H := H.2 h2'
      refine AtE.run 9 (fun W => by kernel_rfl) ?_
      exact AtE.ret Try.func3 (by kernel_rfl) H
  · replace H := H.2 h1'
    refine AtE.run 4 (fun W => by kernel_rfl) ?_
    refine AtE.splitP 21 (p := (4194304 : Int) < size) (by kernel_rfl) (fun h3' => ?_) (fun h3' => ?_)
    · replace H := H.1 h3'
      refine AtE.run 5 (fun W => by kernel_rfl) ?_
      refine AtE.split 23 (b := r1) (by kernel_rfl) (fun h4' => ?_) (fun h4' => ?_)
      · replace H := H.1 h4'
        refine AtE.run 1 (fun W => by kernel_rfl) ?_
        rcases r21 with _ | a1
        · replace H := H.1 rfl
          refine AtE.run 8 (fun W => by kernel_rfl) ?_
          exact AtE.ret Try.func3 (by kernel_rfl) H
        · replace H := H.2 a1 rfl
          refine AtE.run 8 (fun W => by kernel_rfl) ?_
          exact AtE.ret Try.func3 (by kernel_rfl) H
      · replace H := H.2 h4'
        refine AtE.run 9 (fun W => by kernel_rfl) ?_
        exact AtE.ret Try.func3 (by kernel_rfl) H
    · replace H := H.2 h3'
      refine AtE.run 6 (fun W => by kernel_rfl) ?_
      rcases r21 with _ | a2
      · replace H := H.1 rfl
        refine AtE.run 11 (fun W => by kernel_rfl) ?_
        exact AtE.ret Try.func3 (by kernel_rfl) H
      · replace H := H.2 a2 rfl
        refine AtE.run 6 (fun W => by kernel_rfl) ?_
        refine AtE.splitN 36 (p := r31 = (0 : Int)) (by kernel_rfl) (fun h5' => ?_) (fun h5' => ?_)
        · replace H := H.1 h5'
          refine AtE.run 5 (fun W => by kernel_rfl) ?_
          exact AtE.ret Try.func3 (by kernel_rfl) H
        · replace H := H.2 h5'
          refine AtE.run 7 (fun W => by kernel_rfl) ?_
          refine AtE.call 14 ⟨[.int .i64 atv, .int .i64 size]⟩ (fun W => by kernel_rfl) (by kernel_rfl) H ?_
          clear H
          rintro _ F1 ⟨r41, rfl, rfl, H⟩
          refine AtE.norm (k' := [.inRegion (regOps [.code (sub (Eng.body Try.f3) [1, 1, 1, 1, 1, 0])]) [4, 5, 6, 7, 8, 9], .code (sub (Eng.body Try.f3) [1, 1, 1, 1, 1, 1])]) (e' := [(0, .int .i64 size), (5, .bool r1), (6, .pointer (some a2)), (38, .pointer (some a2)), (41, .int .i64 r41)]) (L' := (F1)) ?_ (by kernel_rfl)
          refine AtE.call 13 ⟨[.pointer (some a2), .int .i64 r41, .int .i64 (1 : Int)]⟩ (fun W => by kernel_rfl) (by kernel_rfl) H ?_
          clear H
          rintro _ F2 ⟨r51, r61, _, rfl, rfl, H⟩
          refine AtE.run 10 (fun W => by kernel_rfl) ?_
          refine AtE.split 46 (b := r1) (by kernel_rfl) (fun h6' => ?_) (fun h6' => ?_)
          · replace H := H.1 h6'
            refine AtE.run 1 (fun W => by kernel_rfl) ?_
            refine AtE.call 15 ⟨[.pointer (some a2)]⟩ (fun W => by kernel_rfl) (by kernel_rfl) H ?_
            clear H
            rintro _ F3 ⟨r71, _, rfl, rfl, H⟩
            refine AtE.run 4 (fun W => by kernel_rfl) ?_
            refine AtE.splitP 52 (p := r71 = size) (by kernel_rfl) (fun h7' => ?_) (fun h7' => ?_)
            · replace H := H.1 h7'
              refine AtE.run 1 (fun W => by kernel_rfl) ?_
              refine AtE.call 16 ⟨[.pointer (some a2)]⟩ (fun W => by kernel_rfl) (by kernel_rfl) H ?_
              clear H
              rintro _ F4 ⟨r81, _, rfl, rfl, H⟩
              refine AtE.run 3 (fun W => by kernel_rfl) ?_
              refine AtE.splitP 57 (p := r81 = (0 : Int)) (by kernel_rfl) (fun h8' => ?_) (fun h8' => ?_)
              · replace H := H.1 h8'
                refine AtE.run 4 (fun W => by kernel_rfl) ?_
                refine AtE.splitS 61 (x := r51) (y := (⟨#[0]⟩ : ByteArray)) (by kernel_rfl) (fun h9' => ?_) (fun h9' => ?_)
                · replace H := H.1 h9'
                  refine AtE.norm (k' := [.inRegion (regOps [.code (sub (Eng.body Try.f3) [1, 1, 1, 1, 1, 1, 0])]) [17, 18, 19, 20], .code (sub (Eng.body Try.f3) [1, 1, 1, 1, 1, 1, 1])]) (e' := [(9, .int .i64 r61), (61, .bool true)]) (L' := (F4)) ?_ (by kernel_rfl)
                  refine AtE.run 5 (fun W => by kernel_rfl) ?_
                  exact AtE.ret Try.func3 (by kernel_rfl) H
                · replace H := H.2 h9'
                  refine AtE.norm (k' := [.inRegion (regOps [.code (sub (Eng.body Try.f3) [1, 1, 1, 1, 1, 1, 0])]) [17, 18, 19, 20], .code (sub (Eng.body Try.f3) [1, 1, 1, 1, 1, 1, 1])]) (e' := [(9, .int .i64 r61), (61, .bool false)]) (L' := (F4)) ?_ (by kernel_rfl)
                  refine AtE.run 5 (fun W => by kernel_rfl) ?_
                  exact AtE.ret Try.func3 (by kernel_rfl) H
              · replace H := H.2 h8'
                refine AtE.run 9 (fun W => by kernel_rfl) ?_
                exact AtE.ret Try.func3 (by kernel_rfl) H
            · replace H := H.2 h7'
              refine AtE.run 14 (fun W => by kernel_rfl) ?_
              exact AtE.ret Try.func3 (by kernel_rfl) H
          · replace H := H.2 h6'
            refine AtE.run 20 (fun W => by kernel_rfl) ?_
            exact AtE.ret Try.func3 (by kernel_rfl) H

end Go.Eng
