/- Verification conditions of the functions, written by a program of the prover, checked here. -/
import Derived.Test.YtgplckfjbdnedaaDoorEngInl

import Derived.Test.YtgplckfjbdnedaaDoorEngEq

import Derived.Test.YtgplckfjbdnedaaDoorChecked

namespace Go.Eng

open Go Go.RowKit Go.Proofs

set_option linter.unusedVariables false

set_option maxRecDepth 100000

theorem LEnc_vc (mk : Int) (mp : Int) (mq : Int) (mt : Int) (mb : Int) (mv : Int) (md : ByteArray) {R : Ending → World → Prop} {w0 W : World} (hm : Mem [] [] w0 W)
    (H :
      ∀ B : Nat,
      CallH Tryd.prog 10 ⟨[]⟩ [(B, .cells #[.int .i64 mk, .int .i64 mp, .int .i64 mq, .int .i64 mt, .int .i64 mb, .int .i64 mv, .string md] 23)] [] w0 (fun v L' => ∃ (r1 : Bool), v = (.bool r1) ∧ L' = [(B, .cells #[.int .i64 mk, .int .i64 mp, .int .i64 mq, .int .i64 mt, .int .i64 mb, .int .i64 mv, .string md] 23)] ∧
        CallH Tryd.prog 11 ⟨[.agg #[.int .i64 mk, .int .i64 mp, .int .i64 mq, .int .i64 mt, .int .i64 mb, .int .i64 mv, .string md]]⟩ [(B, .cells #[.int .i64 mk, .int .i64 mp, .int .i64 mq, .int .i64 mt, .int .i64 mb, .int .i64 mv, .string md] 23)] [] w0 (fun v L' => ∃ (r2_0 : Int) (r2_1 : Int) (r2_2 : Int) (r2_3 : Int) (r2_4 : Int) (r2_5 : Int) (r2_6 : ByteArray), v = (.agg #[.int .i64 r2_0, .int .i64 r2_1, .int .i64 r2_2, .int .i64 r2_3, .int .i64 r2_4, .int .i64 r2_5, .string r2_6]) ∧ L' = [(B, .cells #[.int .i64 mk, .int .i64 mp, .int .i64 mq, .int .i64 mt, .int .i64 mb, .int .i64 mv, .string md] 23)] ∧
          CallH Tryd.prog 12 ⟨[.agg #[.int .i64 r2_0, .int .i64 r2_1, .int .i64 r2_2, .int .i64 r2_3, .int .i64 r2_4, .int .i64 r2_5, .string r2_6]]⟩ [(B, .cells #[.int .i64 r2_0, .int .i64 r2_1, .int .i64 r2_2, .int .i64 r2_3, .int .i64 r2_4, .int .i64 r2_5, .string r2_6] 23)] [] w0 (fun v L' => ∃ (r31 : ByteArray) (r41 : Int), v = (.tuple #[.string r31, .int .i64 r41]) ∧ L' = [(B, .cells #[.int .i64 r2_0, .int .i64 r2_1, .int .i64 r2_2, .int .i64 r2_3, .int .i64 r2_4, .int .i64 r2_5, .string r2_6] 23)] ∧
            CallH Tryd.prog 13 ⟨[.agg #[.int .i64 r2_0, .int .i64 r2_1, .int .i64 r2_2, .int .i64 r2_3, .int .i64 r2_4, .int .i64 r2_5, .string r2_6]]⟩ [(B, .cells #[.int .i64 r2_0, .int .i64 r2_1, .int .i64 r2_2, .int .i64 r2_3, .int .i64 r2_4, .int .i64 r2_5, .string r2_6] 23)] [] w0 (fun v L' => ∃ (r51 : ByteArray) (r61 : Int), v = (.tuple #[.string r51, .int .i64 r61]) ∧ L' = [(B, .cells #[.int .i64 r2_0, .int .i64 r2_1, .int .i64 r2_2, .int .i64 r2_3, .int .i64 r2_4, .int .i64 r2_5, .string r2_6] 23)] ∧
              ((r1 = true) →
                ((r31 = r51) →
                  ((r41 = r61) →
                    ∃ (r71 : Bool), (QCall Tryd.prog 14 ⟨[.agg #[.int .i64 r2_0, .int .i64 r2_1, .int .i64 r2_2, .int .i64 r2_3, .int .i64 r2_4, .int .i64 r2_5, .string r2_6]]⟩ [(B, .cells #[.int .i64 r2_0, .int .i64 r2_1, .int .i64 r2_2, .int .i64 r2_3, .int .i64 r2_4, .int .i64 r2_5, .string r2_6] 23)] [] w0 (.bool r71)) ∧
                    ∃ (r81 : Bool), (QCall Tryd.prog 15 ⟨[.agg #[.int .i64 r2_0, .int .i64 r2_1, .int .i64 r2_2, .int .i64 r2_3, .int .i64 r2_4, .int .i64 r2_5, .string r2_6]]⟩ [(B, .cells #[.int .i64 r2_0, .int .i64 r2_1, .int .i64 r2_2, .int .i64 r2_3, .int .i64 r2_4, .int .i64 r2_5, .string r2_6] 23)] [] w0 (.bool r81)) ∧
                    ((r71 = true) →
                      ((r81 = true) →
                        Fin R [(B, .cells #[.int .i64 r2_0, .int .i64 r2_1, .int .i64 r2_2, .int .i64 r2_3, .int .i64 r2_4, .int .i64 r2_5, .string r2_6] 23)] [] w0 (.bool true)) ∧
                       ((r81 = false) →
                        Fin R [(B, .cells #[.int .i64 r2_0, .int .i64 r2_1, .int .i64 r2_2, .int .i64 r2_3, .int .i64 r2_4, .int .i64 r2_5, .string r2_6] 23)] [] w0 (.bool false))) ∧
                     ((r71 = false) →
                      ((r81 = true) →
                        Fin R [(B, .cells #[.int .i64 r2_0, .int .i64 r2_1, .int .i64 r2_2, .int .i64 r2_3, .int .i64 r2_4, .int .i64 r2_5, .string r2_6] 23)] [] w0 (.bool false)) ∧
                       ((r81 = false) →
                        Fin R [(B, .cells #[.int .i64 r2_0, .int .i64 r2_1, .int .i64 r2_2, .int .i64 r2_3, .int .i64 r2_4, .int .i64 r2_5, .string r2_6] 23)] [] w0 (.bool true)))) ∧
                   ((¬ (r41 = r61)) →
                    Fin R [(B, .cells #[.int .i64 r2_0, .int .i64 r2_1, .int .i64 r2_2, .int .i64 r2_3, .int .i64 r2_4, .int .i64 r2_5, .string r2_6] 23)] [] w0 (.bool false))) ∧
                 ((¬ r31 = r51) →
                  Fin R [(B, .cells #[.int .i64 r2_0, .int .i64 r2_1, .int .i64 r2_2, .int .i64 r2_3, .int .i64 r2_4, .int .i64 r2_5, .string r2_6] 23)] [] w0 (.bool false))) ∧
               ((r1 = false) →
                Fin R [(B, .cells #[.int .i64 r2_0, .int .i64 r2_1, .int .i64 r2_2, .int .i64 r2_3, .int .i64 r2_4, .int .i64 r2_5, .string r2_6] 23)] [] w0 (.bool false))))))) :
    Calls Tryd.prog 3 ⟨[.agg #[.int .i64 mk, .int .i64 mp, .int .i64 mq, .int .i64 mt, .int .i64 mb, .int .i64 mv, .string md]]⟩ W R := by
  refine AtE.calls (nt := 39) Tryd.func3 (by kernel_rfl) hm ?_
  refine AtE.run 2 (fun W => by kernel_rfl) ?_
  refine AtE.new (fun B => .pointer (some ⟨B, 0, none⟩)) (.cells #[.int .i64 mk, .int .i64 mp, .int .i64 mq, .int .i64 mt, .int .i64 mb, .int .i64 mv, .string md] 23) (fun W => by kernel_rfl) (by kernel_rfl) (fun B => ?_)
  replace H := H B
  refine AtE.run 4 (fun W => by kernel_rfl) ?_
  refine AtE.call 10 ⟨[]⟩ (fun W => by kernel_rfl) (by kernel_rfl) H ?_
  clear H
  rintro _ _ ⟨r1, rfl, rfl, H⟩
  refine AtE.run 4 (fun W => by kernel_rfl) ?_
  refine AtE.load 0 0 (T := 23) (v := .agg #[.int .i64 mk, .int .i64 mp, .int .i64 mq, .int .i64 mt, .int .i64 mb, .int .i64 mv, .string md]) (by kernel_rfl) ?_
  refine AtE.call 11 ⟨[.agg #[.int .i64 mk, .int .i64 mp, .int .i64 mq, .int .i64 mt, .int .i64 mb, .int .i64 mv, .string md]]⟩ (fun W => by kernel_rfl) (by kernel_rfl) H ?_
  clear H
  rintro _ _ ⟨r2_0, r2_1, r2_2, r2_3, r2_4, r2_5, r2_6, rfl, rfl, H⟩
  refine AtE.store 0 0 (T := 23) (v := .agg #[.int .i64 r2_0, .int .i64 r2_1, .int .i64 r2_2, .int .i64 r2_3, .int .i64 r2_4, .int .i64 r2_5, .string r2_6]) (by kernel_rfl) ?_
  refine AtE.run 3 (fun W => by kernel_rfl) ?_
  refine AtE.load 0 0 (T := 23) (v := .agg #[.int .i64 r2_0, .int .i64 r2_1, .int .i64 r2_2, .int .i64 r2_3, .int .i64 r2_4, .int .i64 r2_5, .string r2_6]) (by kernel_rfl) ?_
  refine AtE.call 12 ⟨[.agg #[.int .i64 r2_0, .int .i64 r2_1, .int .i64 r2_2, .int .i64 r2_3, .int .i64 r2_4, .int .i64 r2_5, .string r2_6]]⟩ (fun W => by kernel_rfl) (by kernel_rfl) H ?_
  clear H
  rintro _ _ ⟨r31, r41, rfl, rfl, H⟩
  refine AtE.norm (k' := [.inRegion (regOps [.code (sub (Eng.body Tryd.f3) [1, 1, 1, 0])]) [2, 3, 4, 5, 6], .code (sub (Eng.body Tryd.f3) [1, 1, 1, 1])]) (e' := [(1, .pointer (some ⟨B, 0, none⟩)), (3, .bool r1), (13, .tuple #[.string r31, .int .i64 r41])]) (L' := [(B, .cells #[.int .i64 r2_0, .int .i64 r2_1, .int .i64 r2_2, .int .i64 r2_3, .int .i64 r2_4, .int .i64 r2_5, .string r2_6] 23)]) ?_ (by kernel_rfl)
  refine AtE.run 8 (fun W => by kernel_rfl) ?_
  refine AtE.load 0 0 (T := 23) (v := .agg #[.int .i64 r2_0, .int .i64 r2_1, .int .i64 r2_2, .int .i64 r2_3, .int .i64 r2_4, .int .i64 r2_5, .string r2_6]) (by kernel_rfl) ?_
  refine AtE.call 13 ⟨[.agg #[.int .i64 r2_0, .int .i64 r2_1, .int .i64 r2_2, .int .i64 r2_3, .int .i64 r2_4, .int .i64 r2_5, .string r2_6]]⟩ (fun W => by kernel_rfl) (by kernel_rfl) H ?_
  clear H
  rintro _ _ ⟨r51, r61, rfl, rfl, H⟩
  refine AtE.run 7 (fun W => by kernel_rfl) ?_
  refine AtE.norm (k' := [.code (sub (Eng.body Tryd.f3) [1, 1, 1, 1, 1, 0]), .code (sub (Eng.body Tryd.f3) [1, 1, 1, 1, 1, 1])]) (e' := [(1, .pointer (some ⟨B, 0, none⟩)), (3, .bool r1), (4, .string r31), (5, .int .i64 r41), (6, .string r51), (7, .int .i64 r61)]) (L' := [(B, .cells #[.int .i64 r2_0, .int .i64 r2_1, .int .i64 r2_2, .int .i64 r2_3, .int .i64 r2_4, .int .i64 r2_5, .string r2_6] 23)]) ?_ (by kernel_rfl)
  refine AtE.draw 19 (by kernel_rfl) ?_
  refine AtQ.pure (by kernel_rfl) (fun W => by kernel_rfl) ?_
  refine AtQ.pure (by kernel_rfl) (fun W => by kernel_rfl) ?_
  refine AtQ.split 22 (b := r1) (by kernel_rfl) (fun h1' => ?_) (fun h1' => ?_)
  · replace H := H.1 h1'
    refine AtQ.pure (by kernel_rfl) (fun W => by kernel_rfl) ?_
    refine AtQ.pure (by kernel_rfl) (fun W => by kernel_rfl) ?_
    refine AtQ.pure (by kernel_rfl) (fun W => by kernel_rfl) ?_
    refine AtQ.pure (by kernel_rfl) (fun W => by kernel_rfl) ?_
    refine AtQ.pure (by kernel_rfl) (fun W => by kernel_rfl) ?_
    refine AtQ.splitS 27 (x := r31) (y := r51) (by kernel_rfl) (fun h2' => ?_) (fun h2' => ?_)
    · replace H := H.1 h2'
      refine AtQ.pure (by kernel_rfl) (fun W => by kernel_rfl) ?_
      refine AtQ.pure (by kernel_rfl) (fun W => by kernel_rfl) ?_
      refine AtQ.pure (by kernel_rfl) (fun W => by kernel_rfl) ?_
      refine AtQ.pure (by kernel_rfl) (fun W => by kernel_rfl) ?_
      refine AtQ.pure (by kernel_rfl) (fun W => by kernel_rfl) ?_
      refine AtQ.splitP 32 (p := r41 = r61) (by kernel_rfl) (fun h3' => ?_) (fun h3' => ?_)
      · replace H := H.1 h3'
        refine AtQ.load 0 0 (T := 23) (v := .agg #[.int .i64 r2_0, .int .i64 r2_1, .int .i64 r2_2, .int .i64 r2_3, .int .i64 r2_4, .int .i64 r2_5, .string r2_6]) (by kernel_rfl) ?_
        obtain ⟨r71, hq, H⟩ := H
        refine AtQ.call 14 ⟨[.agg #[.int .i64 r2_0, .int .i64 r2_1, .int .i64 r2_2, .int .i64 r2_3, .int .i64 r2_4, .int .i64 r2_5, .string r2_6]]⟩ (fun W => by kernel_rfl) (by kernel_rfl) hq ?_
        refine AtQ.load 0 0 (T := 23) (v := .agg #[.int .i64 r2_0, .int .i64 r2_1, .int .i64 r2_2, .int .i64 r2_3, .int .i64 r2_4, .int .i64 r2_5, .string r2_6]) (by kernel_rfl) ?_
        obtain ⟨r81, hq, H⟩ := H
        refine AtQ.call 15 ⟨[.agg #[.int .i64 r2_0, .int .i64 r2_1, .int .i64 r2_2, .int .i64 r2_3, .int .i64 r2_4, .int .i64 r2_5, .string r2_6]]⟩ (fun W => by kernel_rfl) (by kernel_rfl) hq ?_
        refine AtQ.split 34 (b := r71) (by kernel_rfl) (fun h4' => ?_) (fun h4' => ?_)
        · replace H := H.1 h4'
          refine AtQ.split 36 (b := r81) (by kernel_rfl) (fun h5' => ?_) (fun h5' => ?_)
          · replace H := H.1 h5'
            refine AtQ.pure (by kernel_rfl) (fun W => by kernel_rfl) ?_
            refine AtQ.pure (by kernel_rfl) (fun W => by kernel_rfl) ?_
            refine AtQ.pure (by kernel_rfl) (fun W => by kernel_rfl) ?_
            refine AtQ.done (by kernel_rfl) ?_
            refine AtE.run 1 (fun W => by kernel_rfl) ?_
            exact AtE.ret Tryd.func3 (by kernel_rfl) H
          · replace H := H.2 h5'
            refine AtQ.pure (by kernel_rfl) (fun W => by kernel_rfl) ?_
            refine AtQ.pure (by kernel_rfl) (fun W => by kernel_rfl) ?_
            refine AtQ.pure (by kernel_rfl) (fun W => by kernel_rfl) ?_
            refine AtQ.done (by kernel_rfl) ?_
            refine AtE.run 1 (fun W => by kernel_rfl) ?_
            exact AtE.ret Tryd.func3 (by kernel_rfl) H
        · replace H := H.2 h4'
          refine AtQ.split 36 (b := r81) (by kernel_rfl) (fun h6' => ?_) (fun h6' => ?_)
          · replace H := H.1 h6'
            refine AtQ.pure (by kernel_rfl) (fun W => by kernel_rfl) ?_
            refine AtQ.pure (by kernel_rfl) (fun W => by kernel_rfl) ?_
            refine AtQ.pure (by kernel_rfl) (fun W => by kernel_rfl) ?_
            refine AtQ.done (by kernel_rfl) ?_
            refine AtE.run 1 (fun W => by kernel_rfl) ?_
            exact AtE.ret Tryd.func3 (by kernel_rfl) H
          · replace H := H.2 h6'
            refine AtQ.pure (by kernel_rfl) (fun W => by kernel_rfl) ?_
            refine AtQ.pure (by kernel_rfl) (fun W => by kernel_rfl) ?_
            refine AtQ.pure (by kernel_rfl) (fun W => by kernel_rfl) ?_
            refine AtQ.done (by kernel_rfl) ?_
            refine AtE.run 1 (fun W => by kernel_rfl) ?_
            exact AtE.ret Tryd.func3 (by kernel_rfl) H
      · replace H := H.2 h3'
        refine AtQ.skip (by kernel_rfl) ?_
        refine AtQ.skip (by kernel_rfl) ?_
        refine AtQ.skip (by kernel_rfl) ?_
        refine AtQ.skip (by kernel_rfl) ?_
        refine AtQ.skip (by kernel_rfl) ?_
        refine AtQ.pure (by kernel_rfl) (fun W => by kernel_rfl) ?_
        refine AtQ.pure (by kernel_rfl) (fun W => by kernel_rfl) ?_
        refine AtQ.done (by kernel_rfl) ?_
        refine AtE.run 1 (fun W => by kernel_rfl) ?_
        exact AtE.ret Tryd.func3 (by kernel_rfl) H
    · replace H := H.2 h2'
      refine AtQ.skip (by kernel_rfl) ?_
      refine AtQ.skip (by kernel_rfl) ?_
      refine AtQ.skip (by kernel_rfl) ?_
      refine AtQ.pure (by kernel_rfl) (fun W => by kernel_rfl) ?_
      refine AtQ.pure (by kernel_rfl) (fun W => by kernel_rfl) ?_
      refine AtQ.skip (by kernel_rfl) ?_
      refine AtQ.skip (by kernel_rfl) ?_
      refine AtQ.skip (by kernel_rfl) ?_
      refine AtQ.skip (by kernel_rfl) ?_
      refine AtQ.skip (by kernel_rfl) ?_
      refine AtQ.pure (by kernel_rfl) (fun W => by kernel_rfl) ?_
      refine AtQ.pure (by kernel_rfl) (fun W => by kernel_rfl) ?_
      refine AtQ.done (by kernel_rfl) ?_
      refine AtE.run 1 (fun W => by kernel_rfl) ?_
      exact AtE.ret Tryd.func3 (by kernel_rfl) H
  · replace H := H.2 h1'
    refine AtQ.skip (by kernel_rfl) ?_
    refine AtQ.skip (by kernel_rfl) ?_
    refine AtQ.skip (by kernel_rfl) ?_
    refine AtQ.pure (by kernel_rfl) (fun W => by kernel_rfl) ?_
    refine AtQ.pure (by kernel_rfl) (fun W => by kernel_rfl) ?_
    refine AtQ.skip (by kernel_rfl) ?_
    refine AtQ.skip (by kernel_rfl) ?_
    refine AtQ.skip (by kernel_rfl) ?_
    refine AtQ.pure (by kernel_rfl) (fun W => by kernel_rfl) ?_
    refine AtQ.pure (by kernel_rfl) (fun W => by kernel_rfl) ?_
    refine AtQ.skip (by kernel_rfl) ?_
    refine AtQ.skip (by kernel_rfl) ?_
    refine AtQ.skip (by kernel_rfl) ?_
    refine AtQ.skip (by kernel_rfl) ?_
    refine AtQ.skip (by kernel_rfl) ?_
    refine AtQ.pure (by kernel_rfl) (fun W => by kernel_rfl) ?_
    refine AtQ.pure (by kernel_rfl) (fun W => by kernel_rfl) ?_
    refine AtQ.done (by kernel_rfl) ?_
    refine AtE.run 1 (fun W => by kernel_rfl) ?_
    exact AtE.ret Tryd.func3 (by kernel_rfl) H

theorem LDec_vc (s : ByteArray) {R : Ending → World → Prop} {w0 W : World} (hm : Mem [] [] w0 W)
    (H :
      CallH Tryd.prog 10 ⟨[]⟩ [] [] w0 (fun v L' => ∃ (r1 : Bool), v = (.bool r1) ∧ L' = [] ∧
        (0 ≤ (0 : Int) ∧ (0 : Int) ≤ (if (20000 : Int) < (s.size : Int) then (20000 : Int) else (s.size : Int)) ∧ (if (20000 : Int) < (s.size : Int) then (20000 : Int) else (s.size : Int)) ≤ s.size) ∧
        ∀ s1 : ByteArray, s1 = (s.extract 0 (Int.toNat (if (20000 : Int) < (s.size : Int) then (20000 : Int) else (s.size : Int)))) →
        CallH Tryd.prog 16 ⟨[.string s1]⟩ [] [] w0 (fun v L' => ∃ (r2_0 : Int) (r2_1 : Int) (r2_2 : Int) (r2_3 : Int) (r2_4 : Int) (r2_5 : Int) (r2_6 : ByteArray) (r31 : Int), v = (.tuple #[.agg #[.int .i64 r2_0, .int .i64 r2_1, .int .i64 r2_2, .int .i64 r2_3, .int .i64 r2_4, .int .i64 r2_5, .string r2_6], .int .i64 r31]) ∧ L' = [] ∧
          ∀ B : Nat,
          CallH Tryd.prog 17 ⟨[.string s1]⟩ [(B, .cells #[.int .i64 r2_0, .int .i64 r2_1, .int .i64 r2_2, .int .i64 r2_3, .int .i64 r2_4, .int .i64 r2_5, .string r2_6] 23)] [] w0 (fun v L' => ∃ (r4_0 : Int) (r4_1 : Int) (r4_2 : Int) (r4_3 : Int) (r4_4 : Int) (r4_5 : Int) (r4_6 : ByteArray) (r51 : Int), v = (.tuple #[.agg #[.int .i64 r4_0, .int .i64 r4_1, .int .i64 r4_2, .int .i64 r4_3, .int .i64 r4_4, .int .i64 r4_5, .string r4_6], .int .i64 r51]) ∧ L' = [(B, .cells #[.int .i64 r2_0, .int .i64 r2_1, .int .i64 r2_2, .int .i64 r2_3, .int .i64 r2_4, .int .i64 r2_5, .string r2_6] 23)] ∧
            ∀ B1 : Nat,
            ((r1 = true) →
              (((eqCells [.int .i64 r2_0, .int .i64 r2_1, .int .i64 r2_2, .int .i64 r2_3, .int .i64 r2_4, .int .i64 r2_5, .string r2_6] [.int .i64 r4_0, .int .i64 r4_1, .int .i64 r4_2, .int .i64 r4_3, .int .i64 r4_4, .int .i64 r4_5, .string r4_6]) = true) →
                Fin R [(B, .cells #[.int .i64 r2_0, .int .i64 r2_1, .int .i64 r2_2, .int .i64 r2_3, .int .i64 r2_4, .int .i64 r2_5, .string r2_6] 23), (B1, .cells #[.int .i64 r4_0, .int .i64 r4_1, .int .i64 r4_2, .int .i64 r4_3, .int .i64 r4_4, .int .i64 r4_5, .string r4_6] 23)] [] w0 (.bool (decide (r31 = r51)))) ∧
               (((eqCells [.int .i64 r2_0, .int .i64 r2_1, .int .i64 r2_2, .int .i64 r2_3, .int .i64 r2_4, .int .i64 r2_5, .string r2_6] [.int .i64 r4_0, .int .i64 r4_1, .int .i64 r4_2, .int .i64 r4_3, .int .i64 r4_4, .int .i64 r4_5, .string r4_6]) = false) →
                Fin R [(B, .cells #[.int .i64 r2_0, .int .i64 r2_1, .int .i64 r2_2, .int .i64 r2_3, .int .i64 r2_4, .int .i64 r2_5, .string r2_6] 23), (B1, .cells #[.int .i64 r4_0, .int .i64 r4_1, .int .i64 r4_2, .int .i64 r4_3, .int .i64 r4_4, .int .i64 r4_5, .string r4_6] 23)] [] w0 (.bool false))) ∧
             ((r1 = false) →
              Fin R [(B, .cells #[.int .i64 r2_0, .int .i64 r2_1, .int .i64 r2_2, .int .i64 r2_3, .int .i64 r2_4, .int .i64 r2_5, .string r2_6] 23), (B1, .cells #[.int .i64 r4_0, .int .i64 r4_1, .int .i64 r4_2, .int .i64 r4_3, .int .i64 r4_4, .int .i64 r4_5, .string r4_6] 23)] [] w0 (.bool false)))))) :
    Calls Tryd.prog 4 ⟨[.string s]⟩ W R := by
  refine AtE.calls (nt := 35) Tryd.func4 (by kernel_rfl) hm ?_
  refine AtE.run 6 (fun W => by kernel_rfl) ?_
  refine AtE.call 10 ⟨[]⟩ (fun W => by kernel_rfl) (by kernel_rfl) H ?_
  clear H
  rintro _ _ ⟨r1, rfl, rfl, H⟩
  refine AtE.run 8 (fun W => by kernel_rfl) ?_
  refine AtE.sliceS (s := s) (lo := none) (hi := some (.int .i64 (if (20000 : Int) < (s.size : Int) then (20000 : Int) else (s.size : Int)))) (a := (0 : Int)) (b := (if (20000 : Int) < (s.size : Int) then (20000 : Int) else (s.size : Int))) (by kernel_rfl) (.inr ⟨rfl, rfl⟩) (.inl ⟨.i64, rfl⟩) H.1 ?_
  replace H := H.2
  refine AtE.run 1 (fun W => by kernel_rfl) ?_
  refine AtE.letS 0 (n := (s.extract 0 (Int.toNat (if (20000 : Int) < (s.size : Int) then (20000 : Int) else (s.size : Int))))) (by kernel_rfl) (fun s1 hs1 => ?_)
  replace H := H s1 hs1
  refine AtE.run 4 (fun W => by kernel_rfl) ?_
  refine AtE.call 16 ⟨[.string s1]⟩ (fun W => by kernel_rfl) (by kernel_rfl) H ?_
  clear H
  rintro _ _ ⟨r2_0, r2_1, r2_2, r2_3, r2_4, r2_5, r2_6, r31, rfl, rfl, H⟩
  refine AtE.run 3 (fun W => by kernel_rfl) ?_
  refine AtE.new (fun B => .pointer (some ⟨B, 0, none⟩)) (.cells #[.int .i64 (0 : Int), .int .i64 (0 : Int), .int .i64 (0 : Int), .int .i64 (0 : Int), .int .i64 (0 : Int), .int .i64 (0 : Int), .string (⟨#[]⟩)] 23) (fun W => by kernel_rfl) (by kernel_rfl) (fun B => ?_)
  replace H := H B
  refine AtE.store 0 0 (T := 23) (v := .agg #[.int .i64 r2_0, .int .i64 r2_1, .int .i64 r2_2, .int .i64 r2_3, .int .i64 r2_4, .int .i64 r2_5, .string r2_6]) (by kernel_rfl) ?_
  refine AtE.run 5 (fun W => by kernel_rfl) ?_
  refine AtE.call 17 ⟨[.string s1]⟩ (fun W => by kernel_rfl) (by kernel_rfl) H ?_
  clear H
  rintro _ _ ⟨r4_0, r4_1, r4_2, r4_3, r4_4, r4_5, r4_6, r51, rfl, rfl, H⟩
  refine AtE.norm (k' := [.inRegion (regOps [.code (sub (Eng.body Tryd.f4) [1, 1, 1, 1, 0])]) [2, 3, 4, 5, 6, 7], .code (sub (Eng.body Tryd.f4) [1, 1, 1, 1, 1])]) (e' := [(3, .bool r1), (4, .pointer (some ⟨B, 0, none⟩)), (5, .int .i64 r31), (21, .tuple #[.agg #[.int .i64 r4_0, .int .i64 r4_1, .int .i64 r4_2, .int .i64 r4_3, .int .i64 r4_4, .int .i64 r4_5, .string r4_6], .int .i64 r51])]) (L' := [(B, .cells #[.int .i64 r2_0, .int .i64 r2_1, .int .i64 r2_2, .int .i64 r2_3, .int .i64 r2_4, .int .i64 r2_5, .string r2_6] 23)]) ?_ (by kernel_rfl)
  refine AtE.run 3 (fun W => by kernel_rfl) ?_
  refine AtE.new (fun B => .pointer (some ⟨B, 0, none⟩)) (.cells #[.int .i64 (0 : Int), .int .i64 (0 : Int), .int .i64 (0 : Int), .int .i64 (0 : Int), .int .i64 (0 : Int), .int .i64 (0 : Int), .string (⟨#[]⟩)] 23) (fun W => by kernel_rfl) (by kernel_rfl) (fun B1 => ?_)
  replace H := H B1
  refine AtE.store 1 0 (T := 23) (v := .agg #[.int .i64 r4_0, .int .i64 r4_1, .int .i64 r4_2, .int .i64 r4_3, .int .i64 r4_4, .int .i64 r4_5, .string r4_6]) (by kernel_rfl) ?_
  refine AtE.run 6 (fun W => by kernel_rfl) ?_
  refine AtE.split 25 (b := r1) (by kernel_rfl) (fun h1' => ?_) (fun h1' => ?_)
  · replace H := H.1 h1'
    refine AtE.load 0 0 (T := 23) (v := .agg #[.int .i64 r2_0, .int .i64 r2_1, .int .i64 r2_2, .int .i64 r2_3, .int .i64 r2_4, .int .i64 r2_5, .string r2_6]) (by kernel_rfl) ?_
    refine AtE.load 1 0 (T := 23) (v := .agg #[.int .i64 r4_0, .int .i64 r4_1, .int .i64 r4_2, .int .i64 r4_3, .int .i64 r4_4, .int .i64 r4_5, .string r4_6]) (by kernel_rfl) ?_
    refine AtE.eqlA (T := 23) (xs := [.int .i64 r2_0, .int .i64 r2_1, .int .i64 r2_2, .int .i64 r2_3, .int .i64 r2_4, .int .i64 r2_5, .string r2_6]) (ys := [.int .i64 r4_0, .int .i64 r4_1, .int .i64 r4_2, .int .i64 r4_3, .int .i64 r4_4, .int .i64 r4_5, .string r4_6]) (fs := (match Tryd.prog.underlying 23 with | some (.struct fs) => fs | _ => #[])) (by kernel_rfl) ?_
    refine AtE.run 2 (fun W => by kernel_rfl) ?_
    refine AtE.split 30 (b := (eqCells [.int .i64 r2_0, .int .i64 r2_1, .int .i64 r2_2, .int .i64 r2_3, .int .i64 r2_4, .int .i64 r2_5, .string r2_6] [.int .i64 r4_0, .int .i64 r4_1, .int .i64 r4_2, .int .i64 r4_3, .int .i64 r4_4, .int .i64 r4_5, .string r4_6])) (by kernel_rfl) (fun h2' => ?_) (fun h2' => ?_)
    · replace H := H.1 h2'
      refine AtE.norm (k' := [.inRegion (regOps [.code (sub (Eng.body Tryd.f4) [1, 1, 1, 1, 1, 0])]) [7, 8, 9, 10, 11], .code (sub (Eng.body Tryd.f4) [1, 1, 1, 1, 1, 1])]) (e' := [(5, .int .i64 r31), (7, .int .i64 r51), (30, .bool true)]) (L' := [(B, .cells #[.int .i64 r2_0, .int .i64 r2_1, .int .i64 r2_2, .int .i64 r2_3, .int .i64 r2_4, .int .i64 r2_5, .string r2_6] 23), (B1, .cells #[.int .i64 r4_0, .int .i64 r4_1, .int .i64 r4_2, .int .i64 r4_3, .int .i64 r4_4, .int .i64 r4_5, .string r4_6] 23)]) ?_ (by kernel_rfl)
      refine AtE.run 6 (fun W => by kernel_rfl) ?_
      exact AtE.ret Tryd.func4 (by kernel_rfl) H
    · replace H := H.2 h2'
      refine AtE.norm (k' := [.inRegion (regOps [.code (sub (Eng.body Tryd.f4) [1, 1, 1, 1, 1, 0])]) [7, 8, 9, 10, 11], .code (sub (Eng.body Tryd.f4) [1, 1, 1, 1, 1, 1])]) (e' := [(5, .int .i64 r31), (7, .int .i64 r51), (30, .bool false)]) (L' := [(B, .cells #[.int .i64 r2_0, .int .i64 r2_1, .int .i64 r2_2, .int .i64 r2_3, .int .i64 r2_4, .int .i64 r2_5, .string r2_6] 23), (B1, .cells #[.int .i64 r4_0, .int .i64 r4_1, .int .i64 r4_2, .int .i64 r4_3, .int .i64 r4_4, .int .i64 r4_5, .string r4_6] 23)]) ?_ (by kernel_rfl)
      refine AtE.run 6 (fun W => by kernel_rfl) ?_
      exact AtE.ret Tryd.func4 (by kernel_rfl) H
  · replace H := H.2 h1'
    refine AtE.run 11 (fun W => by kernel_rfl) ?_
    exact AtE.ret Tryd.func4 (by kernel_rfl) H

theorem LSealed_vc (body : ByteArray) {R : Ending → World → Prop} {w0 W : World} (hm : Mem [] [] w0 W)
    (H :
      CallH Tryd.prog 10 ⟨[]⟩ [] [] w0 (fun v L' => ∃ (r1 : Bool), v = (.bool r1) ∧ L' = [] ∧
        (0 ≤ (0 : Int) ∧ (0 : Int) ≤ (if (20000 : Int) < (body.size : Int) then (20000 : Int) else (body.size : Int)) ∧ (if (20000 : Int) < (body.size : Int) then (20000 : Int) else (body.size : Int)) ≤ body.size) ∧
        ∀ body1 : ByteArray, body1 = (body.extract 0 (Int.toNat (if (20000 : Int) < (body.size : Int) then (20000 : Int) else (body.size : Int)))) →
        CallH Tryd.prog 19 ⟨[.string body1]⟩ [] [] w0 (fun v L' => ∃ (r21 : Int), v = (.int .i64 r21) ∧ L' = [] ∧
          CallH Tryd.prog 18 ⟨[.int .i64 r21]⟩ [] [] w0 (fun v L' => ∃ (r31 : ByteArray) (r41 : Int), v = (.tuple #[.string r31, .int .i64 r41]) ∧ L' = [] ∧
            (r31.size + body1.size ≤ 9223372036854775807) ∧
            CallH Tryd.prog 16 ⟨[.string (r31 ++ body1)]⟩ [] [] w0 (fun v L' => ∃ (r5_0 : Int) (r5_1 : Int) (r5_2 : Int) (r5_3 : Int) (r5_4 : Int) (r5_5 : Int) (r5_6 : ByteArray) (r61 : Int), v = (.tuple #[.agg #[.int .i64 r5_0, .int .i64 r5_1, .int .i64 r5_2, .int .i64 r5_3, .int .i64 r5_4, .int .i64 r5_5, .string r5_6], .int .i64 r61]) ∧ L' = [] ∧
              ∀ B : Nat,
              (r31.size + body1.size ≤ 9223372036854775807) ∧
              CallH Tryd.prog 17 ⟨[.string (r31 ++ body1)]⟩ [(B, .cells #[.int .i64 r5_0, .int .i64 r5_1, .int .i64 r5_2, .int .i64 r5_3, .int .i64 r5_4, .int .i64 r5_5, .string r5_6] 23)] [] w0 (fun v L' => ∃ (r7_0 : Int) (r7_1 : Int) (r7_2 : Int) (r7_3 : Int) (r7_4 : Int) (r7_5 : Int) (r7_6 : ByteArray) (r81 : Int), v = (.tuple #[.agg #[.int .i64 r7_0, .int .i64 r7_1, .int .i64 r7_2, .int .i64 r7_3, .int .i64 r7_4, .int .i64 r7_5, .string r7_6], .int .i64 r81]) ∧ L' = [(B, .cells #[.int .i64 r5_0, .int .i64 r5_1, .int .i64 r5_2, .int .i64 r5_3, .int .i64 r5_4, .int .i64 r5_5, .string r5_6] 23)] ∧
                ∀ B1 : Nat,
                ((r1 = true) →
                  (((eqCells [.int .i64 r5_0, .int .i64 r5_1, .int .i64 r5_2, .int .i64 r5_3, .int .i64 r5_4, .int .i64 r5_5, .string r5_6] [.int .i64 r7_0, .int .i64 r7_1, .int .i64 r7_2, .int .i64 r7_3, .int .i64 r7_4, .int .i64 r7_5, .string r7_6]) = true) →
                    Fin R [(B, .cells #[.int .i64 r5_0, .int .i64 r5_1, .int .i64 r5_2, .int .i64 r5_3, .int .i64 r5_4, .int .i64 r5_5, .string r5_6] 23), (B1, .cells #[.int .i64 r7_0, .int .i64 r7_1, .int .i64 r7_2, .int .i64 r7_3, .int .i64 r7_4, .int .i64 r7_5, .string r7_6] 23)] [] w0 (.bool (decide (r61 = r81)))) ∧
                   (((eqCells [.int .i64 r5_0, .int .i64 r5_1, .int .i64 r5_2, .int .i64 r5_3, .int .i64 r5_4, .int .i64 r5_5, .string r5_6] [.int .i64 r7_0, .int .i64 r7_1, .int .i64 r7_2, .int .i64 r7_3, .int .i64 r7_4, .int .i64 r7_5, .string r7_6]) = false) →
                    Fin R [(B, .cells #[.int .i64 r5_0, .int .i64 r5_1, .int .i64 r5_2, .int .i64 r5_3, .int .i64 r5_4, .int .i64 r5_5, .string r5_6] 23), (B1, .cells #[.int .i64 r7_0, .int .i64 r7_1, .int .i64 r7_2, .int .i64 r7_3, .int .i64 r7_4, .int .i64 r7_5, .string r7_6] 23)] [] w0 (.bool false))) ∧
                 ((r1 = false) →
                  Fin R [(B, .cells #[.int .i64 r5_0, .int .i64 r5_1, .int .i64 r5_2, .int .i64 r5_3, .int .i64 r5_4, .int .i64 r5_5, .string r5_6] 23), (B1, .cells #[.int .i64 r7_0, .int .i64 r7_1, .int .i64 r7_2, .int .i64 r7_3, .int .i64 r7_4, .int .i64 r7_5, .string r7_6] 23)] [] w0 (.bool false)))))))) :
    Calls Tryd.prog 5 ⟨[.string body]⟩ W R := by
  refine AtE.calls (nt := 47) Tryd.func5 (by kernel_rfl) hm ?_
  refine AtE.run 6 (fun W => by kernel_rfl) ?_
  refine AtE.call 10 ⟨[]⟩ (fun W => by kernel_rfl) (by kernel_rfl) H ?_
  clear H
  rintro _ _ ⟨r1, rfl, rfl, H⟩
  refine AtE.run 8 (fun W => by kernel_rfl) ?_
  refine AtE.sliceS (s := body) (lo := none) (hi := some (.int .i64 (if (20000 : Int) < (body.size : Int) then (20000 : Int) else (body.size : Int)))) (a := (0 : Int)) (b := (if (20000 : Int) < (body.size : Int) then (20000 : Int) else (body.size : Int))) (by kernel_rfl) (.inr ⟨rfl, rfl⟩) (.inl ⟨.i64, rfl⟩) H.1 ?_
  replace H := H.2
  refine AtE.run 1 (fun W => by kernel_rfl) ?_
  refine AtE.letS 0 (n := (body.extract 0 (Int.toNat (if (20000 : Int) < (body.size : Int) then (20000 : Int) else (body.size : Int))))) (by kernel_rfl) (fun body1 hbody1 => ?_)
  replace H := H body1 hbody1
  refine AtE.run 4 (fun W => by kernel_rfl) ?_
  refine AtE.call 19 ⟨[.string body1]⟩ (fun W => by kernel_rfl) (by kernel_rfl) H ?_
  clear H
  rintro _ _ ⟨r21, rfl, rfl, H⟩
  refine AtE.call 18 ⟨[.int .i64 r21]⟩ (fun W => by kernel_rfl) (by kernel_rfl) H ?_
  clear H
  rintro _ _ ⟨r31, r41, rfl, rfl, H⟩
  refine AtE.run 10 (fun W => by kernel_rfl) ?_
  refine AtE.concat (x := r31) (y := body1) (by kernel_rfl) H.1 ?_
  replace H := H.2
  refine AtE.call 16 ⟨[.string (r31 ++ body1)]⟩ (fun W => by kernel_rfl) (by kernel_rfl) H ?_
  clear H
  rintro _ _ ⟨r5_0, r5_1, r5_2, r5_3, r5_4, r5_5, r5_6, r61, rfl, rfl, H⟩
  refine AtE.norm (k' := [.inRegion (regOps [.code (sub (Eng.body Tryd.f5) [1, 1, 1, 1, 0])]) [4, 5, 6, 7, 8, 9], .code (sub (Eng.body Tryd.f5) [1, 1, 1, 1, 1])]) (e' := [(0, .string body1), (3, .bool r1), (4, .string r31), (26, .tuple #[.agg #[.int .i64 r5_0, .int .i64 r5_1, .int .i64 r5_2, .int .i64 r5_3, .int .i64 r5_4, .int .i64 r5_5, .string r5_6], .int .i64 r61])]) (L' := []) ?_ (by kernel_rfl)
  refine AtE.run 3 (fun W => by kernel_rfl) ?_
  refine AtE.new (fun B => .pointer (some ⟨B, 0, none⟩)) (.cells #[.int .i64 (0 : Int), .int .i64 (0 : Int), .int .i64 (0 : Int), .int .i64 (0 : Int), .int .i64 (0 : Int), .int .i64 (0 : Int), .string (⟨#[]⟩)] 23) (fun W => by kernel_rfl) (by kernel_rfl) (fun B => ?_)
  replace H := H B
  refine AtE.store 0 0 (T := 23) (v := .agg #[.int .i64 r5_0, .int .i64 r5_1, .int .i64 r5_2, .int .i64 r5_3, .int .i64 r5_4, .int .i64 r5_5, .string r5_6]) (by kernel_rfl) ?_
  refine AtE.run 6 (fun W => by kernel_rfl) ?_
  refine AtE.concat (x := r31) (y := body1) (by kernel_rfl) H.1 ?_
  replace H := H.2
  refine AtE.call 17 ⟨[.string (r31 ++ body1)]⟩ (fun W => by kernel_rfl) (by kernel_rfl) H ?_
  clear H
  rintro _ _ ⟨r7_0, r7_1, r7_2, r7_3, r7_4, r7_5, r7_6, r81, rfl, rfl, H⟩
  refine AtE.run 3 (fun W => by kernel_rfl) ?_
  refine AtE.new (fun B => .pointer (some ⟨B, 0, none⟩)) (.cells #[.int .i64 (0 : Int), .int .i64 (0 : Int), .int .i64 (0 : Int), .int .i64 (0 : Int), .int .i64 (0 : Int), .int .i64 (0 : Int), .string (⟨#[]⟩)] 23) (fun W => by kernel_rfl) (by kernel_rfl) (fun B1 => ?_)
  replace H := H B1
  refine AtE.store 1 0 (T := 23) (v := .agg #[.int .i64 r7_0, .int .i64 r7_1, .int .i64 r7_2, .int .i64 r7_3, .int .i64 r7_4, .int .i64 r7_5, .string r7_6]) (by kernel_rfl) ?_
  refine AtE.run 6 (fun W => by kernel_rfl) ?_
  refine AtE.split 37 (b := r1) (by kernel_rfl) (fun h1' => ?_) (fun h1' => ?_)
  · replace H := H.1 h1'
    refine AtE.norm (k' := [.inRegion (regOps [.code (sub (Eng.body Tryd.f5) [1, 1, 1, 1, 1, 1, 0])]) [2, 3, 4, 5, 6, 7, 8, 9, 10, 11], .code (sub (Eng.body Tryd.f5) [1, 1, 1, 1, 1, 1, 1])]) (e' := [(6, .pointer (some ⟨B, 0, none⟩)), (7, .int .i64 r61), (8, .pointer (some ⟨B1, 0, none⟩)), (9, .int .i64 r81), (37, .bool true)]) (L' := [(B, .cells #[.int .i64 r5_0, .int .i64 r5_1, .int .i64 r5_2, .int .i64 r5_3, .int .i64 r5_4, .int .i64 r5_5, .string r5_6] 23), (B1, .cells #[.int .i64 r7_0, .int .i64 r7_1, .int .i64 r7_2, .int .i64 r7_3, .int .i64 r7_4, .int .i64 r7_5, .string r7_6] 23)]) ?_ (by kernel_rfl)
    refine AtE.load 0 0 (T := 23) (v := .agg #[.int .i64 r5_0, .int .i64 r5_1, .int .i64 r5_2, .int .i64 r5_3, .int .i64 r5_4, .int .i64 r5_5, .string r5_6]) (by kernel_rfl) ?_
    refine AtE.load 1 0 (T := 23) (v := .agg #[.int .i64 r7_0, .int .i64 r7_1, .int .i64 r7_2, .int .i64 r7_3, .int .i64 r7_4, .int .i64 r7_5, .string r7_6]) (by kernel_rfl) ?_
    refine AtE.eqlA (T := 23) (xs := [.int .i64 r5_0, .int .i64 r5_1, .int .i64 r5_2, .int .i64 r5_3, .int .i64 r5_4, .int .i64 r5_5, .string r5_6]) (ys := [.int .i64 r7_0, .int .i64 r7_1, .int .i64 r7_2, .int .i64 r7_3, .int .i64 r7_4, .int .i64 r7_5, .string r7_6]) (fs := (match Tryd.prog.underlying 23 with | some (.struct fs) => fs | _ => #[])) (by kernel_rfl) ?_
    refine AtE.run 2 (fun W => by kernel_rfl) ?_
    refine AtE.split 42 (b := (eqCells [.int .i64 r5_0, .int .i64 r5_1, .int .i64 r5_2, .int .i64 r5_3, .int .i64 r5_4, .int .i64 r5_5, .string r5_6] [.int .i64 r7_0, .int .i64 r7_1, .int .i64 r7_2, .int .i64 r7_3, .int .i64 r7_4, .int .i64 r7_5, .string r7_6])) (by kernel_rfl) (fun h2' => ?_) (fun h2' => ?_)
    · replace H := H.1 h2'
      refine AtE.run 6 (fun W => by kernel_rfl) ?_
      exact AtE.ret Tryd.func5 (by kernel_rfl) H
    · replace H := H.2 h2'
      refine AtE.run 6 (fun W => by kernel_rfl) ?_
      exact AtE.ret Tryd.func5 (by kernel_rfl) H
  · replace H := H.2 h1'
    refine AtE.norm (k' := [.inRegion (regOps [.code (sub (Eng.body Tryd.f5) [1, 1, 1, 1, 1, 1, 0])]) [2, 3, 4, 5, 6, 7, 8, 9, 10, 11], .code (sub (Eng.body Tryd.f5) [1, 1, 1, 1, 1, 1, 1])]) (e' := [(6, .pointer (some ⟨B, 0, none⟩)), (7, .int .i64 r61), (8, .pointer (some ⟨B1, 0, none⟩)), (9, .int .i64 r81), (37, .bool false)]) (L' := [(B, .cells #[.int .i64 r5_0, .int .i64 r5_1, .int .i64 r5_2, .int .i64 r5_3, .int .i64 r5_4, .int .i64 r5_5, .string r5_6] 23), (B1, .cells #[.int .i64 r7_0, .int .i64 r7_1, .int .i64 r7_2, .int .i64 r7_3, .int .i64 r7_4, .int .i64 r7_5, .string r7_6] 23)]) ?_ (by kernel_rfl)
    refine AtE.run 11 (fun W => by kernel_rfl) ?_
    exact AtE.ret Tryd.func5 (by kernel_rfl) H

end Go.Eng
