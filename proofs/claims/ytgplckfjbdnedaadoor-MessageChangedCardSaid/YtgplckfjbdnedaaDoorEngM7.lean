/- Verification conditions of the functions, written by a program of the prover, checked here. -/
import Derived.Test.YtgplckfjbdnedaaDoorEngInl

import Derived.Test.YtgplckfjbdnedaaDoorEngEq

import Derived.Test.YtgplckfjbdnedaaDoorChecked

namespace Go.Eng

open Go Go.RowKit Go.Proofs

set_option linter.unusedVariables false

set_option maxRecDepth 100000

theorem LRound_vc (mk : Int) (mp : Int) (mq : Int) (mt : Int) (mb : Int) (mv : Int) (md : ByteArray) (nk : Int) (np : Int) (nq : Int) (nt : Int) (nb : Int) (nv : Int) (nd : ByteArray) {R : Ending → World → Prop} {w0 W : World} (hm : Mem [] [] w0 W)
    (H :
      ∀ B : Nat,
      ∀ B1 : Nat,
      CallH Tryd.prog 10 ⟨[]⟩ [(B, .cells #[.int .i64 mk, .int .i64 mp, .int .i64 mq, .int .i64 mt, .int .i64 mb, .int .i64 mv, .string md] 23), (B1, .cells #[.int .i64 nk, .int .i64 np, .int .i64 nq, .int .i64 nt, .int .i64 nb, .int .i64 nv, .string nd] 23)] [] w0 (fun v L' => ∃ (r1 : Bool), v = (.bool r1) ∧ L' = [(B, .cells #[.int .i64 mk, .int .i64 mp, .int .i64 mq, .int .i64 mt, .int .i64 mb, .int .i64 mv, .string md] 23), (B1, .cells #[.int .i64 nk, .int .i64 np, .int .i64 nq, .int .i64 nt, .int .i64 nb, .int .i64 nv, .string nd] 23)] ∧
        ∃ (r2_0 : Int) (r2_1 : Int) (r2_2 : Int) (r2_3 : Int) (r2_4 : Int) (r2_5 : Int) (r2_6 : ByteArray), (QCall Tryd.prog 11 ⟨[.agg #[.int .i64 mk, .int .i64 mp, .int .i64 mq, .int .i64 mt, .int .i64 mb, .int .i64 mv, .string md]]⟩ [(B, .cells #[.int .i64 mk, .int .i64 mp, .int .i64 mq, .int .i64 mt, .int .i64 mb, .int .i64 mv, .string md] 23), (B1, .cells #[.int .i64 nk, .int .i64 np, .int .i64 nq, .int .i64 nt, .int .i64 nb, .int .i64 nv, .string nd] 23)] [] w0 (.agg #[.int .i64 r2_0, .int .i64 r2_1, .int .i64 r2_2, .int .i64 r2_3, .int .i64 r2_4, .int .i64 r2_5, .string r2_6])) ∧
        ∃ (r3_0 : Int) (r3_1 : Int) (r3_2 : Int) (r3_3 : Int) (r3_4 : Int) (r3_5 : Int) (r3_6 : ByteArray), (QCall Tryd.prog 11 ⟨[.agg #[.int .i64 nk, .int .i64 np, .int .i64 nq, .int .i64 nt, .int .i64 nb, .int .i64 nv, .string nd]]⟩ [(B, .cells #[.int .i64 mk, .int .i64 mp, .int .i64 mq, .int .i64 mt, .int .i64 mb, .int .i64 mv, .string md] 23), (B1, .cells #[.int .i64 nk, .int .i64 np, .int .i64 nq, .int .i64 nt, .int .i64 nb, .int .i64 nv, .string nd] 23)] [] w0 (.agg #[.int .i64 r3_0, .int .i64 r3_1, .int .i64 r3_2, .int .i64 r3_3, .int .i64 r3_4, .int .i64 r3_5, .string r3_6])) ∧
        CallH Tryd.prog 12 ⟨[.agg #[.int .i64 r2_0, .int .i64 r2_1, .int .i64 r2_2, .int .i64 r2_3, .int .i64 r2_4, .int .i64 r2_5, .string r2_6]]⟩ [(B, .cells #[.int .i64 r2_0, .int .i64 r2_1, .int .i64 r2_2, .int .i64 r2_3, .int .i64 r2_4, .int .i64 r2_5, .string r2_6] 23), (B1, .cells #[.int .i64 r3_0, .int .i64 r3_1, .int .i64 r3_2, .int .i64 r3_3, .int .i64 r3_4, .int .i64 r3_5, .string r3_6] 23)] [] w0 (fun v L' => ∃ (r41 : ByteArray) (r51 : Int), v = (.tuple #[.string r41, .int .i64 r51]) ∧ L' = [(B, .cells #[.int .i64 r2_0, .int .i64 r2_1, .int .i64 r2_2, .int .i64 r2_3, .int .i64 r2_4, .int .i64 r2_5, .string r2_6] 23), (B1, .cells #[.int .i64 r3_0, .int .i64 r3_1, .int .i64 r3_2, .int .i64 r3_3, .int .i64 r3_4, .int .i64 r3_5, .string r3_6] 23)] ∧
          CallH Tryd.prog 12 ⟨[.agg #[.int .i64 r3_0, .int .i64 r3_1, .int .i64 r3_2, .int .i64 r3_3, .int .i64 r3_4, .int .i64 r3_5, .string r3_6]]⟩ [(B, .cells #[.int .i64 r2_0, .int .i64 r2_1, .int .i64 r2_2, .int .i64 r2_3, .int .i64 r2_4, .int .i64 r2_5, .string r2_6] 23), (B1, .cells #[.int .i64 r3_0, .int .i64 r3_1, .int .i64 r3_2, .int .i64 r3_3, .int .i64 r3_4, .int .i64 r3_5, .string r3_6] 23)] [] w0 (fun v L' => ∃ (r61 : ByteArray) (r71 : Int), v = (.tuple #[.string r61, .int .i64 r71]) ∧ L' = [(B, .cells #[.int .i64 r2_0, .int .i64 r2_1, .int .i64 r2_2, .int .i64 r2_3, .int .i64 r2_4, .int .i64 r2_5, .string r2_6] 23), (B1, .cells #[.int .i64 r3_0, .int .i64 r3_1, .int .i64 r3_2, .int .i64 r3_3, .int .i64 r3_4, .int .i64 r3_5, .string r3_6] 23)] ∧
            CallH Tryd.prog 14 ⟨[.agg #[.int .i64 r2_0, .int .i64 r2_1, .int .i64 r2_2, .int .i64 r2_3, .int .i64 r2_4, .int .i64 r2_5, .string r2_6]]⟩ [(B, .cells #[.int .i64 r2_0, .int .i64 r2_1, .int .i64 r2_2, .int .i64 r2_3, .int .i64 r2_4, .int .i64 r2_5, .string r2_6] 23), (B1, .cells #[.int .i64 r3_0, .int .i64 r3_1, .int .i64 r3_2, .int .i64 r3_3, .int .i64 r3_4, .int .i64 r3_5, .string r3_6] 23)] [] w0 (fun v L' => ∃ (r81 : Bool), v = (.bool r81) ∧ L' = [(B, .cells #[.int .i64 r2_0, .int .i64 r2_1, .int .i64 r2_2, .int .i64 r2_3, .int .i64 r2_4, .int .i64 r2_5, .string r2_6] 23), (B1, .cells #[.int .i64 r3_0, .int .i64 r3_1, .int .i64 r3_2, .int .i64 r3_3, .int .i64 r3_4, .int .i64 r3_5, .string r3_6] 23)] ∧
              ((r51 = (0 : Int)) →
                ((r81 = true) →
                  CallH Tryd.prog 16 ⟨[.string r41]⟩ [(B, .cells #[.int .i64 r2_0, .int .i64 r2_1, .int .i64 r2_2, .int .i64 r2_3, .int .i64 r2_4, .int .i64 r2_5, .string r2_6] 23), (B1, .cells #[.int .i64 r3_0, .int .i64 r3_1, .int .i64 r3_2, .int .i64 r3_3, .int .i64 r3_4, .int .i64 r3_5, .string r3_6] 23)] [] w0 (fun v L' => ∃ (r9_0 : Int) (r9_1 : Int) (r9_2 : Int) (r9_3 : Int) (r9_4 : Int) (r9_5 : Int) (r9_6 : ByteArray) (r101 : Int), v = (.tuple #[.agg #[.int .i64 r9_0, .int .i64 r9_1, .int .i64 r9_2, .int .i64 r9_3, .int .i64 r9_4, .int .i64 r9_5, .string r9_6], .int .i64 r101]) ∧ L' = [(B, .cells #[.int .i64 r2_0, .int .i64 r2_1, .int .i64 r2_2, .int .i64 r2_3, .int .i64 r2_4, .int .i64 r2_5, .string r2_6] 23), (B1, .cells #[.int .i64 r3_0, .int .i64 r3_1, .int .i64 r3_2, .int .i64 r3_3, .int .i64 r3_4, .int .i64 r3_5, .string r3_6] 23)] ∧
                    ∀ B2 : Nat,
                    ((r1 = true) →
                      (((eqCells [.int .i64 r9_0, .int .i64 r9_1, .int .i64 r9_2, .int .i64 r9_3, .int .i64 r9_4, .int .i64 r9_5, .string r9_6] [.int .i64 r2_0, .int .i64 r2_1, .int .i64 r2_2, .int .i64 r2_3, .int .i64 r2_4, .int .i64 r2_5, .string r2_6]) = true) →
                        ((r101 = (0 : Int)) →
                          ((¬ (r71 = (0 : Int))) →
                            Fin R [(B, .cells #[.int .i64 r2_0, .int .i64 r2_1, .int .i64 r2_2, .int .i64 r2_3, .int .i64 r2_4, .int .i64 r2_5, .string r2_6] 23), (B1, .cells #[.int .i64 r3_0, .int .i64 r3_1, .int .i64 r3_2, .int .i64 r3_3, .int .i64 r3_4, .int .i64 r3_5, .string r3_6] 23), (B2, .cells #[.int .i64 r9_0, .int .i64 r9_1, .int .i64 r9_2, .int .i64 r9_3, .int .i64 r9_4, .int .i64 r9_5, .string r9_6] 23)] [] w0 (.bool true)) ∧
                           ((r71 = (0 : Int)) →
                            ((r41 = r61) →
                              (((eqCells [.int .i64 r2_0, .int .i64 r2_1, .int .i64 r2_2, .int .i64 r2_3, .int .i64 r2_4, .int .i64 r2_5, .string r2_6] [.int .i64 r3_0, .int .i64 r3_1, .int .i64 r3_2, .int .i64 r3_3, .int .i64 r3_4, .int .i64 r3_5, .string r3_6]) = true) →
                                Fin R [(B, .cells #[.int .i64 r2_0, .int .i64 r2_1, .int .i64 r2_2, .int .i64 r2_3, .int .i64 r2_4, .int .i64 r2_5, .string r2_6] 23), (B1, .cells #[.int .i64 r3_0, .int .i64 r3_1, .int .i64 r3_2, .int .i64 r3_3, .int .i64 r3_4, .int .i64 r3_5, .string r3_6] 23), (B2, .cells #[.int .i64 r9_0, .int .i64 r9_1, .int .i64 r9_2, .int .i64 r9_3, .int .i64 r9_4, .int .i64 r9_5, .string r9_6] 23)] [] w0 (.bool true)) ∧
                               (((eqCells [.int .i64 r2_0, .int .i64 r2_1, .int .i64 r2_2, .int .i64 r2_3, .int .i64 r2_4, .int .i64 r2_5, .string r2_6] [.int .i64 r3_0, .int .i64 r3_1, .int .i64 r3_2, .int .i64 r3_3, .int .i64 r3_4, .int .i64 r3_5, .string r3_6]) = false) →
                                Fin R [(B, .cells #[.int .i64 r2_0, .int .i64 r2_1, .int .i64 r2_2, .int .i64 r2_3, .int .i64 r2_4, .int .i64 r2_5, .string r2_6] 23), (B1, .cells #[.int .i64 r3_0, .int .i64 r3_1, .int .i64 r3_2, .int .i64 r3_3, .int .i64 r3_4, .int .i64 r3_5, .string r3_6] 23), (B2, .cells #[.int .i64 r9_0, .int .i64 r9_1, .int .i64 r9_2, .int .i64 r9_3, .int .i64 r9_4, .int .i64 r9_5, .string r9_6] 23)] [] w0 (.bool false))) ∧
                             ((¬ r41 = r61) →
                              (((eqCells [.int .i64 r2_0, .int .i64 r2_1, .int .i64 r2_2, .int .i64 r2_3, .int .i64 r2_4, .int .i64 r2_5, .string r2_6] [.int .i64 r3_0, .int .i64 r3_1, .int .i64 r3_2, .int .i64 r3_3, .int .i64 r3_4, .int .i64 r3_5, .string r3_6]) = true) →
                                Fin R [(B, .cells #[.int .i64 r2_0, .int .i64 r2_1, .int .i64 r2_2, .int .i64 r2_3, .int .i64 r2_4, .int .i64 r2_5, .string r2_6] 23), (B1, .cells #[.int .i64 r3_0, .int .i64 r3_1, .int .i64 r3_2, .int .i64 r3_3, .int .i64 r3_4, .int .i64 r3_5, .string r3_6] 23), (B2, .cells #[.int .i64 r9_0, .int .i64 r9_1, .int .i64 r9_2, .int .i64 r9_3, .int .i64 r9_4, .int .i64 r9_5, .string r9_6] 23)] [] w0 (.bool false)) ∧
                               (((eqCells [.int .i64 r2_0, .int .i64 r2_1, .int .i64 r2_2, .int .i64 r2_3, .int .i64 r2_4, .int .i64 r2_5, .string r2_6] [.int .i64 r3_0, .int .i64 r3_1, .int .i64 r3_2, .int .i64 r3_3, .int .i64 r3_4, .int .i64 r3_5, .string r3_6]) = false) →
                                Fin R [(B, .cells #[.int .i64 r2_0, .int .i64 r2_1, .int .i64 r2_2, .int .i64 r2_3, .int .i64 r2_4, .int .i64 r2_5, .string r2_6] 23), (B1, .cells #[.int .i64 r3_0, .int .i64 r3_1, .int .i64 r3_2, .int .i64 r3_3, .int .i64 r3_4, .int .i64 r3_5, .string r3_6] 23), (B2, .cells #[.int .i64 r9_0, .int .i64 r9_1, .int .i64 r9_2, .int .i64 r9_3, .int .i64 r9_4, .int .i64 r9_5, .string r9_6] 23)] [] w0 (.bool true))))) ∧
                         ((¬ (r101 = (0 : Int))) →
                          Fin R [(B, .cells #[.int .i64 r2_0, .int .i64 r2_1, .int .i64 r2_2, .int .i64 r2_3, .int .i64 r2_4, .int .i64 r2_5, .string r2_6] 23), (B1, .cells #[.int .i64 r3_0, .int .i64 r3_1, .int .i64 r3_2, .int .i64 r3_3, .int .i64 r3_4, .int .i64 r3_5, .string r3_6] 23), (B2, .cells #[.int .i64 r9_0, .int .i64 r9_1, .int .i64 r9_2, .int .i64 r9_3, .int .i64 r9_4, .int .i64 r9_5, .string r9_6] 23)] [] w0 (.bool false))) ∧
                       (((eqCells [.int .i64 r9_0, .int .i64 r9_1, .int .i64 r9_2, .int .i64 r9_3, .int .i64 r9_4, .int .i64 r9_5, .string r9_6] [.int .i64 r2_0, .int .i64 r2_1, .int .i64 r2_2, .int .i64 r2_3, .int .i64 r2_4, .int .i64 r2_5, .string r2_6]) = false) →
                        Fin R [(B, .cells #[.int .i64 r2_0, .int .i64 r2_1, .int .i64 r2_2, .int .i64 r2_3, .int .i64 r2_4, .int .i64 r2_5, .string r2_6] 23), (B1, .cells #[.int .i64 r3_0, .int .i64 r3_1, .int .i64 r3_2, .int .i64 r3_3, .int .i64 r3_4, .int .i64 r3_5, .string r3_6] 23), (B2, .cells #[.int .i64 r9_0, .int .i64 r9_1, .int .i64 r9_2, .int .i64 r9_3, .int .i64 r9_4, .int .i64 r9_5, .string r9_6] 23)] [] w0 (.bool false))) ∧
                     ((r1 = false) →
                      Fin R [(B, .cells #[.int .i64 r2_0, .int .i64 r2_1, .int .i64 r2_2, .int .i64 r2_3, .int .i64 r2_4, .int .i64 r2_5, .string r2_6] 23), (B1, .cells #[.int .i64 r3_0, .int .i64 r3_1, .int .i64 r3_2, .int .i64 r3_3, .int .i64 r3_4, .int .i64 r3_5, .string r3_6] 23), (B2, .cells #[.int .i64 r9_0, .int .i64 r9_1, .int .i64 r9_2, .int .i64 r9_3, .int .i64 r9_4, .int .i64 r9_5, .string r9_6] 23)] [] w0 (.bool false)))) ∧
                 ((r81 = false) →
                  Fin R [(B, .cells #[.int .i64 r2_0, .int .i64 r2_1, .int .i64 r2_2, .int .i64 r2_3, .int .i64 r2_4, .int .i64 r2_5, .string r2_6] 23), (B1, .cells #[.int .i64 r3_0, .int .i64 r3_1, .int .i64 r3_2, .int .i64 r3_3, .int .i64 r3_4, .int .i64 r3_5, .string r3_6] 23)] [] w0 (.bool false))) ∧
               ((¬ (r51 = (0 : Int))) →
                ((r81 = true) →
                  Fin R [(B, .cells #[.int .i64 r2_0, .int .i64 r2_1, .int .i64 r2_2, .int .i64 r2_3, .int .i64 r2_4, .int .i64 r2_5, .string r2_6] 23), (B1, .cells #[.int .i64 r3_0, .int .i64 r3_1, .int .i64 r3_2, .int .i64 r3_3, .int .i64 r3_4, .int .i64 r3_5, .string r3_6] 23)] [] w0 (.bool false)) ∧
                 ((r81 = false) →
                  ((¬ (r51 = (200 : Int))) →
                    Fin R [(B, .cells #[.int .i64 r2_0, .int .i64 r2_1, .int .i64 r2_2, .int .i64 r2_3, .int .i64 r2_4, .int .i64 r2_5, .string r2_6] 23), (B1, .cells #[.int .i64 r3_0, .int .i64 r3_1, .int .i64 r3_2, .int .i64 r3_3, .int .i64 r3_4, .int .i64 r3_5, .string r3_6] 23)] [] w0 (.bool false)) ∧
                   ((r51 = (200 : Int)) →
                    ((¬ r41 = (⟨#[]⟩ : ByteArray)) →
                      Fin R [(B, .cells #[.int .i64 r2_0, .int .i64 r2_1, .int .i64 r2_2, .int .i64 r2_3, .int .i64 r2_4, .int .i64 r2_5, .string r2_6] 23), (B1, .cells #[.int .i64 r3_0, .int .i64 r3_1, .int .i64 r3_2, .int .i64 r3_3, .int .i64 r3_4, .int .i64 r3_5, .string r3_6] 23)] [] w0 (.bool false)) ∧
                     ((r41 = (⟨#[]⟩ : ByteArray)) →
                      Fin R [(B, .cells #[.int .i64 r2_0, .int .i64 r2_1, .int .i64 r2_2, .int .i64 r2_3, .int .i64 r2_4, .int .i64 r2_5, .string r2_6] 23), (B1, .cells #[.int .i64 r3_0, .int .i64 r3_1, .int .i64 r3_2, .int .i64 r3_3, .int .i64 r3_4, .int .i64 r3_5, .string r3_6] 23)] [] w0 (.bool r1)))))))))) :
    Calls Tryd.prog 6 ⟨[.agg #[.int .i64 mk, .int .i64 mp, .int .i64 mq, .int .i64 mt, .int .i64 mb, .int .i64 mv, .string md], .agg #[.int .i64 nk, .int .i64 np, .int .i64 nq, .int .i64 nt, .int .i64 nb, .int .i64 nv, .string nd]]⟩ W R := by
  refine AtE.calls (nt := 75) Tryd.func6 (by kernel_rfl) hm ?_
  refine AtE.run 2 (fun W => by kernel_rfl) ?_
  refine AtE.new (fun B => .pointer (some ⟨B, 0, none⟩)) (.cells #[.int .i64 mk, .int .i64 mp, .int .i64 mq, .int .i64 mt, .int .i64 mb, .int .i64 mv, .string md] 23) (fun W => by kernel_rfl) (by kernel_rfl) (fun B => ?_)
  replace H := H B
  refine AtE.new (fun B => .pointer (some ⟨B, 0, none⟩)) (.cells #[.int .i64 nk, .int .i64 np, .int .i64 nq, .int .i64 nt, .int .i64 nb, .int .i64 nv, .string nd] 23) (fun W => by kernel_rfl) (by kernel_rfl) (fun B1 => ?_)
  replace H := H B1
  refine AtE.run 4 (fun W => by kernel_rfl) ?_
  refine AtE.call 10 ⟨[]⟩ (fun W => by kernel_rfl) (by kernel_rfl) H ?_
  clear H
  rintro _ _ ⟨r1, rfl, rfl, H⟩
  refine AtE.run 3 (fun W => by kernel_rfl) ?_
  refine AtE.norm (k' := [.code (sub (Eng.body Tryd.f6) [1, 1, 0]), .code (sub (Eng.body Tryd.f6) [1, 1, 1])]) (e' := [(2, .pointer (some ⟨B, 0, none⟩)), (3, .pointer (some ⟨B1, 0, none⟩)), (5, .bool r1)]) (L' := [(B, .cells #[.int .i64 mk, .int .i64 mp, .int .i64 mq, .int .i64 mt, .int .i64 mb, .int .i64 mv, .string md] 23), (B1, .cells #[.int .i64 nk, .int .i64 np, .int .i64 nq, .int .i64 nt, .int .i64 nb, .int .i64 nv, .string nd] 23)]) ?_ (by kernel_rfl)
  refine AtE.draw 4 (by kernel_rfl) ?_
  refine AtQ.load 0 0 (T := 23) (v := .agg #[.int .i64 mk, .int .i64 mp, .int .i64 mq, .int .i64 mt, .int .i64 mb, .int .i64 mv, .string md]) (by kernel_rfl) ?_
  obtain ⟨r2_0, r2_1, r2_2, r2_3, r2_4, r2_5, r2_6, hq, H⟩ := H
  refine AtQ.call 11 ⟨[.agg #[.int .i64 mk, .int .i64 mp, .int .i64 mq, .int .i64 mt, .int .i64 mb, .int .i64 mv, .string md]]⟩ (fun W => by kernel_rfl) (by kernel_rfl) hq ?_
  refine AtQ.load 1 0 (T := 23) (v := .agg #[.int .i64 nk, .int .i64 np, .int .i64 nq, .int .i64 nt, .int .i64 nb, .int .i64 nv, .string nd]) (by kernel_rfl) ?_
  obtain ⟨r3_0, r3_1, r3_2, r3_3, r3_4, r3_5, r3_6, hq, H⟩ := H
  refine AtQ.call 11 ⟨[.agg #[.int .i64 nk, .int .i64 np, .int .i64 nq, .int .i64 nt, .int .i64 nb, .int .i64 nv, .string nd]]⟩ (fun W => by kernel_rfl) (by kernel_rfl) hq ?_
  refine AtQ.done (by kernel_rfl) ?_
  refine AtE.store 0 0 (T := 23) (v := .agg #[.int .i64 r2_0, .int .i64 r2_1, .int .i64 r2_2, .int .i64 r2_3, .int .i64 r2_4, .int .i64 r2_5, .string r2_6]) (by kernel_rfl) ?_
  refine AtE.store 1 0 (T := 23) (v := .agg #[.int .i64 r3_0, .int .i64 r3_1, .int .i64 r3_2, .int .i64 r3_3, .int .i64 r3_4, .int .i64 r3_5, .string r3_6]) (by kernel_rfl) ?_
  refine AtE.run 3 (fun W => by kernel_rfl) ?_
  refine AtE.load 0 0 (T := 23) (v := .agg #[.int .i64 r2_0, .int .i64 r2_1, .int .i64 r2_2, .int .i64 r2_3, .int .i64 r2_4, .int .i64 r2_5, .string r2_6]) (by kernel_rfl) ?_
  refine AtE.norm (k' := [.inRegion (regOps [.code (sub (Eng.body Tryd.f6) [1, 1, 1, 0])]) [1, 2, 3, 4, 5, 6], .code (sub (Eng.body Tryd.f6) [1, 1, 1, 1])]) (e' := [(2, .pointer (some ⟨B, 0, none⟩)), (3, .pointer (some ⟨B1, 0, none⟩)), (5, .bool r1), (18, .agg #[.int .i64 r2_0, .int .i64 r2_1, .int .i64 r2_2, .int .i64 r2_3, .int .i64 r2_4, .int .i64 r2_5, .string r2_6])]) (L' := [(B, .cells #[.int .i64 r2_0, .int .i64 r2_1, .int .i64 r2_2, .int .i64 r2_3, .int .i64 r2_4, .int .i64 r2_5, .string r2_6] 23), (B1, .cells #[.int .i64 r3_0, .int .i64 r3_1, .int .i64 r3_2, .int .i64 r3_3, .int .i64 r3_4, .int .i64 r3_5, .string r3_6] 23)]) ?_ (by kernel_rfl)
  refine AtE.call 12 ⟨[.agg #[.int .i64 r2_0, .int .i64 r2_1, .int .i64 r2_2, .int .i64 r2_3, .int .i64 r2_4, .int .i64 r2_5, .string r2_6]]⟩ (fun W => by kernel_rfl) (by kernel_rfl) H ?_
  clear H
  rintro _ _ ⟨r41, r51, rfl, rfl, H⟩
  refine AtE.run 8 (fun W => by kernel_rfl) ?_
  refine AtE.load 1 0 (T := 23) (v := .agg #[.int .i64 r3_0, .int .i64 r3_1, .int .i64 r3_2, .int .i64 r3_3, .int .i64 r3_4, .int .i64 r3_5, .string r3_6]) (by kernel_rfl) ?_
  refine AtE.call 12 ⟨[.agg #[.int .i64 r3_0, .int .i64 r3_1, .int .i64 r3_2, .int .i64 r3_3, .int .i64 r3_4, .int .i64 r3_5, .string r3_6]]⟩ (fun W => by kernel_rfl) (by kernel_rfl) H ?_
  clear H
  rintro _ _ ⟨r61, r71, rfl, rfl, H⟩
  refine AtE.run 11 (fun W => by kernel_rfl) ?_
  refine AtE.load 0 0 (T := 23) (v := .agg #[.int .i64 r2_0, .int .i64 r2_1, .int .i64 r2_2, .int .i64 r2_3, .int .i64 r2_4, .int .i64 r2_5, .string r2_6]) (by kernel_rfl) ?_
  refine AtE.call 14 ⟨[.agg #[.int .i64 r2_0, .int .i64 r2_1, .int .i64 r2_2, .int .i64 r2_3, .int .i64 r2_4, .int .i64 r2_5, .string r2_6]]⟩ (fun W => by kernel_rfl) (by kernel_rfl) H ?_
  clear H
  rintro _ _ ⟨r81, rfl, rfl, H⟩
  refine AtE.splitP 28 (p := r51 = (0 : Int)) (by kernel_rfl) (fun h1' => ?_) (fun h1' => ?_)
  · replace H := H.1 h1'
    refine AtE.split 30 (b := r81) (by kernel_rfl) (fun h2' => ?_) (fun h2' => ?_)
    · replace H := H.1 h2'
      refine AtE.norm (k' := [.inRegion (regOps [.code (sub (Eng.body Tryd.f6) [1, 1, 1, 1, 1, 0, 0])]) [4, 5, 6, 7, 8, 9, 10, 11, 12, 13, 14, 15, 16], .code (sub (Eng.body Tryd.f6) [1, 1, 1, 1, 1, 0, 1]), .code (sub (Eng.body Tryd.f6) [1, 1, 1, 1, 1, 1])]) (e' := [(2, .pointer (some ⟨B, 0, none⟩)), (3, .pointer (some ⟨B1, 0, none⟩)), (5, .bool r1), (6, .string r41), (7, .int .i64 r51), (8, .string r61), (9, .int .i64 r71), (28, .bool true), (30, .bool true)]) (L' := [(B, .cells #[.int .i64 r2_0, .int .i64 r2_1, .int .i64 r2_2, .int .i64 r2_3, .int .i64 r2_4, .int .i64 r2_5, .string r2_6] 23), (B1, .cells #[.int .i64 r3_0, .int .i64 r3_1, .int .i64 r3_2, .int .i64 r3_3, .int .i64 r3_4, .int .i64 r3_5, .string r3_6] 23)]) ?_ (by kernel_rfl)
      refine AtE.run 5 (fun W => by kernel_rfl) ?_
      refine AtE.splitN 35 (p := r51 = (0 : Int)) (by kernel_rfl) (fun h3' => ?_) (fun h3' => ?_)
      · first | exact absurd h1' h3' | exact absurd h3' h1' | simp_all
      · skip
        refine AtE.run 17 (fun W => by kernel_rfl) ?_
        refine AtE.splitN 45 (p := r51 = (0 : Int)) (by kernel_rfl) (fun h4' => ?_) (fun h4' => ?_)
        · first | exact absurd h1' h4' | exact absurd h4' h1' | simp_all
        · skip
          refine AtE.run 5 (fun W => by kernel_rfl) ?_
          refine AtE.call 16 ⟨[.string r41]⟩ (fun W => by kernel_rfl) (by kernel_rfl) H ?_
          clear H
          rintro _ _ ⟨r9_0, r9_1, r9_2, r9_3, r9_4, r9_5, r9_6, r101, rfl, rfl, H⟩
          refine AtE.run 3 (fun W => by kernel_rfl) ?_
          refine AtE.new (fun B => .pointer (some ⟨B, 0, none⟩)) (.cells #[.int .i64 (0 : Int), .int .i64 (0 : Int), .int .i64 (0 : Int), .int .i64 (0 : Int), .int .i64 (0 : Int), .int .i64 (0 : Int), .string (⟨#[]⟩)] 23) (fun W => by kernel_rfl) (by kernel_rfl) (fun B2 => ?_)
          replace H := H B2
          refine AtE.store 2 0 (T := 23) (v := .agg #[.int .i64 r9_0, .int .i64 r9_1, .int .i64 r9_2, .int .i64 r9_3, .int .i64 r9_4, .int .i64 r9_5, .string r9_6]) (by kernel_rfl) ?_
          refine AtE.run 6 (fun W => by kernel_rfl) ?_
          refine AtE.split 53 (b := r1) (by kernel_rfl) (fun h5' => ?_) (fun h5' => ?_)
          · replace H := H.1 h5'
            refine AtE.load 2 0 (T := 23) (v := .agg #[.int .i64 r9_0, .int .i64 r9_1, .int .i64 r9_2, .int .i64 r9_3, .int .i64 r9_4, .int .i64 r9_5, .string r9_6]) (by kernel_rfl) ?_
            refine AtE.norm (k' := [.inRegion (regOps [.code (sub (Eng.body Tryd.f6) [1, 1, 1, 1, 1, 1, 1, 1, 0])]) [3, 4, 5, 6, 7, 8, 9, 10, 11, 12, 13, 14, 15, 16, 17, 18, 19, 20, 21, 22, 23], .code (sub (Eng.body Tryd.f6) [1, 1, 1, 1, 1, 1, 1, 1, 1])]) (e' := [(2, .pointer (some ⟨B, 0, none⟩)), (3, .pointer (some ⟨B1, 0, none⟩)), (6, .string r41), (8, .string r61), (9, .int .i64 r71), (11, .int .i64 r101), (53, .bool true), (54, .agg #[.int .i64 r9_0, .int .i64 r9_1, .int .i64 r9_2, .int .i64 r9_3, .int .i64 r9_4, .int .i64 r9_5, .string r9_6])]) (L' := [(B, .cells #[.int .i64 r2_0, .int .i64 r2_1, .int .i64 r2_2, .int .i64 r2_3, .int .i64 r2_4, .int .i64 r2_5, .string r2_6] 23), (B1, .cells #[.int .i64 r3_0, .int .i64 r3_1, .int .i64 r3_2, .int .i64 r3_3, .int .i64 r3_4, .int .i64 r3_5, .string r3_6] 23), (B2, .cells #[.int .i64 r9_0, .int .i64 r9_1, .int .i64 r9_2, .int .i64 r9_3, .int .i64 r9_4, .int .i64 r9_5, .string r9_6] 23)]) ?_ (by kernel_rfl)
            refine AtE.load 0 0 (T := 23) (v := .agg #[.int .i64 r2_0, .int .i64 r2_1, .int .i64 r2_2, .int .i64 r2_3, .int .i64 r2_4, .int .i64 r2_5, .string r2_6]) (by kernel_rfl) ?_
            refine AtE.eqlA (T := 23) (xs := [.int .i64 r9_0, .int .i64 r9_1, .int .i64 r9_2, .int .i64 r9_3, .int .i64 r9_4, .int .i64 r9_5, .string r9_6]) (ys := [.int .i64 r2_0, .int .i64 r2_1, .int .i64 r2_2, .int .i64 r2_3, .int .i64 r2_4, .int .i64 r2_5, .string r2_6]) (fs := (match Tryd.prog.underlying 23 with | some (.struct fs) => fs | _ => #[])) (by kernel_rfl) ?_
            refine AtE.run 2 (fun W => by kernel_rfl) ?_
            refine AtE.split 58 (b := (eqCells [.int .i64 r9_0, .int .i64 r9_1, .int .i64 r9_2, .int .i64 r9_3, .int .i64 r9_4, .int .i64 r9_5, .string r9_6] [.int .i64 r2_0, .int .i64 r2_1, .int .i64 r2_2, .int .i64 r2_3, .int .i64 r2_4, .int .i64 r2_5, .string r2_6])) (by kernel_rfl) (fun h6' => ?_) (fun h6' => ?_)
            · replace H := H.1 h6'
              refine AtE.run 4 (fun W => by kernel_rfl) ?_
              refine AtE.splitP 62 (p := r101 = (0 : Int)) (by kernel_rfl) (fun h7' => ?_) (fun h7' => ?_)
              · replace H := H.1 h7'
                refine AtE.run 3 (fun W => by kernel_rfl) ?_
                refine AtE.splitN 65 (p := r71 = (0 : Int)) (by kernel_rfl) (fun h8' => ?_) (fun h8' => ?_)
                · replace H := H.1 h8'
                  refine AtE.run 11 (fun W => by kernel_rfl) ?_
                  exact AtE.ret Tryd.func6 (by kernel_rfl) H
                · replace H := H.2 h8'
                  refine AtE.run 3 (fun W => by kernel_rfl) ?_
                  refine AtE.load 0 0 (T := 23) (v := .agg #[.int .i64 r2_0, .int .i64 r2_1, .int .i64 r2_2, .int .i64 r2_3, .int .i64 r2_4, .int .i64 r2_5, .string r2_6]) (by kernel_rfl) ?_
                  refine AtE.load 1 0 (T := 23) (v := .agg #[.int .i64 r3_0, .int .i64 r3_1, .int .i64 r3_2, .int .i64 r3_3, .int .i64 r3_4, .int .i64 r3_5, .string r3_6]) (by kernel_rfl) ?_
                  refine AtE.norm (k' := [.inRegion (regOps [.code (sub (Eng.body Tryd.f6) [1, 1, 1, 1, 1, 1, 1, 1, 0])]) [19, 20, 21, 22, 23], .code (sub (Eng.body Tryd.f6) [1, 1, 1, 1, 1, 1, 1, 1, 1])]) (e' := [(62, .bool true), (65, .bool false), (68, .bool (r41.toList == r61.toList)), (69, .agg #[.int .i64 r2_0, .int .i64 r2_1, .int .i64 r2_2, .int .i64 r2_3, .int .i64 r2_4, .int .i64 r2_5, .string r2_6]), (70, .agg #[.int .i64 r3_0, .int .i64 r3_1, .int .i64 r3_2, .int .i64 r3_3, .int .i64 r3_4, .int .i64 r3_5, .string r3_6])]) (L' := [(B, .cells #[.int .i64 r2_0, .int .i64 r2_1, .int .i64 r2_2, .int .i64 r2_3, .int .i64 r2_4, .int .i64 r2_5, .string r2_6] 23), (B1, .cells #[.int .i64 r3_0, .int .i64 r3_1, .int .i64 r3_2, .int .i64 r3_3, .int .i64 r3_4, .int .i64 r3_5, .string r3_6] 23), (B2, .cells #[.int .i64 r9_0, .int .i64 r9_1, .int .i64 r9_2, .int .i64 r9_3, .int .i64 r9_4, .int .i64 r9_5, .string r9_6] 23)]) ?_ (by kernel_rfl)
                  refine AtE.eqlA (T := 23) (xs := [.int .i64 r2_0, .int .i64 r2_1, .int .i64 r2_2, .int .i64 r2_3, .int .i64 r2_4, .int .i64 r2_5, .string r2_6]) (ys := [.int .i64 r3_0, .int .i64 r3_1, .int .i64 r3_2, .int .i64 r3_3, .int .i64 r3_4, .int .i64 r3_5, .string r3_6]) (fs := (match Tryd.prog.underlying 23 with | some (.struct fs) => fs | _ => #[])) (by kernel_rfl) ?_
                  refine AtE.splitS 68 (x := r41) (y := r61) (by kernel_rfl) (fun h9' => ?_) (fun h9' => ?_)
                  · replace H := H.1 h9'
                    refine AtE.split 71 (b := (eqCells [.int .i64 r2_0, .int .i64 r2_1, .int .i64 r2_2, .int .i64 r2_3, .int .i64 r2_4, .int .i64 r2_5, .string r2_6] [.int .i64 r3_0, .int .i64 r3_1, .int .i64 r3_2, .int .i64 r3_3, .int .i64 r3_4, .int .i64 r3_5, .string r3_6])) (by kernel_rfl) (fun h10' => ?_) (fun h10' => ?_)
                    · replace H := H.1 h10'
                      refine AtE.run 5 (fun W => by kernel_rfl) ?_
                      exact AtE.ret Tryd.func6 (by kernel_rfl) H
                    · replace H := H.2 h10'
                      refine AtE.run 5 (fun W => by kernel_rfl) ?_
                      exact AtE.ret Tryd.func6 (by kernel_rfl) H
                  · replace H := H.2 h9'
                    refine AtE.split 71 (b := (eqCells [.int .i64 r2_0, .int .i64 r2_1, .int .i64 r2_2, .int .i64 r2_3, .int .i64 r2_4, .int .i64 r2_5, .string r2_6] [.int .i64 r3_0, .int .i64 r3_1, .int .i64 r3_2, .int .i64 r3_3, .int .i64 r3_4, .int .i64 r3_5, .string r3_6])) (by kernel_rfl) (fun h11' => ?_) (fun h11' => ?_)
                    · replace H := H.1 h11'
                      refine AtE.run 5 (fun W => by kernel_rfl) ?_
                      exact AtE.ret Tryd.func6 (by kernel_rfl) H
                    · replace H := H.2 h11'
                      refine AtE.run 5 (fun W => by kernel_rfl) ?_
                      exact AtE.ret Tryd.func6 (by kernel_rfl) H
              · replace H := H.2 h7'
                refine AtE.run 14 (fun W => by kernel_rfl) ?_
                exact AtE.ret Tryd.func6 (by kernel_rfl) H
            · replace H := H.2 h6'
              refine AtE.run 18 (fun W => by kernel_rfl) ?_
              exact AtE.ret Tryd.func6 (by kernel_rfl) H
          · replace H := H.2 h5'
            refine AtE.run 23 (fun W => by kernel_rfl) ?_
            exact AtE.ret Tryd.func6 (by kernel_rfl) H
    · replace H := H.2 h2'
      refine AtE.norm (k' := [.inRegion (regOps [.code (sub (Eng.body Tryd.f6) [1, 1, 1, 1, 1, 0, 0])]) [4, 5, 6, 7, 8, 9, 10, 11, 12, 13, 14, 15, 16], .code (sub (Eng.body Tryd.f6) [1, 1, 1, 1, 1, 0, 1]), .code (sub (Eng.body Tryd.f6) [1, 1, 1, 1, 1, 1])]) (e' := [(2, .pointer (some ⟨B, 0, none⟩)), (3, .pointer (some ⟨B1, 0, none⟩)), (5, .bool r1), (6, .string r41), (7, .int .i64 r51), (8, .string r61), (9, .int .i64 r71), (28, .bool true), (30, .bool false)]) (L' := [(B, .cells #[.int .i64 r2_0, .int .i64 r2_1, .int .i64 r2_2, .int .i64 r2_3, .int .i64 r2_4, .int .i64 r2_5, .string r2_6] 23), (B1, .cells #[.int .i64 r3_0, .int .i64 r3_1, .int .i64 r3_2, .int .i64 r3_3, .int .i64 r3_4, .int .i64 r3_5, .string r3_6] 23)]) ?_ (by kernel_rfl)
      refine AtE.run 19 (fun W => by kernel_rfl) ?_
      exact AtE.ret Tryd.func6 (by kernel_rfl) H
  · replace H := H.2 h1'
    refine AtE.split 30 (b := r81) (by kernel_rfl) (fun h12' => ?_) (fun h12' => ?_)
    · replace H := H.1 h12'
      refine AtE.norm (k' := [.inRegion (regOps [.code (sub (Eng.body Tryd.f6) [1, 1, 1, 1, 1, 0, 0])]) [4, 5, 6, 7, 8, 9, 10, 11, 12, 13, 14, 15, 16], .code (sub (Eng.body Tryd.f6) [1, 1, 1, 1, 1, 0, 1]), .code (sub (Eng.body Tryd.f6) [1, 1, 1, 1, 1, 1])]) (e' := [(2, .pointer (some ⟨B, 0, none⟩)), (3, .pointer (some ⟨B1, 0, none⟩)), (5, .bool r1), (6, .string r41), (7, .int .i64 r51), (8, .string r61), (9, .int .i64 r71), (28, .bool false), (30, .bool true)]) (L' := [(B, .cells #[.int .i64 r2_0, .int .i64 r2_1, .int .i64 r2_2, .int .i64 r2_3, .int .i64 r2_4, .int .i64 r2_5, .string r2_6] 23), (B1, .cells #[.int .i64 r3_0, .int .i64 r3_1, .int .i64 r3_2, .int .i64 r3_3, .int .i64 r3_4, .int .i64 r3_5, .string r3_6] 23)]) ?_ (by kernel_rfl)
      refine AtE.run 19 (fun W => by kernel_rfl) ?_
      exact AtE.ret Tryd.func6 (by kernel_rfl) H
    · replace H := H.2 h12'
      refine AtE.norm (k' := [.inRegion (regOps [.code (sub (Eng.body Tryd.f6) [1, 1, 1, 1, 1, 0, 0])]) [4, 5, 6, 7, 8, 9, 10, 11, 12, 13, 14, 15, 16], .code (sub (Eng.body Tryd.f6) [1, 1, 1, 1, 1, 0, 1]), .code (sub (Eng.body Tryd.f6) [1, 1, 1, 1, 1, 1])]) (e' := [(2, .pointer (some ⟨B, 0, none⟩)), (3, .pointer (some ⟨B1, 0, none⟩)), (5, .bool r1), (6, .string r41), (7, .int .i64 r51), (8, .string r61), (9, .int .i64 r71), (28, .bool false), (30, .bool false)]) (L' := [(B, .cells #[.int .i64 r2_0, .int .i64 r2_1, .int .i64 r2_2, .int .i64 r2_3, .int .i64 r2_4, .int .i64 r2_5, .string r2_6] 23), (B1, .cells #[.int .i64 r3_0, .int .i64 r3_1, .int .i64 r3_2, .int .i64 r3_3, .int .i64 r3_4, .int .i64 r3_5, .string r3_6] 23)]) ?_ (by kernel_rfl)
      refine AtE.run 5 (fun W => by kernel_rfl) ?_
      refine AtE.splitN 35 (p := r51 = (0 : Int)) (by kernel_rfl) (fun h13' => ?_) (fun h13' => ?_)
      · skip
        refine AtE.run 3 (fun W => by kernel_rfl) ?_
        refine AtE.splitN 38 (p := r51 = (200 : Int)) (by kernel_rfl) (fun h14' => ?_) (fun h14' => ?_)
        · replace H := H.1 h14'
          refine AtE.run 11 (fun W => by kernel_rfl) ?_
          exact AtE.ret Tryd.func6 (by kernel_rfl) H
        · replace H := H.2 h14'
          refine AtE.run 6 (fun W => by kernel_rfl) ?_
          refine AtE.splitT 43 (x := r41) (y := (⟨#[]⟩ : ByteArray)) (by kernel_rfl) (fun h15' => ?_) (fun h15' => ?_)
          · replace H := H.1 h15'
            refine AtE.run 5 (fun W => by kernel_rfl) ?_
            exact AtE.ret Tryd.func6 (by kernel_rfl) H
          · replace H := H.2 h15'
            refine AtE.run 8 (fun W => by kernel_rfl) ?_
            refine AtE.splitN 45 (p := r51 = (0 : Int)) (by kernel_rfl) (fun h16' => ?_) (fun h16' => ?_)
            · skip
              refine AtE.run 6 (fun W => by kernel_rfl) ?_
              exact AtE.ret Tryd.func6 (by kernel_rfl) H
            · first | exact absurd h1' h16' | exact absurd h16' h1' | simp_all
      · first | exact absurd h1' h13' | exact absurd h13' h1' | simp_all

theorem LAgain_vc (s : ByteArray) {R : Ending → World → Prop} {w0 W : World} (hm : Mem [] [] w0 W)
    (H :
      CallH Tryd.prog 10 ⟨[]⟩ [] [] w0 (fun v L' => ∃ (r1 : Bool), v = (.bool r1) ∧ L' = [] ∧
        (0 ≤ (0 : Int) ∧ (0 : Int) ≤ (if (20000 : Int) < (s.size : Int) then (20000 : Int) else (s.size : Int)) ∧ (if (20000 : Int) < (s.size : Int) then (20000 : Int) else (s.size : Int)) ≤ s.size) ∧
        ∀ s1 : ByteArray, s1 = (s.extract 0 (Int.toNat (if (20000 : Int) < (s.size : Int) then (20000 : Int) else (s.size : Int)))) →
        CallH Tryd.prog 16 ⟨[.string s1]⟩ [] [] w0 (fun v L' => ∃ (r2_0 : Int) (r2_1 : Int) (r2_2 : Int) (r2_3 : Int) (r2_4 : Int) (r2_5 : Int) (r2_6 : ByteArray) (r31 : Int), v = (.tuple #[.agg #[.int .i64 r2_0, .int .i64 r2_1, .int .i64 r2_2, .int .i64 r2_3, .int .i64 r2_4, .int .i64 r2_5, .string r2_6], .int .i64 r31]) ∧ L' = [] ∧
          ∀ B : Nat,
          ((¬ (r31 = (0 : Int))) →
            ((r1 = true) →
              (((eqCells [.int .i64 r2_0, .int .i64 r2_1, .int .i64 r2_2, .int .i64 r2_3, .int .i64 r2_4, .int .i64 r2_5, .string r2_6] [.int .i64 (0 : Int), .int .i64 (0 : Int), .int .i64 (0 : Int), .int .i64 (0 : Int), .int .i64 (0 : Int), .int .i64 (0 : Int), .string (⟨#[]⟩)]) = true) →
                ((r31 = (10 : Int)) →
                  Fin R [(B, .cells #[.int .i64 r2_0, .int .i64 r2_1, .int .i64 r2_2, .int .i64 r2_3, .int .i64 r2_4, .int .i64 r2_5, .string r2_6] 23)] [] w0 (.bool true)) ∧
                 ((¬ (r31 = (10 : Int))) →
                  Fin R [(B, .cells #[.int .i64 r2_0, .int .i64 r2_1, .int .i64 r2_2, .int .i64 r2_3, .int .i64 r2_4, .int .i64 r2_5, .string r2_6] 23)] [] w0 (.bool (decide (r31 = (200 : Int)))))) ∧
               (((eqCells [.int .i64 r2_0, .int .i64 r2_1, .int .i64 r2_2, .int .i64 r2_3, .int .i64 r2_4, .int .i64 r2_5, .string r2_6] [.int .i64 (0 : Int), .int .i64 (0 : Int), .int .i64 (0 : Int), .int .i64 (0 : Int), .int .i64 (0 : Int), .int .i64 (0 : Int), .string (⟨#[]⟩)]) = false) →
                Fin R [(B, .cells #[.int .i64 r2_0, .int .i64 r2_1, .int .i64 r2_2, .int .i64 r2_3, .int .i64 r2_4, .int .i64 r2_5, .string r2_6] 23)] [] w0 (.bool false))) ∧
             ((r1 = false) →
              Fin R [(B, .cells #[.int .i64 r2_0, .int .i64 r2_1, .int .i64 r2_2, .int .i64 r2_3, .int .i64 r2_4, .int .i64 r2_5, .string r2_6] 23)] [] w0 (.bool false))) ∧
           ((r31 = (0 : Int)) →
            CallH Tryd.prog 12 ⟨[.agg #[.int .i64 r2_0, .int .i64 r2_1, .int .i64 r2_2, .int .i64 r2_3, .int .i64 r2_4, .int .i64 r2_5, .string r2_6]]⟩ [(B, .cells #[.int .i64 r2_0, .int .i64 r2_1, .int .i64 r2_2, .int .i64 r2_3, .int .i64 r2_4, .int .i64 r2_5, .string r2_6] 23)] [] w0 (fun v L' => ∃ (r41 : ByteArray) (r51 : Int), v = (.tuple #[.string r41, .int .i64 r51]) ∧ L' = [(B, .cells #[.int .i64 r2_0, .int .i64 r2_1, .int .i64 r2_2, .int .i64 r2_3, .int .i64 r2_4, .int .i64 r2_5, .string r2_6] 23)] ∧
              ((r1 = true) →
                ((s1 = r41) →
                  ((r51 = (0 : Int)) →
                    CallH Tryd.prog 14 ⟨[.agg #[.int .i64 r2_0, .int .i64 r2_1, .int .i64 r2_2, .int .i64 r2_3, .int .i64 r2_4, .int .i64 r2_5, .string r2_6]]⟩ [(B, .cells #[.int .i64 r2_0, .int .i64 r2_1, .int .i64 r2_2, .int .i64 r2_3, .int .i64 r2_4, .int .i64 r2_5, .string r2_6] 23)] [] w0 (fun v L' => ∃ (r61 : Bool), v = (.bool r61) ∧ L' = [(B, .cells #[.int .i64 r2_0, .int .i64 r2_1, .int .i64 r2_2, .int .i64 r2_3, .int .i64 r2_4, .int .i64 r2_5, .string r2_6] 23)] ∧
                      Fin R [(B, .cells #[.int .i64 r2_0, .int .i64 r2_1, .int .i64 r2_2, .int .i64 r2_3, .int .i64 r2_4, .int .i64 r2_5, .string r2_6] 23)] [] w0 (.bool r61))) ∧
                   ((¬ (r51 = (0 : Int))) →
                    Fin R [(B, .cells #[.int .i64 r2_0, .int .i64 r2_1, .int .i64 r2_2, .int .i64 r2_3, .int .i64 r2_4, .int .i64 r2_5, .string r2_6] 23)] [] w0 (.bool false))) ∧
                 ((¬ s1 = r41) →
                  Fin R [(B, .cells #[.int .i64 r2_0, .int .i64 r2_1, .int .i64 r2_2, .int .i64 r2_3, .int .i64 r2_4, .int .i64 r2_5, .string r2_6] 23)] [] w0 (.bool false))) ∧
               ((r1 = false) →
                Fin R [(B, .cells #[.int .i64 r2_0, .int .i64 r2_1, .int .i64 r2_2, .int .i64 r2_3, .int .i64 r2_4, .int .i64 r2_5, .string r2_6] 23)] [] w0 (.bool false))))))) :
    Calls Tryd.prog 7 ⟨[.string s]⟩ W R := by
  refine AtE.calls (nt := 54) Tryd.func7 (by kernel_rfl) hm ?_
  refine AtE.run 6 (fun W => by kernel_rfl) ?_
  refine AtE.call 10 ⟨[]⟩ (fun W => by kernel_rfl) (by kernel_rfl) H ?_
  clear H
  rintro _ _ ⟨r1, rfl, rfl, H⟩
  refine AtE.run 8 (fun W => by kernel_rfl) ?_
  refine AtE.sliceS (s := s) (lo := none) (hi := some (.int .i64 (if (20000 : Int) < (s.size : Int) then (20000 : Int) else (s.size : Int)))) (a := (0 : Int)) (b := (if (20000 : Int) < (s.size : Int) then (20000 : Int) else (s.size : Int))) (by kernel_rfl) (.inr ⟨rfl, rfl⟩) (.inl ⟨.i64, rfl⟩) H.1 ?_
  replace H := H.2
  refine AtE.run 1 (fun W => by kernel_rfl) ?_
  refine AtE.letS 0 (n := (s.extract 0 (Int.toNat (if (20000 : Int) < (s.size : Int) then (20000 : Int) else (s.size : Int))))) (by kernel_rfl) (fun s1 hs1 => ?_)
  replace H := H s1 hs1
  refine AtE.run 4 (fun W => by kernel_rfl) ?_
  refine AtE.call 16 ⟨[.string s1]⟩ (fun W => by kernel_rfl) (by kernel_rfl) H ?_
  clear H
  rintro _ _ ⟨r2_0, r2_1, r2_2, r2_3, r2_4, r2_5, r2_6, r31, rfl, rfl, H⟩
  refine AtE.run 3 (fun W => by kernel_rfl) ?_
  refine AtE.new (fun B => .pointer (some ⟨B, 0, none⟩)) (.cells #[.int .i64 (0 : Int), .int .i64 (0 : Int), .int .i64 (0 : Int), .int .i64 (0 : Int), .int .i64 (0 : Int), .int .i64 (0 : Int), .string (⟨#[]⟩)] 23) (fun W => by kernel_rfl) (by kernel_rfl) (fun B => ?_)
  replace H := H B
  refine AtE.store 0 0 (T := 23) (v := .agg #[.int .i64 r2_0, .int .i64 r2_1, .int .i64 r2_2, .int .i64 r2_3, .int .i64 r2_4, .int .i64 r2_5, .string r2_6]) (by kernel_rfl) ?_
  refine AtE.run 8 (fun W => by kernel_rfl) ?_
  refine AtE.splitN 20 (p := r31 = (0 : Int)) (by kernel_rfl) (fun h1' => ?_) (fun h1' => ?_)
  · replace H := H.1 h1'
    refine AtE.norm (k' := [.code (sub (Eng.body Tryd.f7) [1, 1, 1, 1, 0, 1]), .code (sub (Eng.body Tryd.f7) [1, 1, 1, 1, 1])]) (e' := [(0, .string s1), (3, .bool r1), (4, .pointer (some ⟨B, 0, none⟩)), (5, .int .i64 r31), (20, .bool true)]) (L' := [(B, .cells #[.int .i64 r2_0, .int .i64 r2_1, .int .i64 r2_2, .int .i64 r2_3, .int .i64 r2_4, .int .i64 r2_5, .string r2_6] 23)]) ?_ (by kernel_rfl)
    refine AtE.run 5 (fun W => by kernel_rfl) ?_
    refine AtE.split 22 (b := r1) (by kernel_rfl) (fun h2' => ?_) (fun h2' => ?_)
    · replace H := H.1 h2'
      refine AtE.load 0 0 (T := 23) (v := .agg #[.int .i64 r2_0, .int .i64 r2_1, .int .i64 r2_2, .int .i64 r2_3, .int .i64 r2_4, .int .i64 r2_5, .string r2_6]) (by kernel_rfl) ?_
      refine AtE.run 1 (fun W => by kernel_rfl) ?_
      refine AtE.eqlA (T := 23) (xs := [.int .i64 r2_0, .int .i64 r2_1, .int .i64 r2_2, .int .i64 r2_3, .int .i64 r2_4, .int .i64 r2_5, .string r2_6]) (ys := [.int .i64 (0 : Int), .int .i64 (0 : Int), .int .i64 (0 : Int), .int .i64 (0 : Int), .int .i64 (0 : Int), .int .i64 (0 : Int), .string (⟨#[]⟩)]) (fs := (match Tryd.prog.underlying 23 with | some (.struct fs) => fs | _ => #[])) (by kernel_rfl) ?_
      refine AtE.run 2 (fun W => by kernel_rfl) ?_
      refine AtE.split 27 (b := (eqCells [.int .i64 r2_0, .int .i64 r2_1, .int .i64 r2_2, .int .i64 r2_3, .int .i64 r2_4, .int .i64 r2_5, .string r2_6] [.int .i64 (0 : Int), .int .i64 (0 : Int), .int .i64 (0 : Int), .int .i64 (0 : Int), .int .i64 (0 : Int), .int .i64 (0 : Int), .string (⟨#[]⟩)])) (by kernel_rfl) (fun h3' => ?_) (fun h3' => ?_)
      · replace H := H.1 h3'
        refine AtE.run 3 (fun W => by kernel_rfl) ?_
        refine AtE.splitP 30 (p := r31 = (10 : Int)) (by kernel_rfl) (fun h4' => ?_) (fun h4' => ?_)
        · replace H := H.1 h4'
          refine AtE.run 6 (fun W => by kernel_rfl) ?_
          exact AtE.ret Tryd.func7 (by kernel_rfl) H
        · replace H := H.2 h4'
          refine AtE.run 6 (fun W => by kernel_rfl) ?_
          exact AtE.ret Tryd.func7 (by kernel_rfl) H
      · replace H := H.2 h3'
        refine AtE.run 9 (fun W => by kernel_rfl) ?_
        exact AtE.ret Tryd.func7 (by kernel_rfl) H
    · replace H := H.2 h2'
      refine AtE.run 14 (fun W => by kernel_rfl) ?_
      exact AtE.ret Tryd.func7 (by kernel_rfl) H
  · replace H := H.2 h1'
    refine AtE.norm (k' := [.code (sub (Eng.body Tryd.f7) [1, 1, 1, 1, 0, 1]), .code (sub (Eng.body Tryd.f7) [1, 1, 1, 1, 1])]) (e' := [(0, .string s1), (3, .bool r1), (4, .pointer (some ⟨B, 0, none⟩)), (5, .int .i64 r31), (20, .bool false)]) (L' := [(B, .cells #[.int .i64 r2_0, .int .i64 r2_1, .int .i64 r2_2, .int .i64 r2_3, .int .i64 r2_4, .int .i64 r2_5, .string r2_6] 23)]) ?_ (by kernel_rfl)
    refine AtE.run 4 (fun W => by kernel_rfl) ?_
    refine AtE.load 0 0 (T := 23) (v := .agg #[.int .i64 r2_0, .int .i64 r2_1, .int .i64 r2_2, .int .i64 r2_3, .int .i64 r2_4, .int .i64 r2_5, .string r2_6]) (by kernel_rfl) ?_
    refine AtE.call 12 ⟨[.agg #[.int .i64 r2_0, .int .i64 r2_1, .int .i64 r2_2, .int .i64 r2_3, .int .i64 r2_4, .int .i64 r2_5, .string r2_6]]⟩ (fun W => by kernel_rfl) (by kernel_rfl) H ?_
    clear H
    rintro _ _ ⟨r41, r51, rfl, rfl, H⟩
    refine AtE.run 10 (fun W => by kernel_rfl) ?_
    refine AtE.split 41 (b := r1) (by kernel_rfl) (fun h5' => ?_) (fun h5' => ?_)
    · replace H := H.1 h5'
      refine AtE.run 5 (fun W => by kernel_rfl) ?_
      refine AtE.splitS 46 (x := s1) (y := r41) (by kernel_rfl) (fun h6' => ?_) (fun h6' => ?_)
      · replace H := H.1 h6'
        refine AtE.run 4 (fun W => by kernel_rfl) ?_
        refine AtE.splitP 50 (p := r51 = (0 : Int)) (by kernel_rfl) (fun h7' => ?_) (fun h7' => ?_)
        · replace H := H.1 h7'
          refine AtE.load 0 0 (T := 23) (v := .agg #[.int .i64 r2_0, .int .i64 r2_1, .int .i64 r2_2, .int .i64 r2_3, .int .i64 r2_4, .int .i64 r2_5, .string r2_6]) (by kernel_rfl) ?_
          refine AtE.call 14 ⟨[.agg #[.int .i64 r2_0, .int .i64 r2_1, .int .i64 r2_2, .int .i64 r2_3, .int .i64 r2_4, .int .i64 r2_5, .string r2_6]]⟩ (fun W => by kernel_rfl) (by kernel_rfl) H ?_
          clear H
          rintro _ _ ⟨r61, rfl, rfl, H⟩
          refine AtE.norm (k' := [.inRegion (regOps [.code (sub (Eng.body Tryd.f7) [1, 1, 1, 1, 1, 1, 0])]) [13, 14], .code (sub (Eng.body Tryd.f7) [1, 1, 1, 1, 1, 1, 1])]) (e' := [(50, .bool true), (52, .bool r61)]) (L' := [(B, .cells #[.int .i64 r2_0, .int .i64 r2_1, .int .i64 r2_2, .int .i64 r2_3, .int .i64 r2_4, .int .i64 r2_5, .string r2_6] 23)]) ?_ (by kernel_rfl)
          refine AtE.run 3 (fun W => by kernel_rfl) ?_
          exact AtE.ret Tryd.func7 (by kernel_rfl) H
        · replace H := H.2 h7'
          refine AtE.run 5 (fun W => by kernel_rfl) ?_
          exact AtE.ret Tryd.func7 (by kernel_rfl) H
      · replace H := H.2 h6'
        refine AtE.run 9 (fun W => by kernel_rfl) ?_
        exact AtE.ret Tryd.func7 (by kernel_rfl) H
    · replace H := H.2 h5'
      refine AtE.run 14 (fun W => by kernel_rfl) ?_
      exact AtE.ret Tryd.func7 (by kernel_rfl) H

end Go.Eng
