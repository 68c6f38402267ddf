/- Verification conditions of the functions, written by a program of the prover, checked here. -/
import Derived.Test.YtgplckfjbdnedaaDoorEngInl

import Derived.Test.YtgplckfjbdnedaaDoorEngEq

import Derived.Test.YtgplckfjbdnedaaDoorChecked

namespace Go.Eng

open Go Go.RowKit Go.Proofs

set_option linter.unusedVariables false

set_option maxRecDepth 100000

theorem msane_vc  {R : Ending → World → Prop} {w0 W : World} (hm : Mem [] [] w0 W)
    (H :
      ∀ B : Nat,
      CallH Tryd.prog 12 ⟨[.agg #[.int .i64 (3 : Int), .int .i64 (1 : Int), .int .i64 (1 : Int), .int .i64 (1 : Int), .int .i64 (0 : Int), .int .i64 (7 : Int), .string (⟨#[]⟩)]]⟩ [(B, .cells #[.int .i64 (3 : Int), .int .i64 (1 : Int), .int .i64 (1 : Int), .int .i64 (1 : Int), .int .i64 (0 : Int), .int .i64 (7 : Int), .string (⟨#[]⟩)] 23)] [] w0 (fun v L' => ∃ (r1 : ByteArray) (r21 : Int), v = (.tuple #[.string r1, .int .i64 r21]) ∧ L' = [(B, .cells #[.int .i64 (3 : Int), .int .i64 (1 : Int), .int .i64 (1 : Int), .int .i64 (1 : Int), .int .i64 (0 : Int), .int .i64 (7 : Int), .string (⟨#[]⟩)] 23)] ∧
        CallH Tryd.prog 16 ⟨[.string r1]⟩ [(B, .cells #[.int .i64 (3 : Int), .int .i64 (1 : Int), .int .i64 (1 : Int), .int .i64 (1 : Int), .int .i64 (0 : Int), .int .i64 (7 : Int), .string (⟨#[]⟩)] 23)] [] w0 (fun v L' => ∃ (r3_0 : Int) (r3_1 : Int) (r3_2 : Int) (r3_3 : Int) (r3_4 : Int) (r3_5 : Int) (r3_6 : ByteArray) (r41 : Int), v = (.tuple #[.agg #[.int .i64 r3_0, .int .i64 r3_1, .int .i64 r3_2, .int .i64 r3_3, .int .i64 r3_4, .int .i64 r3_5, .string r3_6], .int .i64 r41]) ∧ L' = [(B, .cells #[.int .i64 (3 : Int), .int .i64 (1 : Int), .int .i64 (1 : Int), .int .i64 (1 : Int), .int .i64 (0 : Int), .int .i64 (7 : Int), .string (⟨#[]⟩)] 23)] ∧
          ∀ B1 : Nat,
          CallH Tryd.prog 12 ⟨[.agg #[.int .i64 (3 : Int), .int .i64 (1 : Int), .int .i64 (0 : Int), .int .i64 (1 : Int), .int .i64 (0 : Int), .int .i64 (7 : Int), .string (⟨#[]⟩)]]⟩ [(B, .cells #[.int .i64 (3 : Int), .int .i64 (1 : Int), .int .i64 (0 : Int), .int .i64 (1 : Int), .int .i64 (0 : Int), .int .i64 (7 : Int), .string (⟨#[]⟩)] 23), (B1, .cells #[.int .i64 r3_0, .int .i64 r3_1, .int .i64 r3_2, .int .i64 r3_3, .int .i64 r3_4, .int .i64 r3_5, .string r3_6] 23)] [] w0 (fun v L' => ∃ (r51 : ByteArray) (r61 : Int), v = (.tuple #[.string r51, .int .i64 r61]) ∧ L' = [(B, .cells #[.int .i64 (3 : Int), .int .i64 (1 : Int), .int .i64 (0 : Int), .int .i64 (1 : Int), .int .i64 (0 : Int), .int .i64 (7 : Int), .string (⟨#[]⟩)] 23), (B1, .cells #[.int .i64 r3_0, .int .i64 r3_1, .int .i64 r3_2, .int .i64 r3_3, .int .i64 r3_4, .int .i64 r3_5, .string r3_6] 23)] ∧
            CallH Tryd.prog 16 ⟨[.string (⟨#[]⟩)]⟩ [(B, .cells #[.int .i64 (3 : Int), .int .i64 (1 : Int), .int .i64 (0 : Int), .int .i64 (1 : Int), .int .i64 (0 : Int), .int .i64 (7 : Int), .string (⟨#[]⟩)] 23), (B1, .cells #[.int .i64 r3_0, .int .i64 r3_1, .int .i64 r3_2, .int .i64 r3_3, .int .i64 r3_4, .int .i64 r3_5, .string r3_6] 23)] [] w0 (fun v L' => ∃ (r7_0 : Int) (r7_1 : Int) (r7_2 : Int) (r7_3 : Int) (r7_4 : Int) (r7_5 : Int) (r7_6 : ByteArray) (r81 : Int), v = (.tuple #[.agg #[.int .i64 r7_0, .int .i64 r7_1, .int .i64 r7_2, .int .i64 r7_3, .int .i64 r7_4, .int .i64 r7_5, .string r7_6], .int .i64 r81]) ∧ L' = [(B, .cells #[.int .i64 (3 : Int), .int .i64 (1 : Int), .int .i64 (0 : Int), .int .i64 (1 : Int), .int .i64 (0 : Int), .int .i64 (7 : Int), .string (⟨#[]⟩)] 23), (B1, .cells #[.int .i64 r3_0, .int .i64 r3_1, .int .i64 r3_2, .int .i64 r3_3, .int .i64 r3_4, .int .i64 r3_5, .string r3_6] 23)] ∧
              ∀ B2 : Nat,
              ((r21 = (0 : Int)) →
                ((r41 = (0 : Int)) →
                  ((r3_5 = (7 : Int)) →
                    ((r3_0 = (3 : Int)) →
                      ((r61 = (200 : Int)) →
                        ((r81 = (10 : Int)) →
                          CallH Tryd.prog 14 ⟨[.agg #[.int .i64 r3_0, .int .i64 r3_1, .int .i64 r3_2, .int .i64 r3_3, .int .i64 r3_4, .int .i64 r3_5, .string r3_6]]⟩ [(B, .cells #[.int .i64 (3 : Int), .int .i64 (1 : Int), .int .i64 (0 : Int), .int .i64 (1 : Int), .int .i64 (0 : Int), .int .i64 (7 : Int), .string (⟨#[]⟩)] 23), (B1, .cells #[.int .i64 r3_0, .int .i64 r3_1, .int .i64 r3_2, .int .i64 r3_3, .int .i64 r3_4, .int .i64 r3_5, .string r3_6] 23), (B2, .cells #[.int .i64 r7_0, .int .i64 r7_1, .int .i64 r7_2, .int .i64 r7_3, .int .i64 r7_4, .int .i64 r7_5, .string r7_6] 23)] [] w0 (fun v L' => ∃ (r91 : Bool), v = (.bool r91) ∧ L' = [(B, .cells #[.int .i64 (3 : Int), .int .i64 (1 : Int), .int .i64 (0 : Int), .int .i64 (1 : Int), .int .i64 (0 : Int), .int .i64 (7 : Int), .string (⟨#[]⟩)] 23), (B1, .cells #[.int .i64 r3_0, .int .i64 r3_1, .int .i64 r3_2, .int .i64 r3_3, .int .i64 r3_4, .int .i64 r3_5, .string r3_6] 23), (B2, .cells #[.int .i64 r7_0, .int .i64 r7_1, .int .i64 r7_2, .int .i64 r7_3, .int .i64 r7_4, .int .i64 r7_5, .string r7_6] 23)] ∧
                            ((r91 = true) →
                              CallH Tryd.prog 14 ⟨[.agg #[.int .i64 (3 : Int), .int .i64 (1 : Int), .int .i64 (0 : Int), .int .i64 (1 : Int), .int .i64 (0 : Int), .int .i64 (7 : Int), .string (⟨#[]⟩)]]⟩ [(B, .cells #[.int .i64 (3 : Int), .int .i64 (1 : Int), .int .i64 (0 : Int), .int .i64 (1 : Int), .int .i64 (0 : Int), .int .i64 (7 : Int), .string (⟨#[]⟩)] 23), (B1, .cells #[.int .i64 r3_0, .int .i64 r3_1, .int .i64 r3_2, .int .i64 r3_3, .int .i64 r3_4, .int .i64 r3_5, .string r3_6] 23), (B2, .cells #[.int .i64 r7_0, .int .i64 r7_1, .int .i64 r7_2, .int .i64 r7_3, .int .i64 r7_4, .int .i64 r7_5, .string r7_6] 23)] [] w0 (fun v L' => ∃ (r101 : Bool), v = (.bool r101) ∧ L' = [(B, .cells #[.int .i64 (3 : Int), .int .i64 (1 : Int), .int .i64 (0 : Int), .int .i64 (1 : Int), .int .i64 (0 : Int), .int .i64 (7 : Int), .string (⟨#[]⟩)] 23), (B1, .cells #[.int .i64 r3_0, .int .i64 r3_1, .int .i64 r3_2, .int .i64 r3_3, .int .i64 r3_4, .int .i64 r3_5, .string r3_6] 23), (B2, .cells #[.int .i64 r7_0, .int .i64 r7_1, .int .i64 r7_2, .int .i64 r7_3, .int .i64 r7_4, .int .i64 r7_5, .string r7_6] 23)] ∧
                                ((r101 = true) →
                                  Fin R [(B, .cells #[.int .i64 (3 : Int), .int .i64 (1 : Int), .int .i64 (0 : Int), .int .i64 (1 : Int), .int .i64 (0 : Int), .int .i64 (7 : Int), .string (⟨#[]⟩)] 23), (B1, .cells #[.int .i64 r3_0, .int .i64 r3_1, .int .i64 r3_2, .int .i64 r3_3, .int .i64 r3_4, .int .i64 r3_5, .string r3_6] 23), (B2, .cells #[.int .i64 r7_0, .int .i64 r7_1, .int .i64 r7_2, .int .i64 r7_3, .int .i64 r7_4, .int .i64 r7_5, .string r7_6] 23)] [] w0 (.bool false)) ∧
                                 ((r101 = false) →
                                  Fin R [(B, .cells #[.int .i64 (3 : Int), .int .i64 (1 : Int), .int .i64 (0 : Int), .int .i64 (1 : Int), .int .i64 (0 : Int), .int .i64 (7 : Int), .string (⟨#[]⟩)] 23), (B1, .cells #[.int .i64 r3_0, .int .i64 r3_1, .int .i64 r3_2, .int .i64 r3_3, .int .i64 r3_4, .int .i64 r3_5, .string r3_6] 23), (B2, .cells #[.int .i64 r7_0, .int .i64 r7_1, .int .i64 r7_2, .int .i64 r7_3, .int .i64 r7_4, .int .i64 r7_5, .string r7_6] 23)] [] w0 (.bool true)))) ∧
                             ((r91 = false) →
                              Fin R [(B, .cells #[.int .i64 (3 : Int), .int .i64 (1 : Int), .int .i64 (0 : Int), .int .i64 (1 : Int), .int .i64 (0 : Int), .int .i64 (7 : Int), .string (⟨#[]⟩)] 23), (B1, .cells #[.int .i64 r3_0, .int .i64 r3_1, .int .i64 r3_2, .int .i64 r3_3, .int .i64 r3_4, .int .i64 r3_5, .string r3_6] 23), (B2, .cells #[.int .i64 r7_0, .int .i64 r7_1, .int .i64 r7_2, .int .i64 r7_3, .int .i64 r7_4, .int .i64 r7_5, .string r7_6] 23)] [] w0 (.bool false)))) ∧
                         ((¬ (r81 = (10 : Int))) →
                          Fin R [(B, .cells #[.int .i64 (3 : Int), .int .i64 (1 : Int), .int .i64 (0 : Int), .int .i64 (1 : Int), .int .i64 (0 : Int), .int .i64 (7 : Int), .string (⟨#[]⟩)] 23), (B1, .cells #[.int .i64 r3_0, .int .i64 r3_1, .int .i64 r3_2, .int .i64 r3_3, .int .i64 r3_4, .int .i64 r3_5, .string r3_6] 23), (B2, .cells #[.int .i64 r7_0, .int .i64 r7_1, .int .i64 r7_2, .int .i64 r7_3, .int .i64 r7_4, .int .i64 r7_5, .string r7_6] 23)] [] w0 (.bool false))) ∧
                       ((¬ (r61 = (200 : Int))) →
                        Fin R [(B, .cells #[.int .i64 (3 : Int), .int .i64 (1 : Int), .int .i64 (0 : Int), .int .i64 (1 : Int), .int .i64 (0 : Int), .int .i64 (7 : Int), .string (⟨#[]⟩)] 23), (B1, .cells #[.int .i64 r3_0, .int .i64 r3_1, .int .i64 r3_2, .int .i64 r3_3, .int .i64 r3_4, .int .i64 r3_5, .string r3_6] 23), (B2, .cells #[.int .i64 r7_0, .int .i64 r7_1, .int .i64 r7_2, .int .i64 r7_3, .int .i64 r7_4, .int .i64 r7_5, .string r7_6] 23)] [] w0 (.bool false))) ∧
                     ((¬ (r3_0 = (3 : Int))) →
                      Fin R [(B, .cells #[.int .i64 (3 : Int), .int .i64 (1 : Int), .int .i64 (0 : Int), .int .i64 (1 : Int), .int .i64 (0 : Int), .int .i64 (7 : Int), .string (⟨#[]⟩)] 23), (B1, .cells #[.int .i64 r3_0, .int .i64 r3_1, .int .i64 r3_2, .int .i64 r3_3, .int .i64 r3_4, .int .i64 r3_5, .string r3_6] 23), (B2, .cells #[.int .i64 r7_0, .int .i64 r7_1, .int .i64 r7_2, .int .i64 r7_3, .int .i64 r7_4, .int .i64 r7_5, .string r7_6] 23)] [] w0 (.bool false))) ∧
                   ((¬ (r3_5 = (7 : Int))) →
                    Fin R [(B, .cells #[.int .i64 (3 : Int), .int .i64 (1 : Int), .int .i64 (0 : Int), .int .i64 (1 : Int), .int .i64 (0 : Int), .int .i64 (7 : Int), .string (⟨#[]⟩)] 23), (B1, .cells #[.int .i64 r3_0, .int .i64 r3_1, .int .i64 r3_2, .int .i64 r3_3, .int .i64 r3_4, .int .i64 r3_5, .string r3_6] 23), (B2, .cells #[.int .i64 r7_0, .int .i64 r7_1, .int .i64 r7_2, .int .i64 r7_3, .int .i64 r7_4, .int .i64 r7_5, .string r7_6] 23)] [] w0 (.bool false))) ∧
                 ((¬ (r41 = (0 : Int))) →
                  Fin R [(B, .cells #[.int .i64 (3 : Int), .int .i64 (1 : Int), .int .i64 (0 : Int), .int .i64 (1 : Int), .int .i64 (0 : Int), .int .i64 (7 : Int), .string (⟨#[]⟩)] 23), (B1, .cells #[.int .i64 r3_0, .int .i64 r3_1, .int .i64 r3_2, .int .i64 r3_3, .int .i64 r3_4, .int .i64 r3_5, .string r3_6] 23), (B2, .cells #[.int .i64 r7_0, .int .i64 r7_1, .int .i64 r7_2, .int .i64 r7_3, .int .i64 r7_4, .int .i64 r7_5, .string r7_6] 23)] [] w0 (.bool false))) ∧
               ((¬ (r21 = (0 : Int))) →
                Fin R [(B, .cells #[.int .i64 (3 : Int), .int .i64 (1 : Int), .int .i64 (0 : Int), .int .i64 (1 : Int), .int .i64 (0 : Int), .int .i64 (7 : Int), .string (⟨#[]⟩)] 23), (B1, .cells #[.int .i64 r3_0, .int .i64 r3_1, .int .i64 r3_2, .int .i64 r3_3, .int .i64 r3_4, .int .i64 r3_5, .string r3_6] 23), (B2, .cells #[.int .i64 r7_0, .int .i64 r7_1, .int .i64 r7_2, .int .i64 r7_3, .int .i64 r7_4, .int .i64 r7_5, .string r7_6] 23)] [] w0 (.bool false))))))) :
    Calls Tryd.prog 10 ⟨[]⟩ W R := by
  refine AtE.calls (nt := 64) Tryd.func10 (by kernel_rfl) hm ?_
  refine AtE.run 7 (fun W => by kernel_rfl) ?_
  refine AtE.new (fun B => .pointer (some ⟨B, 0, none⟩)) (.cells #[.int .i64 (0 : Int), .int .i64 (0 : Int), .int .i64 (0 : Int), .int .i64 (0 : Int), .int .i64 (0 : Int), .int .i64 (0 : Int), .string (⟨#[]⟩)] 23) (fun W => by kernel_rfl) (by kernel_rfl) (fun B => ?_)
  replace H := H B
  refine AtE.store 0 0 (T := 23) (v := .agg #[.int .i64 (3 : Int), .int .i64 (1 : Int), .int .i64 (1 : Int), .int .i64 (1 : Int), .int .i64 (0 : Int), .int .i64 (7 : Int), .string (⟨#[]⟩)]) (by kernel_rfl) ?_
  refine AtE.run 3 (fun W => by kernel_rfl) ?_
  refine AtE.load 0 0 (T := 23) (v := .agg #[.int .i64 (3 : Int), .int .i64 (1 : Int), .int .i64 (1 : Int), .int .i64 (1 : Int), .int .i64 (0 : Int), .int .i64 (7 : Int), .string (⟨#[]⟩)]) (by kernel_rfl) ?_
  refine AtE.call 12 ⟨[.agg #[.int .i64 (3 : Int), .int .i64 (1 : Int), .int .i64 (1 : Int), .int .i64 (1 : Int), .int .i64 (0 : Int), .int .i64 (7 : Int), .string (⟨#[]⟩)]]⟩ (fun W => by kernel_rfl) (by kernel_rfl) H ?_
  clear H
  rintro _ _ ⟨r1, r21, rfl, rfl, H⟩
  refine AtE.run 9 (fun W => by kernel_rfl) ?_
  refine AtE.call 16 ⟨[.string r1]⟩ (fun W => by kernel_rfl) (by kernel_rfl) H ?_
  clear H
  rintro _ _ ⟨r3_0, r3_1, r3_2, r3_3, r3_4, r3_5, r3_6, r41, rfl, rfl, H⟩
  refine AtE.run 3 (fun W => by kernel_rfl) ?_
  refine AtE.new (fun B => .pointer (some ⟨B, 0, none⟩)) (.cells #[.int .i64 (0 : Int), .int .i64 (0 : Int), .int .i64 (0 : Int), .int .i64 (0 : Int), .int .i64 (0 : Int), .int .i64 (0 : Int), .string (⟨#[]⟩)] 23) (fun W => by kernel_rfl) (by kernel_rfl) (fun B1 => ?_)
  replace H := H B1
  refine AtE.store 1 0 (T := 23) (v := .agg #[.int .i64 r3_0, .int .i64 r3_1, .int .i64 r3_2, .int .i64 r3_3, .int .i64 r3_4, .int .i64 r3_5, .string r3_6]) (by kernel_rfl) ?_
  refine AtE.norm (k' := [.inRegion (regOps [.code (sub (Eng.body Tryd.f10) [1, 1, 1, 0])]) [7], .code (sub (Eng.body Tryd.f10) [1, 1, 1, 1])]) (e' := [(1, .pointer (some ⟨B, 0, none⟩)), (3, .int .i64 r21), (4, .pointer (some ⟨B1, 0, none⟩)), (20, .int .i64 r41)]) (L' := [(B, .cells #[.int .i64 (3 : Int), .int .i64 (1 : Int), .int .i64 (1 : Int), .int .i64 (1 : Int), .int .i64 (0 : Int), .int .i64 (7 : Int), .string (⟨#[]⟩)] 23), (B1, .cells #[.int .i64 r3_0, .int .i64 r3_1, .int .i64 r3_2, .int .i64 r3_3, .int .i64 r3_4, .int .i64 r3_5, .string r3_6] 23)]) ?_ (by kernel_rfl)
  refine AtE.run 5 (fun W => by kernel_rfl) ?_
  refine AtE.store 0 2 (T := 3) (v := .int .i64 (0 : Int)) (by kernel_rfl) ?_
  refine AtE.run 3 (fun W => by kernel_rfl) ?_
  refine AtE.load 0 0 (T := 23) (v := .agg #[.int .i64 (3 : Int), .int .i64 (1 : Int), .int .i64 (0 : Int), .int .i64 (1 : Int), .int .i64 (0 : Int), .int .i64 (7 : Int), .string (⟨#[]⟩)]) (by kernel_rfl) ?_
  refine AtE.call 12 ⟨[.agg #[.int .i64 (3 : Int), .int .i64 (1 : Int), .int .i64 (0 : Int), .int .i64 (1 : Int), .int .i64 (0 : Int), .int .i64 (7 : Int), .string (⟨#[]⟩)]]⟩ (fun W => by kernel_rfl) (by kernel_rfl) H ?_
  clear H
  rintro _ _ ⟨r51, r61, rfl, rfl, H⟩
  refine AtE.run 8 (fun W => by kernel_rfl) ?_
  refine AtE.call 16 ⟨[.string (⟨#[]⟩)]⟩ (fun W => by kernel_rfl) (by kernel_rfl) H ?_
  clear H
  rintro _ _ ⟨r7_0, r7_1, r7_2, r7_3, r7_4, r7_5, r7_6, r81, rfl, rfl, H⟩
  refine AtE.run 3 (fun W => by kernel_rfl) ?_
  refine AtE.new (fun B => .pointer (some ⟨B, 0, none⟩)) (.cells #[.int .i64 (0 : Int), .int .i64 (0 : Int), .int .i64 (0 : Int), .int .i64 (0 : Int), .int .i64 (0 : Int), .int .i64 (0 : Int), .string (⟨#[]⟩)] 23) (fun W => by kernel_rfl) (by kernel_rfl) (fun B2 => ?_)
  replace H := H B2
  refine AtE.store 2 0 (T := 23) (v := .agg #[.int .i64 r7_0, .int .i64 r7_1, .int .i64 r7_2, .int .i64 r7_3, .int .i64 r7_4, .int .i64 r7_5, .string r7_6]) (by kernel_rfl) ?_
  refine AtE.run 7 (fun W => by kernel_rfl) ?_
  refine AtE.splitP 33 (p := r21 = (0 : Int)) (by kernel_rfl) (fun h1' => ?_) (fun h1' => ?_)
  · replace H := H.1 h1'
    refine AtE.norm (k' := [.inRegion (regOps [.code (sub (Eng.body Tryd.f10) [1, 1, 1, 1, 1, 1, 1, 0])]) [3, 4, 5, 6, 7, 8, 9, 10, 11, 12, 13, 14, 15, 16, 17, 18, 19, 20, 21, 22, 23, 24, 25, 26, 27, 28, 29, 30, 31, 32, 33], .code (sub (Eng.body Tryd.f10) [1, 1, 1, 1, 1, 1, 1, 1])]) (e' := [(1, .pointer (some ⟨B, 0, none⟩)), (4, .pointer (some ⟨B1, 0, none⟩)), (5, .int .i64 r41), (7, .int .i64 r61), (9, .int .i64 r81), (33, .bool true)]) (L' := [(B, .cells #[.int .i64 (3 : Int), .int .i64 (1 : Int), .int .i64 (0 : Int), .int .i64 (1 : Int), .int .i64 (0 : Int), .int .i64 (7 : Int), .string (⟨#[]⟩)] 23), (B1, .cells #[.int .i64 r3_0, .int .i64 r3_1, .int .i64 r3_2, .int .i64 r3_3, .int .i64 r3_4, .int .i64 r3_5, .string r3_6] 23), (B2, .cells #[.int .i64 r7_0, .int .i64 r7_1, .int .i64 r7_2, .int .i64 r7_3, .int .i64 r7_4, .int .i64 r7_5, .string r7_6] 23)]) ?_ (by kernel_rfl)
    refine AtE.run 4 (fun W => by kernel_rfl) ?_
    refine AtE.splitP 37 (p := r41 = (0 : Int)) (by kernel_rfl) (fun h2' => ?_) (fun h2' => ?_)
    · replace H := H.1 h2'
      refine AtE.run 1 (fun W => by kernel_rfl) ?_
      refine AtE.load 1 5 (T := 3) (v := .int .i64 r3_5) (by kernel_rfl) ?_
      refine AtE.run 3 (fun W => by kernel_rfl) ?_
      refine AtE.splitP 42 (p := r3_5 = (7 : Int)) (by kernel_rfl) (fun h3' => ?_) (fun h3' => ?_)
      · replace H := H.1 h3'
        refine AtE.run 1 (fun W => by kernel_rfl) ?_
        refine AtE.load 1 0 (T := 3) (v := .int .i64 r3_0) (by kernel_rfl) ?_
        refine AtE.run 3 (fun W => by kernel_rfl) ?_
        refine AtE.splitP 47 (p := r3_0 = (3 : Int)) (by kernel_rfl) (fun h4' => ?_) (fun h4' => ?_)
        · replace H := H.1 h4'
          refine AtE.run 4 (fun W => by kernel_rfl) ?_
          refine AtE.splitP 51 (p := r61 = (200 : Int)) (by kernel_rfl) (fun h5' => ?_) (fun h5' => ?_)
          · replace H := H.1 h5'
            refine AtE.run 4 (fun W => by kernel_rfl) ?_
            refine AtE.splitP 55 (p := r81 = (10 : Int)) (by kernel_rfl) (fun h6' => ?_) (fun h6' => ?_)
            · replace H := H.1 h6'
              refine AtE.norm (k' := [.inRegion (regOps [.code (sub (Eng.body Tryd.f10) [1, 1, 1, 1, 1, 1, 1, 0])]) [25, 26, 27, 28, 29, 30, 31, 32, 33], .code (sub (Eng.body Tryd.f10) [1, 1, 1, 1, 1, 1, 1, 1])]) (e' := [(1, .pointer (some ⟨B, 0, none⟩)), (4, .pointer (some ⟨B1, 0, none⟩)), (55, .bool true)]) (L' := [(B, .cells #[.int .i64 (3 : Int), .int .i64 (1 : Int), .int .i64 (0 : Int), .int .i64 (1 : Int), .int .i64 (0 : Int), .int .i64 (7 : Int), .string (⟨#[]⟩)] 23), (B1, .cells #[.int .i64 r3_0, .int .i64 r3_1, .int .i64 r3_2, .int .i64 r3_3, .int .i64 r3_4, .int .i64 r3_5, .string r3_6] 23), (B2, .cells #[.int .i64 r7_0, .int .i64 r7_1, .int .i64 r7_2, .int .i64 r7_3, .int .i64 r7_4, .int .i64 r7_5, .string r7_6] 23)]) ?_ (by kernel_rfl)
              refine AtE.load 1 0 (T := 23) (v := .agg #[.int .i64 r3_0, .int .i64 r3_1, .int .i64 r3_2, .int .i64 r3_3, .int .i64 r3_4, .int .i64 r3_5, .string r3_6]) (by kernel_rfl) ?_
              refine AtE.call 14 ⟨[.agg #[.int .i64 r3_0, .int .i64 r3_1, .int .i64 r3_2, .int .i64 r3_3, .int .i64 r3_4, .int .i64 r3_5, .string r3_6]]⟩ (fun W => by kernel_rfl) (by kernel_rfl) H ?_
              clear H
              rintro _ _ ⟨r91, rfl, rfl, H⟩
              refine AtE.run 2 (fun W => by kernel_rfl) ?_
              refine AtE.split 59 (b := r91) (by kernel_rfl) (fun h7' => ?_) (fun h7' => ?_)
              · replace H := H.1 h7'
                refine AtE.load 0 0 (T := 23) (v := .agg #[.int .i64 (3 : Int), .int .i64 (1 : Int), .int .i64 (0 : Int), .int .i64 (1 : Int), .int .i64 (0 : Int), .int .i64 (7 : Int), .string (⟨#[]⟩)]) (by kernel_rfl) ?_
                refine AtE.call 14 ⟨[.agg #[.int .i64 (3 : Int), .int .i64 (1 : Int), .int .i64 (0 : Int), .int .i64 (1 : Int), .int .i64 (0 : Int), .int .i64 (7 : Int), .string (⟨#[]⟩)]]⟩ (fun W => by kernel_rfl) (by kernel_rfl) H ?_
                clear H
                rintro _ _ ⟨r101, rfl, rfl, H⟩
                refine AtE.split 61 (b := r101) (by kernel_rfl) (fun h8' => ?_) (fun h8' => ?_)
                · replace H := H.1 h8'
                  refine AtE.run 4 (fun W => by kernel_rfl) ?_
                  exact AtE.ret Tryd.func10 (by kernel_rfl) H
                · replace H := H.2 h8'
                  refine AtE.run 4 (fun W => by kernel_rfl) ?_
                  exact AtE.ret Tryd.func10 (by kernel_rfl) H
              · replace H := H.2 h7'
                refine AtE.run 6 (fun W => by kernel_rfl) ?_
                exact AtE.ret Tryd.func10 (by kernel_rfl) H
            · replace H := H.2 h6'
              refine AtE.norm (k' := [.inRegion (regOps [.code (sub (Eng.body Tryd.f10) [1, 1, 1, 1, 1, 1, 1, 0])]) [25, 26, 27, 28, 29, 30, 31, 32, 33], .code (sub (Eng.body Tryd.f10) [1, 1, 1, 1, 1, 1, 1, 1])]) (e' := [(1, .pointer (some ⟨B, 0, none⟩)), (4, .pointer (some ⟨B1, 0, none⟩)), (55, .bool false)]) (L' := [(B, .cells #[.int .i64 (3 : Int), .int .i64 (1 : Int), .int .i64 (0 : Int), .int .i64 (1 : Int), .int .i64 (0 : Int), .int .i64 (7 : Int), .string (⟨#[]⟩)] 23), (B1, .cells #[.int .i64 r3_0, .int .i64 r3_1, .int .i64 r3_2, .int .i64 r3_3, .int .i64 r3_4, .int .i64 r3_5, .string r3_6] 23), (B2, .cells #[.int .i64 r7_0, .int .i64 r7_1, .int .i64 r7_2, .int .i64 r7_3, .int .i64 r7_4, .int .i64 r7_5, .string r7_6] 23)]) ?_ (by kernel_rfl)
              refine AtE.run 10 (fun W => by kernel_rfl) ?_
              exact AtE.ret Tryd.func10 (by kernel_rfl) H
          · replace H := H.2 h5'
            refine AtE.run 14 (fun W => by kernel_rfl) ?_
            exact AtE.ret Tryd.func10 (by kernel_rfl) H
        · replace H := H.2 h4'
          refine AtE.run 18 (fun W => by kernel_rfl) ?_
          exact AtE.ret Tryd.func10 (by kernel_rfl) H
      · replace H := H.2 h3'
        refine AtE.run 23 (fun W => by kernel_rfl) ?_
        exact AtE.ret Tryd.func10 (by kernel_rfl) H
    · replace H := H.2 h2'
      refine AtE.run 28 (fun W => by kernel_rfl) ?_
      exact AtE.ret Tryd.func10 (by kernel_rfl) H
  · replace H := H.2 h1'
    refine AtE.norm (k' := [.inRegion (regOps [.code (sub (Eng.body Tryd.f10) [1, 1, 1, 1, 1, 1, 1, 0])]) [3, 4, 5, 6, 7, 8, 9, 10, 11, 12, 13, 14, 15, 16, 17, 18, 19, 20, 21, 22, 23, 24, 25, 26, 27, 28, 29, 30, 31, 32, 33], .code (sub (Eng.body Tryd.f10) [1, 1, 1, 1, 1, 1, 1, 1])]) (e' := [(1, .pointer (some ⟨B, 0, none⟩)), (4, .pointer (some ⟨B1, 0, none⟩)), (5, .int .i64 r41), (7, .int .i64 r61), (9, .int .i64 r81), (33, .bool false)]) (L' := [(B, .cells #[.int .i64 (3 : Int), .int .i64 (1 : Int), .int .i64 (0 : Int), .int .i64 (1 : Int), .int .i64 (0 : Int), .int .i64 (7 : Int), .string (⟨#[]⟩)] 23), (B1, .cells #[.int .i64 r3_0, .int .i64 r3_1, .int .i64 r3_2, .int .i64 r3_3, .int .i64 r3_4, .int .i64 r3_5, .string r3_6] 23), (B2, .cells #[.int .i64 r7_0, .int .i64 r7_1, .int .i64 r7_2, .int .i64 r7_3, .int .i64 r7_4, .int .i64 r7_5, .string r7_6] 23)]) ?_ (by kernel_rfl)
    refine AtE.run 32 (fun W => by kernel_rfl) ?_
    exact AtE.ret Tryd.func10 (by kernel_rfl) H

end Go.Eng
