/- Verification conditions of the functions, written by a program of the prover, checked here. -/
import Derived.Test.YtgplckfjbdnedaaDoorEngInl

import Derived.Test.YtgplckfjbdnedaaDoorEngEq

import Derived.Test.YtgplckfjbdnedaaDoorChecked

namespace Go.Eng

open Go Go.RowKit Go.Proofs

set_option linter.unusedVariables false

set_option maxRecDepth 100000

theorem LLength_vc (mk : Int) (mp : Int) (mq : Int) (mt : Int) (mb : Int) (mv : Int) (md : ByteArray) (n : Int) (more : ByteArray) {R : Ending → World → Prop} {w0 W : World} (hm : Mem [] [] w0 W)
    (H :
      ∀ B : Nat,
      CallH Tryd.prog 10 ⟨[]⟩ [(B, .cells #[.int .i64 mk, .int .i64 mp, .int .i64 mq, .int .i64 mt, .int .i64 mb, .int .i64 mv, .string md] 23)] [] w0 (fun v L' => ∃ (r1 : Bool), v = (.bool r1) ∧ L' = [(B, .cells #[.int .i64 mk, .int .i64 mp, .int .i64 mq, .int .i64 mt, .int .i64 mb, .int .i64 mv, .string md] 23)] ∧
        CallH Tryd.prog 11 ⟨[.agg #[.int .i64 mk, .int .i64 mp, .int .i64 mq, .int .i64 mt, .int .i64 mb, .int .i64 mv, .string md]]⟩ [(B, .cells #[.int .i64 mk, .int .i64 mp, .int .i64 mq, .int .i64 mt, .int .i64 mb, .int .i64 mv, .string md] 23)] [] w0 (fun v L' => ∃ (r2_0 : Int) (r2_1 : Int) (r2_2 : Int) (r2_3 : Int) (r2_4 : Int) (r2_5 : Int) (r2_6 : ByteArray), v = (.agg #[.int .i64 r2_0, .int .i64 r2_1, .int .i64 r2_2, .int .i64 r2_3, .int .i64 r2_4, .int .i64 r2_5, .string r2_6]) ∧ L' = [(B, .cells #[.int .i64 mk, .int .i64 mp, .int .i64 mq, .int .i64 mt, .int .i64 mb, .int .i64 mv, .string md] 23)] ∧
          CallH Tryd.prog 12 ⟨[.agg #[.int .i64 r2_0, .int .i64 r2_1, .int .i64 r2_2, .int .i64 r2_3, .int .i64 r2_4, .int .i64 r2_5, .string r2_6]]⟩ [(B, .cells #[.int .i64 mk, .int .i64 mp, .int .i64 mq, .int .i64 mt, .int .i64 mb, .int .i64 mv, .string md] 23)] [] w0 (fun v L' => ∃ (r31 : ByteArray) (r41 : Int), v = (.tuple #[.string r31, .int .i64 r41]) ∧ L' = [(B, .cells #[.int .i64 mk, .int .i64 mp, .int .i64 mq, .int .i64 mt, .int .i64 mb, .int .i64 mv, .string md] 23)] ∧
            ((¬ (r41 = (0 : Int))) →
              Fin R [(B, .cells #[.int .i64 mk, .int .i64 mp, .int .i64 mq, .int .i64 mt, .int .i64 mb, .int .i64 mv, .string md] 23)] [] w0 (.bool r1)) ∧
             ((r41 = (0 : Int)) →
              (0 ≤ (0 : Int) ∧ (0 : Int) ≤ (if (20 : Int) < (more.size : Int) then (20 : Int) else (more.size : Int)) ∧ (if (20 : Int) < (more.size : Int) then (20 : Int) else (more.size : Int)) ≤ more.size) ∧
              ∀ more1 : ByteArray, more1 = (more.extract 0 (Int.toNat (if (20 : Int) < (more.size : Int) then (20 : Int) else (more.size : Int)))) →
              (r31.size + more1.size ≤ 9223372036854775807) ∧
              CallH Tryd.prog 16 ⟨[.string (r31 ++ more1)]⟩ [(B, .cells #[.int .i64 mk, .int .i64 mp, .int .i64 mq, .int .i64 mt, .int .i64 mb, .int .i64 mv, .string md] 23)] [] w0 (fun v L' => ∃ (r5_0 : Int) (r5_1 : Int) (r5_2 : Int) (r5_3 : Int) (r5_4 : Int) (r5_5 : Int) (r5_6 : ByteArray) (r61 : Int), v = (.tuple #[.agg #[.int .i64 r5_0, .int .i64 r5_1, .int .i64 r5_2, .int .i64 r5_3, .int .i64 r5_4, .int .i64 r5_5, .string r5_6], .int .i64 r61]) ∧ L' = [(B, .cells #[.int .i64 mk, .int .i64 mp, .int .i64 mq, .int .i64 mt, .int .i64 mb, .int .i64 mv, .string md] 23)] ∧
                ∀ B1 : Nat,
                CallH Tryd.prog 21 ⟨[.int .i64 n, .int .i64 (4 : Int)]⟩ [(B, .cells #[.int .i64 mk, .int .i64 mp, .int .i64 mq, .int .i64 mt, .int .i64 mb, .int .i64 mv, .string md] 23), (B1, .cells #[.int .i64 r5_0, .int .i64 r5_1, .int .i64 r5_2, .int .i64 r5_3, .int .i64 r5_4, .int .i64 r5_5, .string r5_6] 23)] [] w0 (fun v L' => ∃ (r71 : Int), v = (.int .i64 r71) ∧ L' = [(B, .cells #[.int .i64 mk, .int .i64 mp, .int .i64 mq, .int .i64 mt, .int .i64 mb, .int .i64 mv, .string md] 23), (B1, .cells #[.int .i64 r5_0, .int .i64 r5_1, .int .i64 r5_2, .int .i64 r5_3, .int .i64 r5_4, .int .i64 r5_5, .string r5_6] 23)] ∧
                  ∀ kv : Int, kv = (IntKind.i64.wrap ((IntKind.i64.wrap ((r31.size : Int) - (1 : Int))) - r71)) →
                  ((kv < (0 : Int)) →
                    Fin R [(B, .cells #[.int .i64 mk, .int .i64 mp, .int .i64 mq, .int .i64 mt, .int .i64 mb, .int .i64 mv, .string md] 23), (B1, .cells #[.int .i64 r5_0, .int .i64 r5_1, .int .i64 r5_2, .int .i64 r5_3, .int .i64 r5_4, .int .i64 r5_5, .string r5_6] 23)] [] w0 (.bool false)) ∧
                   ((¬ (kv < (0 : Int))) →
                    (0 ≤ (0 : Int) ∧ (0 : Int) ≤ kv ∧ kv ≤ r31.size) ∧
                    CallH Tryd.prog 16 ⟨[.string (r31.extract 0 (Int.toNat kv))]⟩ [(B, .cells #[.int .i64 mk, .int .i64 mp, .int .i64 mq, .int .i64 mt, .int .i64 mb, .int .i64 mv, .string md] 23), (B1, .cells #[.int .i64 r5_0, .int .i64 r5_1, .int .i64 r5_2, .int .i64 r5_3, .int .i64 r5_4, .int .i64 r5_5, .string r5_6] 23)] [] w0 (fun v L' => ∃ (r8_0 : Int) (r8_1 : Int) (r8_2 : Int) (r8_3 : Int) (r8_4 : Int) (r8_5 : Int) (r8_6 : ByteArray) (r91 : Int), v = (.tuple #[.agg #[.int .i64 r8_0, .int .i64 r8_1, .int .i64 r8_2, .int .i64 r8_3, .int .i64 r8_4, .int .i64 r8_5, .string r8_6], .int .i64 r91]) ∧ L' = [(B, .cells #[.int .i64 mk, .int .i64 mp, .int .i64 mq, .int .i64 mt, .int .i64 mb, .int .i64 mv, .string md] 23), (B1, .cells #[.int .i64 r5_0, .int .i64 r5_1, .int .i64 r5_2, .int .i64 r5_3, .int .i64 r5_4, .int .i64 r5_5, .string r5_6] 23)] ∧
                      ∀ B2 : Nat,
                      ((r1 = true) →
                        ((r61 = (0 : Int)) →
                          ((more1 = (⟨#[]⟩ : ByteArray)) →
                            Fin R [(B, .cells #[.int .i64 mk, .int .i64 mp, .int .i64 mq, .int .i64 mt, .int .i64 mb, .int .i64 mv, .string md] 23), (B1, .cells #[.int .i64 r5_0, .int .i64 r5_1, .int .i64 r5_2, .int .i64 r5_3, .int .i64 r5_4, .int .i64 r5_5, .string r5_6] 23), (B2, .cells #[.int .i64 r8_0, .int .i64 r8_1, .int .i64 r8_2, .int .i64 r8_3, .int .i64 r8_4, .int .i64 r8_5, .string r8_6] 23)] [] w0 (.bool (!decide (r91 = (0 : Int))))) ∧
                           ((¬ more1 = (⟨#[]⟩ : ByteArray)) →
                            Fin R [(B, .cells #[.int .i64 mk, .int .i64 mp, .int .i64 mq, .int .i64 mt, .int .i64 mb, .int .i64 mv, .string md] 23), (B1, .cells #[.int .i64 r5_0, .int .i64 r5_1, .int .i64 r5_2, .int .i64 r5_3, .int .i64 r5_4, .int .i64 r5_5, .string r5_6] 23), (B2, .cells #[.int .i64 r8_0, .int .i64 r8_1, .int .i64 r8_2, .int .i64 r8_3, .int .i64 r8_4, .int .i64 r8_5, .string r8_6] 23)] [] w0 (.bool false))) ∧
                         ((¬ (r61 = (0 : Int))) →
                          ((more1 = (⟨#[]⟩ : ByteArray)) →
                            Fin R [(B, .cells #[.int .i64 mk, .int .i64 mp, .int .i64 mq, .int .i64 mt, .int .i64 mb, .int .i64 mv, .string md] 23), (B1, .cells #[.int .i64 r5_0, .int .i64 r5_1, .int .i64 r5_2, .int .i64 r5_3, .int .i64 r5_4, .int .i64 r5_5, .string r5_6] 23), (B2, .cells #[.int .i64 r8_0, .int .i64 r8_1, .int .i64 r8_2, .int .i64 r8_3, .int .i64 r8_4, .int .i64 r8_5, .string r8_6] 23)] [] w0 (.bool false)) ∧
                           ((¬ more1 = (⟨#[]⟩ : ByteArray)) →
                            Fin R [(B, .cells #[.int .i64 mk, .int .i64 mp, .int .i64 mq, .int .i64 mt, .int .i64 mb, .int .i64 mv, .string md] 23), (B1, .cells #[.int .i64 r5_0, .int .i64 r5_1, .int .i64 r5_2, .int .i64 r5_3, .int .i64 r5_4, .int .i64 r5_5, .string r5_6] 23), (B2, .cells #[.int .i64 r8_0, .int .i64 r8_1, .int .i64 r8_2, .int .i64 r8_3, .int .i64 r8_4, .int .i64 r8_5, .string r8_6] 23)] [] w0 (.bool (!decide (r91 = (0 : Int))))))) ∧
                       ((r1 = false) →
                        Fin R [(B, .cells #[.int .i64 mk, .int .i64 mp, .int .i64 mq, .int .i64 mt, .int .i64 mb, .int .i64 mv, .string md] 23), (B1, .cells #[.int .i64 r5_0, .int .i64 r5_1, .int .i64 r5_2, .int .i64 r5_3, .int .i64 r5_4, .int .i64 r5_5, .string r5_6] 23), (B2, .cells #[.int .i64 r8_0, .int .i64 r8_1, .int .i64 r8_2, .int .i64 r8_3, .int .i64 r8_4, .int .i64 r8_5, .string r8_6] 23)] [] w0 (.bool false))))))))))) :
    Calls Tryd.prog 9 ⟨[.agg #[.int .i64 mk, .int .i64 mp, .int .i64 mq, .int .i64 mt, .int .i64 mb, .int .i64 mv, .string md], .int .i64 n, .string more]⟩ W R := by
  refine AtE.calls (nt := 64) Tryd.func9 (by kernel_rfl) hm ?_
  refine AtE.run 2 (fun W => by kernel_rfl) ?_
  refine AtE.new (fun B => .pointer (some ⟨B, 0, none⟩)) (.cells #[.int .i64 mk, .int .i64 mp, .int .i64 mq, .int .i64 mt, .int .i64 mb, .int .i64 mv, .string md] 23) (fun W => by kernel_rfl) (by kernel_rfl) (fun B => ?_)
  replace H := H B
  refine AtE.run 4 (fun W => by kernel_rfl) ?_
  refine AtE.call 10 ⟨[]⟩ (fun W => by kernel_rfl) (by kernel_rfl) H ?_
  clear H
  rintro _ _ ⟨r1, rfl, rfl, H⟩
  refine AtE.run 4 (fun W => by kernel_rfl) ?_
  refine AtE.load 0 0 (T := 23) (v := .agg #[.int .i64 mk, .int .i64 mp, .int .i64 mq, .int .i64 mt, .int .i64 mb, .int .i64 mv, .string md]) (by kernel_rfl) ?_
  refine AtE.call 11 ⟨[.agg #[.int .i64 mk, .int .i64 mp, .int .i64 mq, .int .i64 mt, .int .i64 mb, .int .i64 mv, .string md]]⟩ (fun W => by kernel_rfl) (by kernel_rfl) H ?_
  clear H
  rintro _ _ ⟨r2_0, r2_1, r2_2, r2_3, r2_4, r2_5, r2_6, rfl, rfl, H⟩
  refine AtE.call 12 ⟨[.agg #[.int .i64 r2_0, .int .i64 r2_1, .int .i64 r2_2, .int .i64 r2_3, .int .i64 r2_4, .int .i64 r2_5, .string r2_6]]⟩ (fun W => by kernel_rfl) (by kernel_rfl) H ?_
  clear H
  rintro _ _ ⟨r31, r41, rfl, rfl, H⟩
  refine AtE.run 12 (fun W => by kernel_rfl) ?_
  refine AtE.splitN 23 (p := r41 = (0 : Int)) (by kernel_rfl) (fun h1' => ?_) (fun h1' => ?_)
  · replace H := H.1 h1'
    refine AtE.run 6 (fun W => by kernel_rfl) ?_
    exact AtE.ret Tryd.func9 (by kernel_rfl) H
  · replace H := H.2 h1'
    refine AtE.run 8 (fun W => by kernel_rfl) ?_
    refine AtE.sliceS (s := more) (lo := none) (hi := some (.int .i64 (if (20 : Int) < (more.size : Int) then (20 : Int) else (more.size : Int)))) (a := (0 : Int)) (b := (if (20 : Int) < (more.size : Int) then (20 : Int) else (more.size : Int))) (by kernel_rfl) (.inr ⟨rfl, rfl⟩) (.inl ⟨.i64, rfl⟩) H.1 ?_
    replace H := H.2
    refine AtE.norm (k' := [.inRegion (regOps [.code (sub (Eng.body Tryd.f9) [1, 1, 1, 1, 0])]) [5], .code (sub (Eng.body Tryd.f9) [1, 1, 1, 1, 1])]) (e' := [(1, .int .i64 n), (7, .bool r1), (8, .string r31), (29, .string (more.extract 0 (Int.toNat (if (20 : Int) < (more.size : Int) then (20 : Int) else (more.size : Int)))))]) (L' := [(B, .cells #[.int .i64 mk, .int .i64 mp, .int .i64 mq, .int .i64 mt, .int .i64 mb, .int .i64 mv, .string md] 23)]) ?_ (by kernel_rfl)
    refine AtE.run 1 (fun W => by kernel_rfl) ?_
    refine AtE.letS 2 (n := (more.extract 0 (Int.toNat (if (20 : Int) < (more.size : Int) then (20 : Int) else (more.size : Int))))) (by kernel_rfl) (fun more1 hmore1 => ?_)
    replace H := H more1 hmore1
    refine AtE.run 5 (fun W => by kernel_rfl) ?_
    refine AtE.concat (x := r31) (y := more1) (by kernel_rfl) H.1 ?_
    replace H := H.2
    refine AtE.call 16 ⟨[.string (r31 ++ more1)]⟩ (fun W => by kernel_rfl) (by kernel_rfl) H ?_
    clear H
    rintro _ _ ⟨r5_0, r5_1, r5_2, r5_3, r5_4, r5_5, r5_6, r61, rfl, rfl, H⟩
    refine AtE.run 3 (fun W => by kernel_rfl) ?_
    refine AtE.new (fun B => .pointer (some ⟨B, 0, none⟩)) (.cells #[.int .i64 (0 : Int), .int .i64 (0 : Int), .int .i64 (0 : Int), .int .i64 (0 : Int), .int .i64 (0 : Int), .int .i64 (0 : Int), .string (⟨#[]⟩)] 23) (fun W => by kernel_rfl) (by kernel_rfl) (fun B1 => ?_)
    replace H := H B1
    refine AtE.store 1 0 (T := 23) (v := .agg #[.int .i64 r5_0, .int .i64 r5_1, .int .i64 r5_2, .int .i64 r5_3, .int .i64 r5_4, .int .i64 r5_5, .string r5_6]) (by kernel_rfl) ?_
    refine AtE.run 8 (fun W => by kernel_rfl) ?_
    refine AtE.call 21 ⟨[.int .i64 n, .int .i64 (4 : Int)]⟩ (fun W => by kernel_rfl) (by kernel_rfl) H ?_
    clear H
    rintro _ _ ⟨r71, rfl, rfl, H⟩
    refine AtE.run 2 (fun W => by kernel_rfl) ?_
    refine AtE.letI 12 (kd := .i64) (n := (IntKind.i64.wrap ((IntKind.i64.wrap ((r31.size : Int) - (1 : Int))) - r71))) (by kernel_rfl) (fun kv hkv => ?_)
    replace H := H kv hkv
    refine AtE.norm (k' := [.inRegion (regOps [.code (sub (Eng.body Tryd.f9) [1, 1, 1, 1, 1, 1, 0])]) [], .code (sub (Eng.body Tryd.f9) [1, 1, 1, 1, 1, 1, 1])]) (e' := [(2, .string more1), (7, .bool r1), (8, .string r31), (11, .int .i64 r61), (12, .int .i64 kv)]) (L' := [(B, .cells #[.int .i64 mk, .int .i64 mp, .int .i64 mq, .int .i64 mt, .int .i64 mb, .int .i64 mv, .string md] 23), (B1, .cells #[.int .i64 r5_0, .int .i64 r5_1, .int .i64 r5_2, .int .i64 r5_3, .int .i64 r5_4, .int .i64 r5_5, .string r5_6] 23)]) ?_ (by kernel_rfl)
    refine AtE.run 7 (fun W => by kernel_rfl) ?_
    refine AtE.splitP 44 (p := kv < (0 : Int)) (by kernel_rfl) (fun h2' => ?_) (fun h2' => ?_)
    · replace H := H.1 h2'
      refine AtE.run 5 (fun W => by kernel_rfl) ?_
      exact AtE.ret Tryd.func9 (by kernel_rfl) H
    · replace H := H.2 h2'
      refine AtE.run 6 (fun W => by kernel_rfl) ?_
      refine AtE.sliceS (s := r31) (lo := none) (hi := some (.int .i64 kv)) (a := (0 : Int)) (b := kv) (by kernel_rfl) (.inr ⟨rfl, rfl⟩) (.inl ⟨.i64, rfl⟩) H.1 ?_
      replace H := H.2
      refine AtE.call 16 ⟨[.string (r31.extract 0 (Int.toNat kv))]⟩ (fun W => by kernel_rfl) (by kernel_rfl) H ?_
      clear H
      rintro _ _ ⟨r8_0, r8_1, r8_2, r8_3, r8_4, r8_5, r8_6, r91, rfl, rfl, H⟩
      refine AtE.run 3 (fun W => by kernel_rfl) ?_
      refine AtE.new (fun B => .pointer (some ⟨B, 0, none⟩)) (.cells #[.int .i64 (0 : Int), .int .i64 (0 : Int), .int .i64 (0 : Int), .int .i64 (0 : Int), .int .i64 (0 : Int), .int .i64 (0 : Int), .string (⟨#[]⟩)] 23) (fun W => by kernel_rfl) (by kernel_rfl) (fun B2 => ?_)
      replace H := H B2
      refine AtE.store 2 0 (T := 23) (v := .agg #[.int .i64 r8_0, .int .i64 r8_1, .int .i64 r8_2, .int .i64 r8_3, .int .i64 r8_4, .int .i64 r8_5, .string r8_6]) (by kernel_rfl) ?_
      refine AtE.run 6 (fun W => by kernel_rfl) ?_
      refine AtE.split 53 (b := r1) (by kernel_rfl) (fun h3' => ?_) (fun h3' => ?_)
      · replace H := H.1 h3'
        refine AtE.run 4 (fun W => by kernel_rfl) ?_
        refine AtE.splitP 55 (p := r61 = (0 : Int)) (by kernel_rfl) (fun h4' => ?_) (fun h4' => ?_)
        · replace H := H.1 h4'
          refine AtE.norm (k' := [.inRegion (regOps [.code (sub (Eng.body Tryd.f9) [1, 1, 1, 1, 1, 1, 1, 1, 1, 0])]) [6, 7, 8, 9, 10, 11, 12], .code (sub (Eng.body Tryd.f9) [1, 1, 1, 1, 1, 1, 1, 1, 1, 1])]) (e' := [(14, .int .i64 r91), (53, .bool true), (55, .bool true), (57, .bool (more1.toList == (⟨#[]⟩ : ByteArray).toList))]) (L' := [(B, .cells #[.int .i64 mk, .int .i64 mp, .int .i64 mq, .int .i64 mt, .int .i64 mb, .int .i64 mv, .string md] 23), (B1, .cells #[.int .i64 r5_0, .int .i64 r5_1, .int .i64 r5_2, .int .i64 r5_3, .int .i64 r5_4, .int .i64 r5_5, .string r5_6] 23), (B2, .cells #[.int .i64 r8_0, .int .i64 r8_1, .int .i64 r8_2, .int .i64 r8_3, .int .i64 r8_4, .int .i64 r8_5, .string r8_6] 23)]) ?_ (by kernel_rfl)
          refine AtE.splitS 57 (x := more1) (y := (⟨#[]⟩ : ByteArray)) (by kernel_rfl) (fun h5' => ?_) (fun h5' => ?_)
          · replace H := H.1 h5'
            refine AtE.run 8 (fun W => by kernel_rfl) ?_
            exact AtE.ret Tryd.func9 (by kernel_rfl) H
          · replace H := H.2 h5'
            refine AtE.run 8 (fun W => by kernel_rfl) ?_
            exact AtE.ret Tryd.func9 (by kernel_rfl) H
        · replace H := H.2 h4'
          refine AtE.norm (k' := [.inRegion (regOps [.code (sub (Eng.body Tryd.f9) [1, 1, 1, 1, 1, 1, 1, 1, 1, 0])]) [6, 7, 8, 9, 10, 11, 12], .code (sub (Eng.body Tryd.f9) [1, 1, 1, 1, 1, 1, 1, 1, 1, 1])]) (e' := [(14, .int .i64 r91), (53, .bool true), (55, .bool false), (57, .bool (more1.toList == (⟨#[]⟩ : ByteArray).toList))]) (L' := [(B, .cells #[.int .i64 mk, .int .i64 mp, .int .i64 mq, .int .i64 mt, .int .i64 mb, .int .i64 mv, .string md] 23), (B1, .cells #[.int .i64 r5_0, .int .i64 r5_1, .int .i64 r5_2, .int .i64 r5_3, .int .i64 r5_4, .int .i64 r5_5, .string r5_6] 23), (B2, .cells #[.int .i64 r8_0, .int .i64 r8_1, .int .i64 r8_2, .int .i64 r8_3, .int .i64 r8_4, .int .i64 r8_5, .string r8_6] 23)]) ?_ (by kernel_rfl)
          refine AtE.splitS 57 (x := more1) (y := (⟨#[]⟩ : ByteArray)) (by kernel_rfl) (fun h6' => ?_) (fun h6' => ?_)
          · replace H := H.1 h6'
            refine AtE.run 8 (fun W => by kernel_rfl) ?_
            exact AtE.ret Tryd.func9 (by kernel_rfl) H
          · replace H := H.2 h6'
            refine AtE.run 8 (fun W => by kernel_rfl) ?_
            exact AtE.ret Tryd.func9 (by kernel_rfl) H
      · replace H := H.2 h3'
        refine AtE.run 12 (fun W => by kernel_rfl) ?_
        exact AtE.ret Tryd.func9 (by kernel_rfl) H

end Go.Eng
