/- Verification conditions of the functions, written by a program of the prover, checked here. -/
import Derived.Test.YtgplckfjbdnedaaDoorEngInl

import Derived.Test.YtgplckfjbdnedaaDoorEngEq

import Derived.Test.YtgplckfjbdnedaaDoorChecked

namespace Go.Eng

open Go Go.RowKit Go.Proofs

set_option linter.unusedVariables false

set_option maxRecDepth 100000

theorem mValid_vc (mk : Int) (mp : Int) (mq : Int) (mt : Int) (mb : Int) (mv : Int) (md : ByteArray) {R : Ending → World → Prop} {w0 W : World} (hm : Mem [] [] w0 W)
    (H :
      ∀ B : Nat,
      ((mp < (1 : Int)) →
        Fin R [(B, .cells #[.int .i64 mk, .int .i64 mp, .int .i64 mq, .int .i64 mt, .int .i64 mb, .int .i64 mv, .string md] 23)] [] w0 (.bool false)) ∧
       ((¬ (mp < (1 : Int))) →
        (((8 : Int) < mp) →
          Fin R [(B, .cells #[.int .i64 mk, .int .i64 mp, .int .i64 mq, .int .i64 mt, .int .i64 mb, .int .i64 mv, .string md] 23)] [] w0 (.bool false)) ∧
         ((¬ ((8 : Int) < mp)) →
          ((mq < (1 : Int)) →
            Fin R [(B, .cells #[.int .i64 mk, .int .i64 mp, .int .i64 mq, .int .i64 mt, .int .i64 mb, .int .i64 mv, .string md] 23)] [] w0 (.bool false)) ∧
           ((¬ (mq < (1 : Int))) →
            (((4611686018427387903 : Int) < mq) →
              Fin R [(B, .cells #[.int .i64 mk, .int .i64 mp, .int .i64 mq, .int .i64 mt, .int .i64 mb, .int .i64 mv, .string md] 23)] [] w0 (.bool false)) ∧
             ((¬ ((4611686018427387903 : Int) < mq)) →
              ((mt < (1 : Int)) →
                Fin R [(B, .cells #[.int .i64 mk, .int .i64 mp, .int .i64 mq, .int .i64 mt, .int .i64 mb, .int .i64 mv, .string md] 23)] [] w0 (.bool false)) ∧
               ((¬ (mt < (1 : Int))) →
                (((64 : Int) < mt) →
                  Fin R [(B, .cells #[.int .i64 mk, .int .i64 mp, .int .i64 mq, .int .i64 mt, .int .i64 mb, .int .i64 mv, .string md] 23)] [] w0 (.bool false)) ∧
                 ((¬ ((64 : Int) < mt)) →
                  (((0 : Int) ≤ mb) →
                    ((¬ (mb ≤ (4294967295 : Int))) →
                      Fin R [(B, .cells #[.int .i64 mk, .int .i64 mp, .int .i64 mq, .int .i64 mt, .int .i64 mb, .int .i64 mv, .string md] 23)] [] w0 (.bool false)) ∧
                     ((mb ≤ (4294967295 : Int)) →
                      (((0 : Int) ≤ mv) →
                        ((¬ (mv ≤ (4294967295 : Int))) →
                          Fin R [(B, .cells #[.int .i64 mk, .int .i64 mp, .int .i64 mq, .int .i64 mt, .int .i64 mb, .int .i64 mv, .string md] 23)] [] w0 (.bool false)) ∧
                         ((mv ≤ (4294967295 : Int)) →
                          ((mk = (1 : Int)) →
                            Fin R [(B, .cells #[.int .i64 mk, .int .i64 mp, .int .i64 mq, .int .i64 mt, .int .i64 mb, .int .i64 mv, .string md] 23)] [] w0 (.bool (decide ((md.size : Int) ≤ (16384 : Int))))) ∧
                           ((¬ (mk = (1 : Int))) →
                            ((mk = (2 : Int)) →
                              ((mb = (0 : Int)) →
                                ((mv = (0 : Int)) →
                                  Fin R [(B, .cells #[.int .i64 mk, .int .i64 mp, .int .i64 mq, .int .i64 mt, .int .i64 mb, .int .i64 mv, .string md] 23)] [] w0 (.bool (md.toList == (⟨#[]⟩ : ByteArray).toList))) ∧
                                 ((¬ (mv = (0 : Int))) →
                                  Fin R [(B, .cells #[.int .i64 mk, .int .i64 mp, .int .i64 mq, .int .i64 mt, .int .i64 mb, .int .i64 mv, .string md] 23)] [] w0 (.bool false))) ∧
                               ((¬ (mb = (0 : Int))) →
                                Fin R [(B, .cells #[.int .i64 mk, .int .i64 mp, .int .i64 mq, .int .i64 mt, .int .i64 mb, .int .i64 mv, .string md] 23)] [] w0 (.bool false))) ∧
                             ((¬ (mk = (2 : Int))) →
                              ((mk = (3 : Int)) →
                                ((mb = (0 : Int)) →
                                  Fin R [(B, .cells #[.int .i64 mk, .int .i64 mp, .int .i64 mq, .int .i64 mt, .int .i64 mb, .int .i64 mv, .string md] 23)] [] w0 (.bool (md.toList == (⟨#[]⟩ : ByteArray).toList))) ∧
                                 ((¬ (mb = (0 : Int))) →
                                  Fin R [(B, .cells #[.int .i64 mk, .int .i64 mp, .int .i64 mq, .int .i64 mt, .int .i64 mb, .int .i64 mv, .string md] 23)] [] w0 (.bool false))) ∧
                               ((¬ (mk = (3 : Int))) →
                                ((mk = (4 : Int)) →
                                  ((mv = (0 : Int)) →
                                    Fin R [(B, .cells #[.int .i64 mk, .int .i64 mp, .int .i64 mq, .int .i64 mt, .int .i64 mb, .int .i64 mv, .string md] 23)] [] w0 (.bool (md.toList == (⟨#[]⟩ : ByteArray).toList))) ∧
                                   ((¬ (mv = (0 : Int))) →
                                    Fin R [(B, .cells #[.int .i64 mk, .int .i64 mp, .int .i64 mq, .int .i64 mt, .int .i64 mb, .int .i64 mv, .string md] 23)] [] w0 (.bool false))) ∧
                                 ((¬ (mk = (4 : Int))) →
                                  Fin R [(B, .cells #[.int .i64 mk, .int .i64 mp, .int .i64 mq, .int .i64 mt, .int .i64 mb, .int .i64 mv, .string md] 23)] [] w0 (.bool false))))))) ∧
                       ((¬ ((0 : Int) ≤ mv)) →
                        Fin R [(B, .cells #[.int .i64 mk, .int .i64 mp, .int .i64 mq, .int .i64 mt, .int .i64 mb, .int .i64 mv, .string md] 23)] [] w0 (.bool false)))) ∧
                   ((¬ ((0 : Int) ≤ mb)) →
                    Fin R [(B, .cells #[.int .i64 mk, .int .i64 mp, .int .i64 mq, .int .i64 mt, .int .i64 mb, .int .i64 mv, .string md] 23)] [] w0 (.bool false))))))))) :
    Calls Tryd.prog 14 ⟨[.agg #[.int .i64 mk, .int .i64 mp, .int .i64 mq, .int .i64 mt, .int .i64 mb, .int .i64 mv, .string md]]⟩ W R := by
  refine AtE.calls (nt := 84) Tryd.func14 (by kernel_rfl) hm ?_
  refine AtE.run 2 (fun W => by kernel_rfl) ?_
  refine AtE.new (fun B => .pointer (some ⟨B, 0, none⟩)) (.cells #[.int .i64 mk, .int .i64 mp, .int .i64 mq, .int .i64 mt, .int .i64 mb, .int .i64 mv, .string md] 23) (fun W => by kernel_rfl) (by kernel_rfl) (fun B => ?_)
  replace H := H B
  refine AtE.run 6 (fun W => by kernel_rfl) ?_
  refine AtE.load 0 1 (T := 3) (v := .int .i64 mp) (by kernel_rfl) ?_
  refine AtE.run 2 (fun W => by kernel_rfl) ?_
  refine AtE.splitP 6 (p := mp < (1 : Int)) (by kernel_rfl) (fun h1' => ?_) (fun h1' => ?_)
  · replace H := H.1 h1'
    refine AtE.run 20 (fun W => by kernel_rfl) ?_
    exact AtE.ret Tryd.func14 (by kernel_rfl) H
  · replace H := H.2 h1'
    refine AtE.run 1 (fun W => by kernel_rfl) ?_
    refine AtE.load 0 1 (T := 3) (v := .int .i64 mp) (by kernel_rfl) ?_
    refine AtE.run 3 (fun W => by kernel_rfl) ?_
    refine AtE.splitP 11 (p := (8 : Int) < mp) (by kernel_rfl) (fun h2' => ?_) (fun h2' => ?_)
    · replace H := H.1 h2'
      refine AtE.run 15 (fun W => by kernel_rfl) ?_
      exact AtE.ret Tryd.func14 (by kernel_rfl) H
    · replace H := H.2 h2'
      refine AtE.run 1 (fun W => by kernel_rfl) ?_
      refine AtE.load 0 2 (T := 3) (v := .int .i64 mq) (by kernel_rfl) ?_
      refine AtE.run 3 (fun W => by kernel_rfl) ?_
      refine AtE.splitP 16 (p := mq < (1 : Int)) (by kernel_rfl) (fun h3' => ?_) (fun h3' => ?_)
      · replace H := H.1 h3'
        refine AtE.norm (k' := [.inRegion (regOps [.code (sub (Eng.body Tryd.f14) [1, 0, 0])]) [14, 15, 16, 17], .code (sub (Eng.body Tryd.f14) [1, 0, 1]), .code (sub (Eng.body Tryd.f14) [1, 1])]) (e' := [(1, .pointer (some ⟨B, 0, none⟩)), (16, .bool true)]) (L' := [(B, .cells #[.int .i64 mk, .int .i64 mp, .int .i64 mq, .int .i64 mt, .int .i64 mb, .int .i64 mv, .string md] 23)]) ?_ (by kernel_rfl)
        refine AtE.run 10 (fun W => by kernel_rfl) ?_
        exact AtE.ret Tryd.func14 (by kernel_rfl) H
      · replace H := H.2 h3'
        refine AtE.norm (k' := [.inRegion (regOps [.code (sub (Eng.body Tryd.f14) [1, 0, 0])]) [14, 15, 16, 17], .code (sub (Eng.body Tryd.f14) [1, 0, 1]), .code (sub (Eng.body Tryd.f14) [1, 1])]) (e' := [(1, .pointer (some ⟨B, 0, none⟩)), (16, .bool false)]) (L' := [(B, .cells #[.int .i64 mk, .int .i64 mp, .int .i64 mq, .int .i64 mt, .int .i64 mb, .int .i64 mv, .string md] 23)]) ?_ (by kernel_rfl)
        refine AtE.run 1 (fun W => by kernel_rfl) ?_
        refine AtE.load 0 2 (T := 3) (v := .int .i64 mq) (by kernel_rfl) ?_
        refine AtE.run 3 (fun W => by kernel_rfl) ?_
        refine AtE.splitP 20 (p := (4611686018427387903 : Int) < mq) (by kernel_rfl) (fun h4' => ?_) (fun h4' => ?_)
        · replace H := H.1 h4'
          refine AtE.run 5 (fun W => by kernel_rfl) ?_
          exact AtE.ret Tryd.func14 (by kernel_rfl) H
        · replace H := H.2 h4'
          refine AtE.run 6 (fun W => by kernel_rfl) ?_
          refine AtE.load 0 3 (T := 3) (v := .int .i64 mt) (by kernel_rfl) ?_
          refine AtE.run 2 (fun W => by kernel_rfl) ?_
          refine AtE.splitP 24 (p := mt < (1 : Int)) (by kernel_rfl) (fun h5' => ?_) (fun h5' => ?_)
          · replace H := H.1 h5'
            refine AtE.run 22 (fun W => by kernel_rfl) ?_
            exact AtE.ret Tryd.func14 (by kernel_rfl) H
          · replace H := H.2 h5'
            refine AtE.run 1 (fun W => by kernel_rfl) ?_
            refine AtE.load 0 3 (T := 3) (v := .int .i64 mt) (by kernel_rfl) ?_
            refine AtE.run 3 (fun W => by kernel_rfl) ?_
            refine AtE.splitP 29 (p := (64 : Int) < mt) (by kernel_rfl) (fun h6' => ?_) (fun h6' => ?_)
            · replace H := H.1 h6'
              refine AtE.run 17 (fun W => by kernel_rfl) ?_
              exact AtE.ret Tryd.func14 (by kernel_rfl) H
            · replace H := H.2 h6'
              refine AtE.run 1 (fun W => by kernel_rfl) ?_
              refine AtE.load 0 4 (T := 3) (v := .int .i64 mb) (by kernel_rfl) ?_
              refine AtE.norm (k' := [.inRegion (regOps [.code (sub (Eng.body Tryd.f14) [1, 1, 0, 0])]) [11, 12, 13, 14, 15, 16, 17, 18, 19], .code (sub (Eng.body Tryd.f14) [1, 1, 0, 1]), .code (sub (Eng.body Tryd.f14) [1, 1, 1])]) (e' := [(1, .pointer (some ⟨B, 0, none⟩)), (29, .bool false), (31, .int .i64 mb)]) (L' := [(B, .cells #[.int .i64 mk, .int .i64 mp, .int .i64 mq, .int .i64 mt, .int .i64 mb, .int .i64 mv, .string md] 23)]) ?_ (by kernel_rfl)
              refine AtE.inl 26 ⟨[.int .i64 mb]⟩ (fun W => by kernel_rfl) (by kernel_rfl) (fun W hm => AtE.calls (nt := 9) Tryd.func26 (by kernel_rfl) hm ?_)
              refine AtE.run 9 (fun W => by kernel_rfl) ?_
              refine AtE.splitP 5 (p := (0 : Int) ≤ mb) (by kernel_rfl) (fun h7' => ?_) (fun h7' => ?_)
              · replace H := H.1 h7'
                refine AtE.run 5 (fun W => by kernel_rfl) ?_
                refine AtE.retK (v := (.bool (decide (mb ≤ (4294967295 : Int))))) Tryd.func26 (by kernel_rfl) ?_
                refine AtE.run 3 (fun W => by kernel_rfl) ?_
                refine AtE.splitN 35 (p := mb ≤ (4294967295 : Int)) (by kernel_rfl) (fun h8' => ?_) (fun h8' => ?_)
                · replace H := H.1 h8'
                  refine AtE.run 11 (fun W => by kernel_rfl) ?_
                  exact AtE.ret Tryd.func14 (by kernel_rfl) H
                · replace H := H.2 h8'
                  refine AtE.run 1 (fun W => by kernel_rfl) ?_
                  refine AtE.load 0 5 (T := 3) (v := .int .i64 mv) (by kernel_rfl) ?_
                  refine AtE.norm (k' := [.inRegion (regOps [.code (sub (Eng.body Tryd.f14) [1, 1, 0, 0])]) [17, 18, 19], .code (sub (Eng.body Tryd.f14) [1, 1, 0, 1]), .code (sub (Eng.body Tryd.f14) [1, 1, 1])]) (e' := [(1, .pointer (some ⟨B, 0, none⟩)), (35, .bool false), (37, .int .i64 mv)]) (L' := [(B, .cells #[.int .i64 mk, .int .i64 mp, .int .i64 mq, .int .i64 mt, .int .i64 mb, .int .i64 mv, .string md] 23)]) ?_ (by kernel_rfl)
                  refine AtE.inl 26 ⟨[.int .i64 mv]⟩ (fun W => by kernel_rfl) (by kernel_rfl) (fun W hm => AtE.calls (nt := 9) Tryd.func26 (by kernel_rfl) hm ?_)
                  refine AtE.run 9 (fun W => by kernel_rfl) ?_
                  refine AtE.splitP 5 (p := (0 : Int) ≤ mv) (by kernel_rfl) (fun h9' => ?_) (fun h9' => ?_)
                  · replace H := H.1 h9'
                    refine AtE.run 5 (fun W => by kernel_rfl) ?_
                    refine AtE.retK (v := (.bool (decide (mv ≤ (4294967295 : Int))))) Tryd.func26 (by kernel_rfl) ?_
                    refine AtE.run 3 (fun W => by kernel_rfl) ?_
                    refine AtE.splitN 40 (p := mv ≤ (4294967295 : Int)) (by kernel_rfl) (fun h10' => ?_) (fun h10' => ?_)
                    · replace H := H.1 h10'
                      refine AtE.run 5 (fun W => by kernel_rfl) ?_
                      exact AtE.ret Tryd.func14 (by kernel_rfl) H
                    · replace H := H.2 h10'
                      refine AtE.run 6 (fun W => by kernel_rfl) ?_
                      refine AtE.load 0 0 (T := 3) (v := .int .i64 mk) (by kernel_rfl) ?_
                      refine AtE.run 7 (fun W => by kernel_rfl) ?_
                      refine AtE.splitP 43 (p := mk = (1 : Int)) (by kernel_rfl) (fun h11' => ?_) (fun h11' => ?_)
                      · replace H := H.1 h11'
                        refine AtE.run 4 (fun W => by kernel_rfl) ?_
                        refine AtE.load 0 6 (T := 9) (v := .string md) (by kernel_rfl) ?_
                        refine AtE.run 4 (fun W => by kernel_rfl) ?_
                        exact AtE.ret Tryd.func14 (by kernel_rfl) H
                      · replace H := H.2 h11'
                        refine AtE.run 6 (fun W => by kernel_rfl) ?_
                        refine AtE.splitP 49 (p := mk = (2 : Int)) (by kernel_rfl) (fun h12' => ?_) (fun h12' => ?_)
                        · replace H := H.1 h12'
                          refine AtE.run 4 (fun W => by kernel_rfl) ?_
                          refine AtE.load 0 4 (T := 3) (v := .int .i64 mb) (by kernel_rfl) ?_
                          refine AtE.norm (k' := [.inRegion (regOps [.code (sub (Eng.body Tryd.f14) [1, 1, 1, 0, 1, 0, 1, 1, 1, 0, 0])]) [2, 3, 4, 5, 6, 7, 8, 9, 10, 11, 12, 13], .code (sub (Eng.body Tryd.f14) [1, 1, 1, 0, 1, 0, 1, 1, 1, 0, 1]), .inBlock 0, .code (sub (Eng.body Tryd.f14) [1, 1, 1, 1])]) (e' := [(1, .pointer (some ⟨B, 0, none⟩)), (52, .int .i64 mb)]) (L' := [(B, .cells #[.int .i64 mk, .int .i64 mp, .int .i64 mq, .int .i64 mt, .int .i64 mb, .int .i64 mv, .string md] 23)]) ?_ (by kernel_rfl)
                          refine AtE.run 2 (fun W => by kernel_rfl) ?_
                          refine AtE.splitP 54 (p := mb = (0 : Int)) (by kernel_rfl) (fun h13' => ?_) (fun h13' => ?_)
                          · replace H := H.1 h13'
                            refine AtE.run 1 (fun W => by kernel_rfl) ?_
                            refine AtE.load 0 5 (T := 3) (v := .int .i64 mv) (by kernel_rfl) ?_
                            refine AtE.run 3 (fun W => by kernel_rfl) ?_
                            refine AtE.splitP 59 (p := mv = (0 : Int)) (by kernel_rfl) (fun h14' => ?_) (fun h14' => ?_)
                            · replace H := H.1 h14'
                              refine AtE.run 1 (fun W => by kernel_rfl) ?_
                              refine AtE.load 0 6 (T := 9) (v := .string md) (by kernel_rfl) ?_
                              refine AtE.run 4 (fun W => by kernel_rfl) ?_
                              exact AtE.ret Tryd.func14 (by kernel_rfl) H
                            · replace H := H.2 h14'
                              refine AtE.run 6 (fun W => by kernel_rfl) ?_
                              exact AtE.ret Tryd.func14 (by kernel_rfl) H
                          · replace H := H.2 h13'
                            refine AtE.run 11 (fun W => by kernel_rfl) ?_
                            exact AtE.ret Tryd.func14 (by kernel_rfl) H
                        · replace H := H.2 h12'
                          refine AtE.run 6 (fun W => by kernel_rfl) ?_
                          refine AtE.splitP 64 (p := mk = (3 : Int)) (by kernel_rfl) (fun h15' => ?_) (fun h15' => ?_)
                          · replace H := H.1 h15'
                            refine AtE.norm (k' := [.code (sub (Eng.body Tryd.f14) [1, 1, 1, 0, 1, 0, 1, 1, 1, 1, 1]), .inBlock 0, .code (sub (Eng.body Tryd.f14) [1, 1, 1, 1])]) (e' := [(1, .pointer (some ⟨B, 0, none⟩)), (42, .int .i64 mk), (64, .bool true)]) (L' := [(B, .cells #[.int .i64 mk, .int .i64 mp, .int .i64 mq, .int .i64 mt, .int .i64 mb, .int .i64 mv, .string md] 23)]) ?_ (by kernel_rfl)
                            refine AtE.run 4 (fun W => by kernel_rfl) ?_
                            refine AtE.load 0 4 (T := 3) (v := .int .i64 mb) (by kernel_rfl) ?_
                            refine AtE.run 2 (fun W => by kernel_rfl) ?_
                            refine AtE.splitP 69 (p := mb = (0 : Int)) (by kernel_rfl) (fun h16' => ?_) (fun h16' => ?_)
                            · replace H := H.1 h16'
                              refine AtE.run 1 (fun W => by kernel_rfl) ?_
                              refine AtE.load 0 6 (T := 9) (v := .string md) (by kernel_rfl) ?_
                              refine AtE.run 4 (fun W => by kernel_rfl) ?_
                              exact AtE.ret Tryd.func14 (by kernel_rfl) H
                            · replace H := H.2 h16'
                              refine AtE.run 6 (fun W => by kernel_rfl) ?_
                              exact AtE.ret Tryd.func14 (by kernel_rfl) H
                          · replace H := H.2 h15'
                            refine AtE.norm (k' := [.code (sub (Eng.body Tryd.f14) [1, 1, 1, 0, 1, 0, 1, 1, 1, 1, 1]), .inBlock 0, .code (sub (Eng.body Tryd.f14) [1, 1, 1, 1])]) (e' := [(1, .pointer (some ⟨B, 0, none⟩)), (42, .int .i64 mk), (64, .bool false)]) (L' := [(B, .cells #[.int .i64 mk, .int .i64 mp, .int .i64 mq, .int .i64 mt, .int .i64 mb, .int .i64 mv, .string md] 23)]) ?_ (by kernel_rfl)
                            refine AtE.run 6 (fun W => by kernel_rfl) ?_
                            refine AtE.splitP 74 (p := mk = (4 : Int)) (by kernel_rfl) (fun h17' => ?_) (fun h17' => ?_)
                            · replace H := H.1 h17'
                              refine AtE.run 4 (fun W => by kernel_rfl) ?_
                              refine AtE.load 0 5 (T := 3) (v := .int .i64 mv) (by kernel_rfl) ?_
                              refine AtE.run 2 (fun W => by kernel_rfl) ?_
                              refine AtE.splitP 79 (p := mv = (0 : Int)) (by kernel_rfl) (fun h18' => ?_) (fun h18' => ?_)
                              · replace H := H.1 h18'
                                refine AtE.run 1 (fun W => by kernel_rfl) ?_
                                refine AtE.load 0 6 (T := 9) (v := .string md) (by kernel_rfl) ?_
                                refine AtE.run 4 (fun W => by kernel_rfl) ?_
                                exact AtE.ret Tryd.func14 (by kernel_rfl) H
                              · replace H := H.2 h18'
                                refine AtE.run 6 (fun W => by kernel_rfl) ?_
                                exact AtE.ret Tryd.func14 (by kernel_rfl) H
                            · replace H := H.2 h17'
                              refine AtE.run 7 (fun W => by kernel_rfl) ?_
                              exact AtE.ret Tryd.func14 (by kernel_rfl) H
                  · replace H := H.2 h9'
                    refine AtE.run 5 (fun W => by kernel_rfl) ?_
                    refine AtE.retK (v := (.bool false)) Tryd.func26 (by kernel_rfl) ?_
                    refine AtE.run 8 (fun W => by kernel_rfl) ?_
                    exact AtE.ret Tryd.func14 (by kernel_rfl) H
              · replace H := H.2 h7'
                refine AtE.run 5 (fun W => by kernel_rfl) ?_
                refine AtE.retK (v := (.bool false)) Tryd.func26 (by kernel_rfl) ?_
                refine AtE.run 14 (fun W => by kernel_rfl) ?_
                exact AtE.ret Tryd.func14 (by kernel_rfl) H

theorem qValid_vc (mk : Int) (mp : Int) (mq : Int) (mt : Int) (mb : Int) (mv : Int) (md : ByteArray) {R : Ending → World → Prop} {w0 W : World} (hm : Mem [] [] w0 W)
    (H :
      ∀ B : Nat,
      ((mp < (1 : Int)) →
        Fin R [(B, .cells #[.int .i64 mk, .int .i64 mp, .int .i64 mq, .int .i64 mt, .int .i64 mb, .int .i64 mv, .string md] 23)] [] w0 (.bool false)) ∧
       ((¬ (mp < (1 : Int))) →
        (((8 : Int) < mp) →
          Fin R [(B, .cells #[.int .i64 mk, .int .i64 mp, .int .i64 mq, .int .i64 mt, .int .i64 mb, .int .i64 mv, .string md] 23)] [] w0 (.bool false)) ∧
         ((¬ ((8 : Int) < mp)) →
          ((mq < (1 : Int)) →
            Fin R [(B, .cells #[.int .i64 mk, .int .i64 mp, .int .i64 mq, .int .i64 mt, .int .i64 mb, .int .i64 mv, .string md] 23)] [] w0 (.bool false)) ∧
           ((¬ (mq < (1 : Int))) →
            (((4611686018427387903 : Int) < mq) →
              Fin R [(B, .cells #[.int .i64 mk, .int .i64 mp, .int .i64 mq, .int .i64 mt, .int .i64 mb, .int .i64 mv, .string md] 23)] [] w0 (.bool false)) ∧
             ((¬ ((4611686018427387903 : Int) < mq)) →
              ((mt < (1 : Int)) →
                Fin R [(B, .cells #[.int .i64 mk, .int .i64 mp, .int .i64 mq, .int .i64 mt, .int .i64 mb, .int .i64 mv, .string md] 23)] [] w0 (.bool false)) ∧
               ((¬ (mt < (1 : Int))) →
                (((64 : Int) < mt) →
                  Fin R [(B, .cells #[.int .i64 mk, .int .i64 mp, .int .i64 mq, .int .i64 mt, .int .i64 mb, .int .i64 mv, .string md] 23)] [] w0 (.bool false)) ∧
                 ((¬ ((64 : Int) < mt)) →
                  ((mb < (0 : Int)) →
                    Fin R [(B, .cells #[.int .i64 mk, .int .i64 mp, .int .i64 mq, .int .i64 mt, .int .i64 mb, .int .i64 mv, .string md] 23)] [] w0 (.bool false)) ∧
                   ((¬ (mb < (0 : Int))) →
                    (((4294967295 : Int) < mb) →
                      Fin R [(B, .cells #[.int .i64 mk, .int .i64 mp, .int .i64 mq, .int .i64 mt, .int .i64 mb, .int .i64 mv, .string md] 23)] [] w0 (.bool false)) ∧
                     ((¬ ((4294967295 : Int) < mb)) →
                      ((mv < (0 : Int)) →
                        Fin R [(B, .cells #[.int .i64 mk, .int .i64 mp, .int .i64 mq, .int .i64 mt, .int .i64 mb, .int .i64 mv, .string md] 23)] [] w0 (.bool false)) ∧
                       ((¬ (mv < (0 : Int))) →
                        (((4294967295 : Int) < mv) →
                          Fin R [(B, .cells #[.int .i64 mk, .int .i64 mp, .int .i64 mq, .int .i64 mt, .int .i64 mb, .int .i64 mv, .string md] 23)] [] w0 (.bool false)) ∧
                         ((¬ ((4294967295 : Int) < mv)) →
                          ((mk = (1 : Int)) →
                            Fin R [(B, .cells #[.int .i64 mk, .int .i64 mp, .int .i64 mq, .int .i64 mt, .int .i64 mb, .int .i64 mv, .string md] 23)] [] w0 (.bool (decide ((md.size : Int) ≤ (16384 : Int))))) ∧
                           ((¬ (mk = (1 : Int))) →
                            ((mk = (2 : Int)) →
                              ((mb = (0 : Int)) →
                                ((mv = (0 : Int)) →
                                  Fin R [(B, .cells #[.int .i64 mk, .int .i64 mp, .int .i64 mq, .int .i64 mt, .int .i64 mb, .int .i64 mv, .string md] 23)] [] w0 (.bool (md.toList == (⟨#[]⟩ : ByteArray).toList))) ∧
                                 ((¬ (mv = (0 : Int))) →
                                  Fin R [(B, .cells #[.int .i64 mk, .int .i64 mp, .int .i64 mq, .int .i64 mt, .int .i64 mb, .int .i64 mv, .string md] 23)] [] w0 (.bool false))) ∧
                               ((¬ (mb = (0 : Int))) →
                                Fin R [(B, .cells #[.int .i64 mk, .int .i64 mp, .int .i64 mq, .int .i64 mt, .int .i64 mb, .int .i64 mv, .string md] 23)] [] w0 (.bool false))) ∧
                             ((¬ (mk = (2 : Int))) →
                              ((mk = (3 : Int)) →
                                ((mb = (0 : Int)) →
                                  Fin R [(B, .cells #[.int .i64 mk, .int .i64 mp, .int .i64 mq, .int .i64 mt, .int .i64 mb, .int .i64 mv, .string md] 23)] [] w0 (.bool (md.toList == (⟨#[]⟩ : ByteArray).toList))) ∧
                                 ((¬ (mb = (0 : Int))) →
                                  Fin R [(B, .cells #[.int .i64 mk, .int .i64 mp, .int .i64 mq, .int .i64 mt, .int .i64 mb, .int .i64 mv, .string md] 23)] [] w0 (.bool false))) ∧
                               ((¬ (mk = (3 : Int))) →
                                ((mk = (4 : Int)) →
                                  ((mv = (0 : Int)) →
                                    Fin R [(B, .cells #[.int .i64 mk, .int .i64 mp, .int .i64 mq, .int .i64 mt, .int .i64 mb, .int .i64 mv, .string md] 23)] [] w0 (.bool (md.toList == (⟨#[]⟩ : ByteArray).toList))) ∧
                                   ((¬ (mv = (0 : Int))) →
                                    Fin R [(B, .cells #[.int .i64 mk, .int .i64 mp, .int .i64 mq, .int .i64 mt, .int .i64 mb, .int .i64 mv, .string md] 23)] [] w0 (.bool false))) ∧
                                 ((¬ (mk = (4 : Int))) →
                                  Fin R [(B, .cells #[.int .i64 mk, .int .i64 mp, .int .i64 mq, .int .i64 mt, .int .i64 mb, .int .i64 mv, .string md] 23)] [] w0 (.bool false)))))))))))))))) :
    Calls Tryd.prog 15 ⟨[.agg #[.int .i64 mk, .int .i64 mp, .int .i64 mq, .int .i64 mt, .int .i64 mb, .int .i64 mv, .string md]]⟩ W R := by
  refine AtE.calls (nt := 94) Tryd.func15 (by kernel_rfl) hm ?_
  refine AtE.run 2 (fun W => by kernel_rfl) ?_
  refine AtE.new (fun B => .pointer (some ⟨B, 0, none⟩)) (.cells #[.int .i64 mk, .int .i64 mp, .int .i64 mq, .int .i64 mt, .int .i64 mb, .int .i64 mv, .string md] 23) (fun W => by kernel_rfl) (by kernel_rfl) (fun B => ?_)
  replace H := H B
  refine AtE.run 6 (fun W => by kernel_rfl) ?_
  refine AtE.load 0 1 (T := 3) (v := .int .i64 mp) (by kernel_rfl) ?_
  refine AtE.run 2 (fun W => by kernel_rfl) ?_
  refine AtE.splitP 6 (p := mp < (1 : Int)) (by kernel_rfl) (fun h1' => ?_) (fun h1' => ?_)
  · replace H := H.1 h1'
    refine AtE.run 50 (fun W => by kernel_rfl) ?_
    exact AtE.ret Tryd.func15 (by kernel_rfl) H
  · replace H := H.2 h1'
    refine AtE.run 1 (fun W => by kernel_rfl) ?_
    refine AtE.load 0 1 (T := 3) (v := .int .i64 mp) (by kernel_rfl) ?_
    refine AtE.run 3 (fun W => by kernel_rfl) ?_
    refine AtE.splitP 11 (p := (8 : Int) < mp) (by kernel_rfl) (fun h2' => ?_) (fun h2' => ?_)
    · replace H := H.1 h2'
      refine AtE.run 45 (fun W => by kernel_rfl) ?_
      exact AtE.ret Tryd.func15 (by kernel_rfl) H
    · replace H := H.2 h2'
      refine AtE.run 1 (fun W => by kernel_rfl) ?_
      refine AtE.load 0 2 (T := 3) (v := .int .i64 mq) (by kernel_rfl) ?_
      refine AtE.run 3 (fun W => by kernel_rfl) ?_
      refine AtE.splitP 16 (p := mq < (1 : Int)) (by kernel_rfl) (fun h3' => ?_) (fun h3' => ?_)
      · replace H := H.1 h3'
        refine AtE.norm (k' := [.inRegion (regOps [.code (sub (Eng.body Tryd.f15) [1, 0, 0])]) [14, 15, 16, 17, 18, 19, 20, 21, 22, 23, 24, 25, 26, 27, 28, 29, 30, 31, 32, 33, 34, 35, 36, 37, 38, 39, 40, 41, 42, 43, 44, 45, 46, 47], .code (sub (Eng.body Tryd.f15) [1, 0, 1]), .code (sub (Eng.body Tryd.f15) [1, 1])]) (e' := [(1, .pointer (some ⟨B, 0, none⟩)), (16, .bool true)]) (L' := [(B, .cells #[.int .i64 mk, .int .i64 mp, .int .i64 mq, .int .i64 mt, .int .i64 mb, .int .i64 mv, .string md] 23)]) ?_ (by kernel_rfl)
        refine AtE.run 40 (fun W => by kernel_rfl) ?_
        exact AtE.ret Tryd.func15 (by kernel_rfl) H
      · replace H := H.2 h3'
        refine AtE.norm (k' := [.inRegion (regOps [.code (sub (Eng.body Tryd.f15) [1, 0, 0])]) [14, 15, 16, 17, 18, 19, 20, 21, 22, 23, 24, 25, 26, 27, 28, 29, 30, 31, 32, 33, 34, 35, 36, 37, 38, 39, 40, 41, 42, 43, 44, 45, 46, 47], .code (sub (Eng.body Tryd.f15) [1, 0, 1]), .code (sub (Eng.body Tryd.f15) [1, 1])]) (e' := [(1, .pointer (some ⟨B, 0, none⟩)), (16, .bool false)]) (L' := [(B, .cells #[.int .i64 mk, .int .i64 mp, .int .i64 mq, .int .i64 mt, .int .i64 mb, .int .i64 mv, .string md] 23)]) ?_ (by kernel_rfl)
        refine AtE.run 1 (fun W => by kernel_rfl) ?_
        refine AtE.load 0 2 (T := 3) (v := .int .i64 mq) (by kernel_rfl) ?_
        refine AtE.run 3 (fun W => by kernel_rfl) ?_
        refine AtE.splitP 21 (p := (4611686018427387903 : Int) < mq) (by kernel_rfl) (fun h4' => ?_) (fun h4' => ?_)
        · replace H := H.1 h4'
          refine AtE.run 35 (fun W => by kernel_rfl) ?_
          exact AtE.ret Tryd.func15 (by kernel_rfl) H
        · replace H := H.2 h4'
          refine AtE.run 1 (fun W => by kernel_rfl) ?_
          refine AtE.load 0 3 (T := 3) (v := .int .i64 mt) (by kernel_rfl) ?_
          refine AtE.run 3 (fun W => by kernel_rfl) ?_
          refine AtE.splitP 26 (p := mt < (1 : Int)) (by kernel_rfl) (fun h5' => ?_) (fun h5' => ?_)
          · replace H := H.1 h5'
            refine AtE.run 30 (fun W => by kernel_rfl) ?_
            exact AtE.ret Tryd.func15 (by kernel_rfl) H
          · replace H := H.2 h5'
            refine AtE.run 1 (fun W => by kernel_rfl) ?_
            refine AtE.load 0 3 (T := 3) (v := .int .i64 mt) (by kernel_rfl) ?_
            refine AtE.run 3 (fun W => by kernel_rfl) ?_
            refine AtE.splitP 31 (p := (64 : Int) < mt) (by kernel_rfl) (fun h6' => ?_) (fun h6' => ?_)
            · replace H := H.1 h6'
              refine AtE.run 25 (fun W => by kernel_rfl) ?_
              exact AtE.ret Tryd.func15 (by kernel_rfl) H
            · replace H := H.2 h6'
              refine AtE.run 1 (fun W => by kernel_rfl) ?_
              refine AtE.load 0 4 (T := 3) (v := .int .i64 mb) (by kernel_rfl) ?_
              refine AtE.norm (k' := [.inRegion (regOps [.code (sub (Eng.body Tryd.f15) [1, 0, 0])]) [31, 32, 33, 34, 35, 36, 37, 38, 39, 40, 41, 42, 43, 44, 45, 46, 47], .code (sub (Eng.body Tryd.f15) [1, 0, 1]), .code (sub (Eng.body Tryd.f15) [1, 1])]) (e' := [(1, .pointer (some ⟨B, 0, none⟩)), (31, .bool false), (33, .int .i64 mb)]) (L' := [(B, .cells #[.int .i64 mk, .int .i64 mp, .int .i64 mq, .int .i64 mt, .int .i64 mb, .int .i64 mv, .string md] 23)]) ?_ (by kernel_rfl)
              refine AtE.run 3 (fun W => by kernel_rfl) ?_
              refine AtE.splitP 36 (p := mb < (0 : Int)) (by kernel_rfl) (fun h7' => ?_) (fun h7' => ?_)
              · replace H := H.1 h7'
                refine AtE.run 20 (fun W => by kernel_rfl) ?_
                exact AtE.ret Tryd.func15 (by kernel_rfl) H
              · replace H := H.2 h7'
                refine AtE.run 1 (fun W => by kernel_rfl) ?_
                refine AtE.load 0 4 (T := 3) (v := .int .i64 mb) (by kernel_rfl) ?_
                refine AtE.run 3 (fun W => by kernel_rfl) ?_
                refine AtE.splitP 41 (p := (4294967295 : Int) < mb) (by kernel_rfl) (fun h8' => ?_) (fun h8' => ?_)
                · replace H := H.1 h8'
                  refine AtE.run 15 (fun W => by kernel_rfl) ?_
                  exact AtE.ret Tryd.func15 (by kernel_rfl) H
                · replace H := H.2 h8'
                  refine AtE.run 1 (fun W => by kernel_rfl) ?_
                  refine AtE.load 0 5 (T := 3) (v := .int .i64 mv) (by kernel_rfl) ?_
                  refine AtE.run 3 (fun W => by kernel_rfl) ?_
                  refine AtE.splitP 46 (p := mv < (0 : Int)) (by kernel_rfl) (fun h9' => ?_) (fun h9' => ?_)
                  · replace H := H.1 h9'
                    refine AtE.run 10 (fun W => by kernel_rfl) ?_
                    exact AtE.ret Tryd.func15 (by kernel_rfl) H
                  · replace H := H.2 h9'
                    refine AtE.run 1 (fun W => by kernel_rfl) ?_
                    refine AtE.load 0 5 (T := 3) (v := .int .i64 mv) (by kernel_rfl) ?_
                    refine AtE.run 3 (fun W => by kernel_rfl) ?_
                    refine AtE.splitP 50 (p := (4294967295 : Int) < mv) (by kernel_rfl) (fun h10' => ?_) (fun h10' => ?_)
                    · replace H := H.1 h10'
                      refine AtE.norm (k' := [.code (sub (Eng.body Tryd.f15) [1, 0, 1]), .code (sub (Eng.body Tryd.f15) [1, 1])]) (e' := [(1, .pointer (some ⟨B, 0, none⟩)), (50, .bool true)]) (L' := [(B, .cells #[.int .i64 mk, .int .i64 mp, .int .i64 mq, .int .i64 mt, .int .i64 mb, .int .i64 mv, .string md] 23)]) ?_ (by kernel_rfl)
                      refine AtE.run 5 (fun W => by kernel_rfl) ?_
                      exact AtE.ret Tryd.func15 (by kernel_rfl) H
                    · replace H := H.2 h10'
                      refine AtE.norm (k' := [.code (sub (Eng.body Tryd.f15) [1, 0, 1]), .code (sub (Eng.body Tryd.f15) [1, 1])]) (e' := [(1, .pointer (some ⟨B, 0, none⟩)), (50, .bool false)]) (L' := [(B, .cells #[.int .i64 mk, .int .i64 mp, .int .i64 mq, .int .i64 mt, .int .i64 mb, .int .i64 mv, .string md] 23)]) ?_ (by kernel_rfl)
                      refine AtE.run 6 (fun W => by kernel_rfl) ?_
                      refine AtE.load 0 0 (T := 3) (v := .int .i64 mk) (by kernel_rfl) ?_
                      refine AtE.run 7 (fun W => by kernel_rfl) ?_
                      refine AtE.splitP 53 (p := mk = (1 : Int)) (by kernel_rfl) (fun h11' => ?_) (fun h11' => ?_)
                      · replace H := H.1 h11'
                        refine AtE.run 4 (fun W => by kernel_rfl) ?_
                        refine AtE.load 0 6 (T := 9) (v := .string md) (by kernel_rfl) ?_
                        refine AtE.run 4 (fun W => by kernel_rfl) ?_
                        exact AtE.ret Tryd.func15 (by kernel_rfl) H
                      · replace H := H.2 h11'
                        refine AtE.run 6 (fun W => by kernel_rfl) ?_
                        refine AtE.splitP 59 (p := mk = (2 : Int)) (by kernel_rfl) (fun h12' => ?_) (fun h12' => ?_)
                        · replace H := H.1 h12'
                          refine AtE.run 4 (fun W => by kernel_rfl) ?_
                          refine AtE.load 0 4 (T := 3) (v := .int .i64 mb) (by kernel_rfl) ?_
                          refine AtE.run 2 (fun W => by kernel_rfl) ?_
                          refine AtE.splitP 64 (p := mb = (0 : Int)) (by kernel_rfl) (fun h13' => ?_) (fun h13' => ?_)
                          · replace H := H.1 h13'
                            refine AtE.run 1 (fun W => by kernel_rfl) ?_
                            refine AtE.load 0 5 (T := 3) (v := .int .i64 mv) (by kernel_rfl) ?_
                            refine AtE.run 3 (fun W => by kernel_rfl) ?_
                            refine AtE.splitP 69 (p := mv = (0 : Int)) (by kernel_rfl) (fun h14' => ?_) (fun h14' => ?_)
                            · replace H := H.1 h14'
                              refine AtE.norm (k' := [.inRegion (regOps [.code (sub (Eng.body Tryd.f15) [1, 1, 0, 1, 0, 1, 1, 1, 0, 0])]) [9, 10, 11, 12, 13], .code (sub (Eng.body Tryd.f15) [1, 1, 0, 1, 0, 1, 1, 1, 0, 1]), .inBlock 0, .code (sub (Eng.body Tryd.f15) [1, 1, 1])]) (e' := [(1, .pointer (some ⟨B, 0, none⟩)), (69, .bool true)]) (L' := [(B, .cells #[.int .i64 mk, .int .i64 mp, .int .i64 mq, .int .i64 mt, .int .i64 mb, .int .i64 mv, .string md] 23)]) ?_ (by kernel_rfl)
                              refine AtE.run 1 (fun W => by kernel_rfl) ?_
                              refine AtE.load 0 6 (T := 9) (v := .string md) (by kernel_rfl) ?_
                              refine AtE.run 4 (fun W => by kernel_rfl) ?_
                              exact AtE.ret Tryd.func15 (by kernel_rfl) H
                            · replace H := H.2 h14'
                              refine AtE.norm (k' := [.inRegion (regOps [.code (sub (Eng.body Tryd.f15) [1, 1, 0, 1, 0, 1, 1, 1, 0, 0])]) [9, 10, 11, 12, 13], .code (sub (Eng.body Tryd.f15) [1, 1, 0, 1, 0, 1, 1, 1, 0, 1]), .inBlock 0, .code (sub (Eng.body Tryd.f15) [1, 1, 1])]) (e' := [(1, .pointer (some ⟨B, 0, none⟩)), (69, .bool false)]) (L' := [(B, .cells #[.int .i64 mk, .int .i64 mp, .int .i64 mq, .int .i64 mt, .int .i64 mb, .int .i64 mv, .string md] 23)]) ?_ (by kernel_rfl)
                              refine AtE.run 6 (fun W => by kernel_rfl) ?_
                              exact AtE.ret Tryd.func15 (by kernel_rfl) H
                          · replace H := H.2 h13'
                            refine AtE.run 11 (fun W => by kernel_rfl) ?_
                            exact AtE.ret Tryd.func15 (by kernel_rfl) H
                        · replace H := H.2 h12'
                          refine AtE.run 6 (fun W => by kernel_rfl) ?_
                          refine AtE.splitP 74 (p := mk = (3 : Int)) (by kernel_rfl) (fun h15' => ?_) (fun h15' => ?_)
                          · replace H := H.1 h15'
                            refine AtE.run 4 (fun W => by kernel_rfl) ?_
                            refine AtE.load 0 4 (T := 3) (v := .int .i64 mb) (by kernel_rfl) ?_
                            refine AtE.run 2 (fun W => by kernel_rfl) ?_
                            refine AtE.splitP 79 (p := mb = (0 : Int)) (by kernel_rfl) (fun h16' => ?_) (fun h16' => ?_)
                            · replace H := H.1 h16'
                              refine AtE.run 1 (fun W => by kernel_rfl) ?_
                              refine AtE.load 0 6 (T := 9) (v := .string md) (by kernel_rfl) ?_
                              refine AtE.norm (k' := [.inRegion (regOps [.code (sub (Eng.body Tryd.f15) [1, 1, 0, 1, 0, 1, 1, 1, 1, 1, 0, 0])]) [6, 7, 8], .code (sub (Eng.body Tryd.f15) [1, 1, 0, 1, 0, 1, 1, 1, 1, 1, 0, 1]), .inBlock 0, .code (sub (Eng.body Tryd.f15) [1, 1, 1])]) (e' := [(79, .bool true), (81, .string md)]) (L' := [(B, .cells #[.int .i64 mk, .int .i64 mp, .int .i64 mq, .int .i64 mt, .int .i64 mb, .int .i64 mv, .string md] 23)]) ?_ (by kernel_rfl)
                              refine AtE.run 4 (fun W => by kernel_rfl) ?_
                              exact AtE.ret Tryd.func15 (by kernel_rfl) H
                            · replace H := H.2 h16'
                              refine AtE.run 6 (fun W => by kernel_rfl) ?_
                              exact AtE.ret Tryd.func15 (by kernel_rfl) H
                          · replace H := H.2 h15'
                            refine AtE.run 6 (fun W => by kernel_rfl) ?_
                            refine AtE.splitP 84 (p := mk = (4 : Int)) (by kernel_rfl) (fun h17' => ?_) (fun h17' => ?_)
                            · replace H := H.1 h17'
                              refine AtE.run 4 (fun W => by kernel_rfl) ?_
                              refine AtE.load 0 5 (T := 3) (v := .int .i64 mv) (by kernel_rfl) ?_
                              refine AtE.run 2 (fun W => by kernel_rfl) ?_
                              refine AtE.splitP 89 (p := mv = (0 : Int)) (by kernel_rfl) (fun h18' => ?_) (fun h18' => ?_)
                              · replace H := H.1 h18'
                                refine AtE.norm (k' := [.inRegion (regOps [.code (sub (Eng.body Tryd.f15) [1, 1, 0, 1, 0, 1, 1, 1, 1, 1, 1, 1, 0, 0])]) [4, 5, 6, 7, 8], .code (sub (Eng.body Tryd.f15) [1, 1, 0, 1, 0, 1, 1, 1, 1, 1, 1, 1, 0, 1]), .inBlock 0, .code (sub (Eng.body Tryd.f15) [1, 1, 1])]) (e' := [(1, .pointer (some ⟨B, 0, none⟩)), (89, .bool true)]) (L' := [(B, .cells #[.int .i64 mk, .int .i64 mp, .int .i64 mq, .int .i64 mt, .int .i64 mb, .int .i64 mv, .string md] 23)]) ?_ (by kernel_rfl)
                                refine AtE.run 1 (fun W => by kernel_rfl) ?_
                                refine AtE.load 0 6 (T := 9) (v := .string md) (by kernel_rfl) ?_
                                refine AtE.run 4 (fun W => by kernel_rfl) ?_
                                exact AtE.ret Tryd.func15 (by kernel_rfl) H
                              · replace H := H.2 h18'
                                refine AtE.norm (k' := [.inRegion (regOps [.code (sub (Eng.body Tryd.f15) [1, 1, 0, 1, 0, 1, 1, 1, 1, 1, 1, 1, 0, 0])]) [4, 5, 6, 7, 8], .code (sub (Eng.body Tryd.f15) [1, 1, 0, 1, 0, 1, 1, 1, 1, 1, 1, 1, 0, 1]), .inBlock 0, .code (sub (Eng.body Tryd.f15) [1, 1, 1])]) (e' := [(1, .pointer (some ⟨B, 0, none⟩)), (89, .bool false)]) (L' := [(B, .cells #[.int .i64 mk, .int .i64 mp, .int .i64 mq, .int .i64 mt, .int .i64 mb, .int .i64 mv, .string md] 23)]) ?_ (by kernel_rfl)
                                refine AtE.run 6 (fun W => by kernel_rfl) ?_
                                exact AtE.ret Tryd.func15 (by kernel_rfl) H
                            · replace H := H.2 h17'
                              refine AtE.run 7 (fun W => by kernel_rfl) ?_
                              exact AtE.ret Tryd.func15 (by kernel_rfl) H

theorem short_vc (mk : Int) (mp : Int) (mq : Int) (mt : Int) (mb : Int) (mv : Int) (md : ByteArray) {R : Ending → World → Prop} {w0 W : World} (hm : Mem [] [] w0 W)
    (H :
      ∀ B : Nat,
      ∀ B1 : Nat,
      (0 ≤ (0 : Int) ∧ (0 : Int) ≤ (if (20000 : Int) < (md.size : Int) then (20000 : Int) else (md.size : Int)) ∧ (if (20000 : Int) < (md.size : Int) then (20000 : Int) else (md.size : Int)) ≤ md.size) ∧
      Fin R [(B, .cells #[.int .i64 mk, .int .i64 mp, .int .i64 mq, .int .i64 mt, .int .i64 mb, .int .i64 mv, .string (md.extract 0 (Int.toNat (if (20000 : Int) < (md.size : Int) then (20000 : Int) else (md.size : Int))))] 23), (B1, .cells #[.int .i64 mk, .int .i64 mp, .int .i64 mq, .int .i64 mt, .int .i64 mb, .int .i64 mv, .string (md.extract 0 (Int.toNat (if (20000 : Int) < (md.size : Int) then (20000 : Int) else (md.size : Int))))] 23)] [] w0 (.agg #[.int .i64 mk, .int .i64 mp, .int .i64 mq, .int .i64 mt, .int .i64 mb, .int .i64 mv, .string (md.extract 0 (Int.toNat (if (20000 : Int) < (md.size : Int) then (20000 : Int) else (md.size : Int))))])) :
    Calls Tryd.prog 11 ⟨[.agg #[.int .i64 mk, .int .i64 mp, .int .i64 mq, .int .i64 mt, .int .i64 mb, .int .i64 mv, .string md]]⟩ W R := by
  refine AtE.calls (nt := 12) Tryd.func11 (by kernel_rfl) hm ?_
  refine AtE.run 2 (fun W => by kernel_rfl) ?_
  refine AtE.new (fun B => .pointer (some ⟨B, 0, none⟩)) (.cells #[.int .i64 mk, .int .i64 mp, .int .i64 mq, .int .i64 mt, .int .i64 mb, .int .i64 mv, .string md] 23) (fun W => by kernel_rfl) (by kernel_rfl) (fun B => ?_)
  replace H := H B
  refine AtE.new (fun B => .pointer (some ⟨B, 0, none⟩)) (.cells #[.int .i64 (0 : Int), .int .i64 (0 : Int), .int .i64 (0 : Int), .int .i64 (0 : Int), .int .i64 (0 : Int), .int .i64 (0 : Int), .string (⟨#[]⟩)] 23) (fun W => by kernel_rfl) (by kernel_rfl) (fun B1 => ?_)
  replace H := H B1
  refine AtE.run 4 (fun W => by kernel_rfl) ?_
  refine AtE.load 0 6 (T := 9) (v := .string md) (by kernel_rfl) ?_
  refine AtE.run 1 (fun W => by kernel_rfl) ?_
  refine AtE.load 0 6 (T := 9) (v := .string md) (by kernel_rfl) ?_
  refine AtE.run 2 (fun W => by kernel_rfl) ?_
  refine AtE.sliceS (s := md) (lo := none) (hi := some (.int .i64 (if (20000 : Int) < (md.size : Int) then (20000 : Int) else (md.size : Int)))) (a := (0 : Int)) (b := (if (20000 : Int) < (md.size : Int) then (20000 : Int) else (md.size : Int))) (by kernel_rfl) (.inr ⟨rfl, rfl⟩) (.inl ⟨.i64, rfl⟩) H.1 ?_
  replace H := H.2
  refine AtE.run 1 (fun W => by kernel_rfl) ?_
  refine AtE.store 0 6 (T := 9) (v := .string (md.extract 0 (Int.toNat (if (20000 : Int) < (md.size : Int) then (20000 : Int) else (md.size : Int))))) (by kernel_rfl) ?_
  refine AtE.run 3 (fun W => by kernel_rfl) ?_
  refine AtE.load 0 0 (T := 23) (v := .agg #[.int .i64 mk, .int .i64 mp, .int .i64 mq, .int .i64 mt, .int .i64 mb, .int .i64 mv, .string (md.extract 0 (Int.toNat (if (20000 : Int) < (md.size : Int) then (20000 : Int) else (md.size : Int))))]) (by kernel_rfl) ?_
  refine AtE.norm (k' := [.inRegion (regOps [.code (sub (Eng.body Tryd.f11) [1, 1, 0])]) [1], .code (sub (Eng.body Tryd.f11) [1, 1, 1])]) (e' := [(2, .pointer (some ⟨B1, 0, none⟩)), (11, .agg #[.int .i64 mk, .int .i64 mp, .int .i64 mq, .int .i64 mt, .int .i64 mb, .int .i64 mv, .string (md.extract 0 (Int.toNat (if (20000 : Int) < (md.size : Int) then (20000 : Int) else (md.size : Int))))])]) (L' := [(B, .cells #[.int .i64 mk, .int .i64 mp, .int .i64 mq, .int .i64 mt, .int .i64 mb, .int .i64 mv, .string (md.extract 0 (Int.toNat (if (20000 : Int) < (md.size : Int) then (20000 : Int) else (md.size : Int))))] 23), (B1, .cells #[.int .i64 (0 : Int), .int .i64 (0 : Int), .int .i64 (0 : Int), .int .i64 (0 : Int), .int .i64 (0 : Int), .int .i64 (0 : Int), .string (⟨#[]⟩)] 23)]) ?_ (by kernel_rfl)
  refine AtE.store 1 0 (T := 23) (v := .agg #[.int .i64 mk, .int .i64 mp, .int .i64 mq, .int .i64 mt, .int .i64 mb, .int .i64 mv, .string (md.extract 0 (Int.toNat (if (20000 : Int) < (md.size : Int) then (20000 : Int) else (md.size : Int))))]) (by kernel_rfl) ?_
  refine AtE.run 1 (fun W => by kernel_rfl) ?_
  exact AtE.retC 1 0 (a := 2) (T := 23) (v := .agg #[.int .i64 mk, .int .i64 mp, .int .i64 mq, .int .i64 mt, .int .i64 mb, .int .i64 mv, .string (md.extract 0 (Int.toNat (if (20000 : Int) < (md.size : Int) then (20000 : Int) else (md.size : Int))))]) Tryd.func11 (by kernel_rfl) (by kernel_rfl) H

end Go.Eng
