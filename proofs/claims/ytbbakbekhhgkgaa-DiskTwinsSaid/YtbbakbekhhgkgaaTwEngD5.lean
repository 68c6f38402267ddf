/- Verification conditions of the functions, written by a program of the prover, checked here. -/
import Derived.Test.YtbbakbekhhgkgaaTwEngInl

import Derived.Test.YtbbakbekhhgkgaaTwEngFreeRules

import Derived.Test.YtbbakbekhhgkgaaChecked

namespace Go.Eng

open Go Go.RowKit Go.Proofs

set_option linter.unusedVariables false

set_option maxRecDepth 100000

def ReadsBack_c0 (B1 : Nat) (size2 : Int) (l1_p : Option Addr) (l1_l : Nat) (l1_c : Nat) (up : Bool) (d : Option Addr) (b_l : Nat) (b_c : Nat) (i : Int) (cs : List Value) (F2 : SHeap) (w0 : World) (R : Ending → World → Prop) : Prop :=
  AtE Try.prog 5 79 [.code (sub (Eng.body Try.f5) [1, 1, 1, 1, 1, 1, 0, 1, 0, 0]), .inLoop (sub (Eng.body Try.f5) [1, 1, 1, 1, 1, 1, 0, 1, 0, 0]), .inBlock 0, .code (sub (Eng.body Try.f5) [1, 1, 1, 1, 1, 1, 1])] [(0, .int .i64 size2), (1, .slice l1_p l1_l l1_c), (5, .bool up), (6, .pointer d), (8, .slice (some ⟨B1, 0, none⟩) b_l b_c), (9, .int .i64 i)] ((B1, .cells ⟨cs⟩ 5) :: F2) [] w0 (nrm R)

theorem ReadsBack_c0_vc (B1 : Nat) (size2 : Int) (l1_p : Option Addr) (l1_l : Nat) (l1_c : Nat) (up : Bool) (d : Option Addr) (b_l : Nat) (b_c : Nat) (i : Int) (cs : List Value) (F2 : SHeap) {R : Ending → World → Prop} {w0 : World}
    (H :
      ((i < (l1_l : Int)) →
        ((i < (60 : Int)) →
          ∃ l1_pb l1_po : Nat, l1_p = some ⟨l1_pb, l1_po, none⟩ ∧
          (0 ≤ i ∧ i < l1_l) ∧
          ∃ (cw : List Value) (m_0 : Int) (m_1 : ByteArray) (m_2 : Bool), blkW w0 l1_pb = some cw ∧ ((cw.drop (l1_po + ((Int.toNat i) * 3))).take 3 = [.int .i64 m_0, .string m_1, .bool m_2] ∧ (l1_po + ((Int.toNat i) * 3)) + 3 ≤ cw.length) ∧
          CallH Try.prog 22 ⟨[.agg #[.int .i64 m_0, .string m_1, .bool m_2], .int .i64 size2]⟩ ((B1, .cells ⟨cs⟩ 5) :: F2) [] w0 (fun v L' => ∃ (r5_0 : Int) (r5_1 : ByteArray) (r5_2 : Bool), v = (.agg #[.int .i64 r5_0, .string r5_1, .bool r5_2]) ∧ L' = ((B1, .cells ⟨cs⟩ 5) :: F2) ∧
            ∀ B2 : Nat,
            CallH Try.prog 23 ⟨[.slice (some ⟨B1, 0, none⟩) b_l b_c, .int .i64 r5_0, .string r5_1]⟩ ((B2, .cells #[.int .i64 r5_0, .string r5_1, .bool r5_2] 42) :: (B1, .cells ⟨cs⟩ 5) :: F2) [] w0 (fun v L' => ∃ (b1 : List Value), v = (.tuple #[]) ∧ L' = ((B2, .cells #[.int .i64 r5_0, .string r5_1, .bool r5_2] 42) :: (B1, .cells ⟨b1⟩ 5) :: F2) ∧
              CallH Try.prog 17 ⟨[.pointer d, .int .i64 r5_0, .string r5_1]⟩ ((B2, .cells #[.int .i64 r5_0, .string r5_1, .bool r5_2] 42) :: (B1, .cells ⟨b1⟩ 5) :: F2) [] w0 (fun v L' => ∃ (r61 : Int) (F3 : SHeap), v = (.int .i64 r61) ∧ L' = ((B2, .cells #[.int .i64 r5_0, .string r5_1, .bool r5_2] 42) :: (B1, .cells ⟨b1⟩ 5) :: F3) ∧
                ((¬ (r61 = (0 : Int))) →
                  Fin R ((B2, .cells #[.int .i64 r5_0, .string r5_1, .bool r5_2] 42) :: (B1, .cells ⟨b1⟩ 5) :: F3) [] w0 (.bool false)) ∧
                 ((r61 = (0 : Int)) →
                  ((r5_2 = true) →
                    CallH Try.prog 19 ⟨[.pointer d]⟩ ((B2, .cells #[.int .i64 r5_0, .string r5_1, .bool r5_2] 42) :: (B1, .cells ⟨b1⟩ 5) :: F3) [] w0 (fun v L' => ∃ (r71 : Int) (F4 : SHeap), v = (.int .i64 r71) ∧ L' = ((B2, .cells #[.int .i64 r5_0, .string r5_1, .bool r5_2] 42) :: (B1, .cells ⟨b1⟩ 5) :: F4) ∧
                      ((¬ (r71 = (0 : Int))) →
                        Fin R ((B2, .cells #[.int .i64 r5_0, .string r5_1, .bool r5_2] 42) :: (B1, .cells ⟨b1⟩ 5) :: F4) [] w0 (.bool false)) ∧
                       ((r71 = (0 : Int)) →
                        CallH Try.prog 13 ⟨[.pointer d, .int .i64 (0 : Int), .int .i64 size2]⟩ ((B2, .cells #[.int .i64 r5_0, .string r5_1, .bool r5_2] 42) :: (B1, .cells ⟨b1⟩ 5) :: F4) [] w0 (fun v L' => ∃ (r81 : ByteArray) (r91 : Int) (F5 : SHeap), v = (.tuple #[.string r81, .int .i64 r91]) ∧ L' = ((B2, .cells #[.int .i64 r5_0, .string r5_1, .bool r5_2] 42) :: (B1, .cells ⟨b1⟩ 5) :: F5) ∧
                          ((¬ (r91 = (0 : Int))) →
                            Fin R ((B2, .cells #[.int .i64 r5_0, .string r5_1, .bool r5_2] 42) :: (B1, .cells ⟨b1⟩ 5) :: F5) [] w0 (.bool false)) ∧
                           ((r91 = (0 : Int)) →
                            ∃ bs : List UInt8, (((b1).drop 0).take b_l = bytesL bs ∧ bs.length = b_l) ∧
                            ((¬ r81 = (⟨bs.toArray⟩ : ByteArray)) →
                              Fin R ((B2, .cells #[.int .i64 r5_0, .string r5_1, .bool r5_2] 42) :: (B1, .cells ⟨b1⟩ 5) :: F5) [] w0 (.bool false)) ∧
                             ((r81 = (⟨bs.toArray⟩ : ByteArray)) →
                              ∀ i1 : Int, i1 = (IntKind.i64.wrap (i + (1 : Int))) →
                              ReadsBack_c0 B1 size2 (some ⟨l1_pb, l1_po, none⟩) l1_l l1_c up d b_l b_c i1 b1 F5 w0 R)))))) ∧
                   ((r5_2 = false) →
                    CallH Try.prog 13 ⟨[.pointer d, .int .i64 (0 : Int), .int .i64 size2]⟩ ((B2, .cells #[.int .i64 r5_0, .string r5_1, .bool r5_2] 42) :: (B1, .cells ⟨b1⟩ 5) :: F3) [] w0 (fun v L' => ∃ (r101 : ByteArray) (r111 : Int) (F6 : SHeap), v = (.tuple #[.string r101, .int .i64 r111]) ∧ L' = ((B2, .cells #[.int .i64 r5_0, .string r5_1, .bool r5_2] 42) :: (B1, .cells ⟨b1⟩ 5) :: F6) ∧
                      ((¬ (r111 = (0 : Int))) →
                        Fin R ((B2, .cells #[.int .i64 r5_0, .string r5_1, .bool r5_2] 42) :: (B1, .cells ⟨b1⟩ 5) :: F6) [] w0 (.bool false)) ∧
                       ((r111 = (0 : Int)) →
                        ∃ bs1 : List UInt8, (((b1).drop 0).take b_l = bytesL bs1 ∧ bs1.length = b_l) ∧
                        ((¬ r101 = (⟨bs1.toArray⟩ : ByteArray)) →
                          Fin R ((B2, .cells #[.int .i64 r5_0, .string r5_1, .bool r5_2] 42) :: (B1, .cells ⟨b1⟩ 5) :: F6) [] w0 (.bool false)) ∧
                         ((r101 = (⟨bs1.toArray⟩ : ByteArray)) →
                          ∀ i2 : Int, i2 = (IntKind.i64.wrap (i + (1 : Int))) →
                          ReadsBack_c0 B1 size2 (some ⟨l1_pb, l1_po, none⟩) l1_l l1_c up d b_l b_c i2 b1 F6 w0 R))))))))) ∧
         ((¬ (i < (60 : Int))) →
          Fin R ((B1, .cells ⟨cs⟩ 5) :: F2) [] w0 (.bool up))) ∧
       ((¬ (i < (l1_l : Int))) →
        Fin R ((B1, .cells ⟨cs⟩ 5) :: F2) [] w0 (.bool up))) :
    ReadsBack_c0 B1 size2 l1_p l1_l l1_c up d b_l b_c i cs F2 w0 R := by
  unfold ReadsBack_c0
  refine AtE.run 8 (fun W => by kernel_rfl) ?_
  refine AtE.splitP 30 (p := i < (l1_l : Int)) (by kernel_rfl) (fun h2' => ?_) (fun h2' => ?_)
  · replace H := H.1 h2'
    refine AtE.run 4 (fun W => by kernel_rfl) ?_
    refine AtE.splitP 33 (p := i < (60 : Int)) (by kernel_rfl) (fun h3' => ?_) (fun h3' => ?_)
    · replace H := H.1 h3'
      refine AtE.run 8 (fun W => by kernel_rfl) ?_
      obtain ⟨l1_pb, l1_po, rfl, H⟩ := H
      refine AtE.indexAddrL (E := 42) (b := l1_pb) (o := l1_po) (len := l1_l) (cap := l1_c) (sz := 3) (o' := (l1_po + ((Int.toNat i) * 3))) (kd := .i64) (i := i) (by kernel_rfl) H.1 (by omega) ?_
      replace H := H.2
      obtain ⟨cw, m_0, m_1, m_2, hw, hx, H⟩ := H
      refine AtE.loadW (b := l1_pb) (off := (l1_po + ((Int.toNat i) * 3))) (T := 42) (v := .agg #[.int .i64 m_0, .string m_1, .bool m_2]) (by kernel_rfl) List.not_mem_nil hw (valAt_agg hx.1 hx.2 (by kernel_rfl) (by kernel_rfl)) ?_
      refine AtE.run 1 (fun W => by kernel_rfl) ?_
      refine AtE.call 22 ⟨[.agg #[.int .i64 m_0, .string m_1, .bool m_2], .int .i64 size2]⟩ (fun W => by kernel_rfl) (by kernel_rfl) H ?_
      clear H
      rintro _ _ ⟨r5_0, r5_1, r5_2, rfl, rfl, H⟩
      refine AtE.new (fun B => .pointer (some ⟨B, 0, none⟩)) (.cells #[.int .i64 (0 : Int), .string (⟨#[]⟩), .bool false] 42) (fun W => by kernel_rfl) (by kernel_rfl) (fun B2 => ?_)
      replace H := H B2
      refine AtE.front ?_
      refine AtE.norm (k' := [.inRegion (regOps [.code (sub (Eng.body Try.f5) [1, 1, 1, 1, 1, 1, 0, 1, 0, 0, 1, 0, 0, 0])]) [7], .code (sub (Eng.body Try.f5) [1, 1, 1, 1, 1, 1, 0, 1, 0, 0, 1, 0, 0, 1]), .inBlock 1, .code (sub (Eng.body Try.f5) [1, 1, 1, 1, 1, 1, 0, 1, 0, 0, 1, 1]), .inLoop (sub (Eng.body Try.f5) [1, 1, 1, 1, 1, 1, 0, 1, 0, 0]), .inBlock 0, .code (sub (Eng.body Try.f5) [1, 1, 1, 1, 1, 1, 1])]) (e' := [(0, .int .i64 size2), (1, .slice (some ⟨l1_pb, l1_po, none⟩) l1_l l1_c), (5, .bool up), (6, .pointer d), (8, .slice (some ⟨B1, 0, none⟩) b_l b_c), (9, .int .i64 i), (10, .pointer (some ⟨B2, 0, none⟩)), (41, .agg #[.int .i64 r5_0, .string r5_1, .bool r5_2])]) (L' := ((B2, .cells #[.int .i64 (0 : Int), .string (⟨#[]⟩), .bool false] 42) :: (B1, .cells ⟨cs⟩ 5) :: F2)) ?_ (by kernel_rfl)
      refine AtE.store 0 0 (T := 42) (v := .agg #[.int .i64 r5_0, .string r5_1, .bool r5_2]) (by kernel_rfl) ?_
      refine AtE.run 5 (fun W => by kernel_rfl) ?_
      refine AtE.load 0 0 (T := 3) (v := .int .i64 r5_0) (by kernel_rfl) ?_
      refine AtE.run 1 (fun W => by kernel_rfl) ?_
      refine AtE.load 0 1 (T := 9) (v := .string r5_1) (by kernel_rfl) ?_
      refine AtE.call 23 ⟨[.slice (some ⟨B1, 0, none⟩) b_l b_c, .int .i64 r5_0, .string r5_1]⟩ (fun W => by kernel_rfl) (by kernel_rfl) H ?_
      clear H
      rintro _ _ ⟨b1, rfl, rfl, H⟩
      refine AtE.run 6 (fun W => by kernel_rfl) ?_
      refine AtE.load 0 0 (T := 3) (v := .int .i64 r5_0) (by kernel_rfl) ?_
      refine AtE.run 1 (fun W => by kernel_rfl) ?_
      refine AtE.load 0 1 (T := 9) (v := .string r5_1) (by kernel_rfl) ?_
      refine AtE.call 17 ⟨[.pointer d, .int .i64 r5_0, .string r5_1]⟩ (fun W => by kernel_rfl) (by kernel_rfl) H ?_
      clear H
      rintro _ _ ⟨r61, F3, rfl, rfl, H⟩
      refine AtE.norm (k' := [.inRegion (regOps [.code (sub (Eng.body Try.f5) [1, 1, 1, 1, 1, 1, 0, 1, 0, 0, 1, 0, 0, 1, 1, 0, 0])]) [6, 7, 8, 9, 10, 11, 12, 13, 14, 15], .code (sub (Eng.body Try.f5) [1, 1, 1, 1, 1, 1, 0, 1, 0, 0, 1, 0, 0, 1, 1, 0, 1]), .code (sub (Eng.body Try.f5) [1, 1, 1, 1, 1, 1, 0, 1, 0, 0, 1, 0, 0, 1, 1, 1]), .inBlock 1, .code (sub (Eng.body Try.f5) [1, 1, 1, 1, 1, 1, 0, 1, 0, 0, 1, 1]), .inLoop (sub (Eng.body Try.f5) [1, 1, 1, 1, 1, 1, 0, 1, 0, 0]), .inBlock 0, .code (sub (Eng.body Try.f5) [1, 1, 1, 1, 1, 1, 1])]) (e' := [(0, .int .i64 size2), (1, .slice (some ⟨l1_pb, l1_po, none⟩) l1_l l1_c), (5, .bool up), (6, .pointer d), (8, .slice (some ⟨B1, 0, none⟩) b_l b_c), (9, .int .i64 i), (10, .pointer (some ⟨B2, 0, none⟩)), (53, .int .i64 r61)]) (L' := ((B2, .cells #[.int .i64 r5_0, .string r5_1, .bool r5_2] 42) :: (B1, .cells ⟨b1⟩ 5) :: F3)) ?_ (by kernel_rfl)
      refine AtE.run 2 (fun W => by kernel_rfl) ?_
      refine AtE.splitN 55 (p := r61 = (0 : Int)) (by kernel_rfl) (fun h4' => ?_) (fun h4' => ?_)
      · replace H := H.1 h4'
        refine AtE.run 14 (fun W => by kernel_rfl) ?_
        exact AtE.ret Try.func5 (by kernel_rfl) H
      · replace H := H.2 h4'
        refine AtE.run 1 (fun W => by kernel_rfl) ?_
        refine AtE.load 0 2 (T := 4) (v := .bool r5_2) (by kernel_rfl) ?_
        refine AtE.run 1 (fun W => by kernel_rfl) ?_
        refine AtE.split 58 (b := r5_2) (by kernel_rfl) (fun h5' => ?_) (fun h5' => ?_)
        · replace H := H.1 h5'
          refine AtE.run 1 (fun W => by kernel_rfl) ?_
          refine AtE.call 19 ⟨[.pointer d]⟩ (fun W => by kernel_rfl) (by kernel_rfl) H ?_
          clear H
          rintro _ _ ⟨r71, F4, rfl, rfl, H⟩
          refine AtE.run 4 (fun W => by kernel_rfl) ?_
          refine AtE.splitN 63 (p := r71 = (0 : Int)) (by kernel_rfl) (fun h6' => ?_) (fun h6' => ?_)
          · replace H := H.1 h6'
            refine AtE.run 5 (fun W => by kernel_rfl) ?_
            exact AtE.ret Try.func5 (by kernel_rfl) H
          · replace H := H.2 h6'
            refine AtE.run 6 (fun W => by kernel_rfl) ?_
            refine AtE.call 13 ⟨[.pointer d, .int .i64 (0 : Int), .int .i64 size2]⟩ (fun W => by kernel_rfl) (by kernel_rfl) H ?_
            clear H
            rintro _ _ ⟨r81, r91, F5, rfl, rfl, H⟩
            refine AtE.run 11 (fun W => by kernel_rfl) ?_
            refine AtE.splitN 72 (p := r91 = (0 : Int)) (by kernel_rfl) (fun h7' => ?_) (fun h7' => ?_)
            · replace H := H.1 h7'
              refine AtE.norm (k' := [.inRegion (regOps [.code (sub (Eng.body Try.f5) [1, 1, 1, 1, 1, 1, 0, 1, 0, 0, 1, 0, 0, 1, 1, 1, 1, 0])]) [3, 4, 5, 6, 7], .code (sub (Eng.body Try.f5) [1, 1, 1, 1, 1, 1, 0, 1, 0, 0, 1, 0, 0, 1, 1, 1, 1, 1]), .inBlock 1, .code (sub (Eng.body Try.f5) [1, 1, 1, 1, 1, 1, 0, 1, 0, 0, 1, 1]), .inLoop (sub (Eng.body Try.f5) [1, 1, 1, 1, 1, 1, 0, 1, 0, 0]), .inBlock 0, .code (sub (Eng.body Try.f5) [1, 1, 1, 1, 1, 1, 1])]) (e' := [(0, .int .i64 size2), (1, .slice (some ⟨l1_pb, l1_po, none⟩) l1_l l1_c), (5, .bool up), (6, .pointer d), (8, .slice (some ⟨B1, 0, none⟩) b_l b_c), (9, .int .i64 i), (11, .string r81), (72, .bool true)]) (L' := ((B2, .cells #[.int .i64 r5_0, .string r5_1, .bool r5_2] 42) :: (B1, .cells ⟨b1⟩ 5) :: F5)) ?_ (by kernel_rfl)
              refine AtE.run 11 (fun W => by kernel_rfl) ?_
              exact AtE.ret Try.func5 (by kernel_rfl) H
            · replace H := H.2 h7'
              refine AtE.norm (k' := [.inRegion (regOps [.code (sub (Eng.body Try.f5) [1, 1, 1, 1, 1, 1, 0, 1, 0, 0, 1, 0, 0, 1, 1, 1, 1, 0])]) [3, 4, 5, 6, 7], .code (sub (Eng.body Try.f5) [1, 1, 1, 1, 1, 1, 0, 1, 0, 0, 1, 0, 0, 1, 1, 1, 1, 1]), .inBlock 1, .code (sub (Eng.body Try.f5) [1, 1, 1, 1, 1, 1, 0, 1, 0, 0, 1, 1]), .inLoop (sub (Eng.body Try.f5) [1, 1, 1, 1, 1, 1, 0, 1, 0, 0]), .inBlock 0, .code (sub (Eng.body Try.f5) [1, 1, 1, 1, 1, 1, 1])]) (e' := [(0, .int .i64 size2), (1, .slice (some ⟨l1_pb, l1_po, none⟩) l1_l l1_c), (5, .bool up), (6, .pointer d), (8, .slice (some ⟨B1, 0, none⟩) b_l b_c), (9, .int .i64 i), (11, .string r81), (72, .bool false)]) (L' := ((B2, .cells #[.int .i64 r5_0, .string r5_1, .bool r5_2] 42) :: (B1, .cells ⟨b1⟩ 5) :: F5)) ?_ (by kernel_rfl)
              refine AtE.run 2 (fun W => by kernel_rfl) ?_
              obtain ⟨bs, hb, H⟩ := H
              refine AtE.toString 1 (E := 5) (o := 0) (len := b_l) (cap := b_c) (c := b1) (l := bs) (by kernel_rfl) hb ?_
              refine AtE.run 3 (fun W => by kernel_rfl) ?_
              refine AtE.splitT 77 (x := r81) (y := (⟨bs.toArray⟩ : ByteArray)) (by kernel_rfl) (fun h8' => ?_) (fun h8' => ?_)
              · replace H := H.1 h8'
                refine AtE.run 5 (fun W => by kernel_rfl) ?_
                exact AtE.ret Try.func5 (by kernel_rfl) H
              · replace H := H.2 h8'
                refine AtE.run 7 (fun W => by kernel_rfl) ?_
                refine AtE.letI 9 (kd := .i64) (n := (IntKind.i64.wrap (i + (1 : Int)))) (by kernel_rfl) (fun i1 hi1 => ?_)
                replace H := H i1 hi1
                refine AtE.run 2 (fun W => by kernel_rfl) ?_
                exact AtE.cutT [1] 2 H (by kernel_rfl)
        · replace H := H.2 h5'
          refine AtE.run 12 (fun W => by kernel_rfl) ?_
          refine AtE.call 13 ⟨[.pointer d, .int .i64 (0 : Int), .int .i64 size2]⟩ (fun W => by kernel_rfl) (by kernel_rfl) H ?_
          clear H
          rintro _ _ ⟨r101, r111, F6, rfl, rfl, H⟩
          refine AtE.run 11 (fun W => by kernel_rfl) ?_
          refine AtE.splitN 72 (p := r111 = (0 : Int)) (by kernel_rfl) (fun h9' => ?_) (fun h9' => ?_)
          · replace H := H.1 h9'
            refine AtE.run 11 (fun W => by kernel_rfl) ?_
            exact AtE.ret Try.func5 (by kernel_rfl) H
          · replace H := H.2 h9'
            refine AtE.run 2 (fun W => by kernel_rfl) ?_
            obtain ⟨bs1, hb, H⟩ := H
            refine AtE.toString 1 (E := 5) (o := 0) (len := b_l) (cap := b_c) (c := b1) (l := bs1) (by kernel_rfl) hb ?_
            refine AtE.run 3 (fun W => by kernel_rfl) ?_
            refine AtE.splitT 77 (x := r101) (y := (⟨bs1.toArray⟩ : ByteArray)) (by kernel_rfl) (fun h10' => ?_) (fun h10' => ?_)
            · replace H := H.1 h10'
              refine AtE.norm (k' := [.code (sub (Eng.body Try.f5) [1, 1, 1, 1, 1, 1, 0, 1, 0, 0, 1, 0, 0, 1, 1, 1, 1, 1]), .inBlock 1, .code (sub (Eng.body Try.f5) [1, 1, 1, 1, 1, 1, 0, 1, 0, 0, 1, 1]), .inLoop (sub (Eng.body Try.f5) [1, 1, 1, 1, 1, 1, 0, 1, 0, 0]), .inBlock 0, .code (sub (Eng.body Try.f5) [1, 1, 1, 1, 1, 1, 1])]) (e' := [(0, .int .i64 size2), (1, .slice (some ⟨l1_pb, l1_po, none⟩) l1_l l1_c), (5, .bool up), (6, .pointer d), (8, .slice (some ⟨B1, 0, none⟩) b_l b_c), (9, .int .i64 i), (77, .bool true)]) (L' := ((B2, .cells #[.int .i64 r5_0, .string r5_1, .bool r5_2] 42) :: (B1, .cells ⟨b1⟩ 5) :: F6)) ?_ (by kernel_rfl)
              refine AtE.run 5 (fun W => by kernel_rfl) ?_
              exact AtE.ret Try.func5 (by kernel_rfl) H
            · replace H := H.2 h10'
              refine AtE.norm (k' := [.code (sub (Eng.body Try.f5) [1, 1, 1, 1, 1, 1, 0, 1, 0, 0, 1, 0, 0, 1, 1, 1, 1, 1]), .inBlock 1, .code (sub (Eng.body Try.f5) [1, 1, 1, 1, 1, 1, 0, 1, 0, 0, 1, 1]), .inLoop (sub (Eng.body Try.f5) [1, 1, 1, 1, 1, 1, 0, 1, 0, 0]), .inBlock 0, .code (sub (Eng.body Try.f5) [1, 1, 1, 1, 1, 1, 1])]) (e' := [(0, .int .i64 size2), (1, .slice (some ⟨l1_pb, l1_po, none⟩) l1_l l1_c), (5, .bool up), (6, .pointer d), (8, .slice (some ⟨B1, 0, none⟩) b_l b_c), (9, .int .i64 i), (77, .bool false)]) (L' := ((B2, .cells #[.int .i64 r5_0, .string r5_1, .bool r5_2] 42) :: (B1, .cells ⟨b1⟩ 5) :: F6)) ?_ (by kernel_rfl)
              refine AtE.run 7 (fun W => by kernel_rfl) ?_
              refine AtE.letI 9 (kd := .i64) (n := (IntKind.i64.wrap (i + (1 : Int)))) (by kernel_rfl) (fun i2 hi2 => ?_)
              replace H := H i2 hi2
              refine AtE.run 2 (fun W => by kernel_rfl) ?_
              exact AtE.cutT [1] 2 H (by kernel_rfl)
    · replace H := H.2 h3'
      refine AtE.run 7 (fun W => by kernel_rfl) ?_
      exact AtE.ret Try.func5 (by kernel_rfl) H
  · replace H := H.2 h2'
    refine AtE.run 11 (fun W => by kernel_rfl) ?_
    exact AtE.ret Try.func5 (by kernel_rfl) H

theorem ReadsBack_vc (size : Int) (l_p : Option Addr) (l_l : Nat) (l_c : Nat) (F : SHeap) {R : Ending → World → Prop} {w0 W : World} (hm : Mem (F) [] w0 W)
    (H :
      CallH Try.prog 11 ⟨[]⟩ (F) [] w0 (fun v L' => ∃ (r1 : Bool), v = (.bool r1) ∧ L' = (F) ∧
        CallH Try.prog 14 ⟨[.int .i64 size, .int .i64 (300 : Int)]⟩ (F) [] w0 (fun v L' => ∃ (r21 : Int), v = (.int .i64 r21) ∧ L' = (F) ∧
          ∀ size1 : Int, size1 = (IntKind.i64.wrap ((1 : Int) + r21)) →
          CallH Try.prog 12 ⟨[.int .i64 size1]⟩ (F) [] w0 (fun v L' => ∃ (r31 : Option Addr) (r41 : Int) (F1 : SHeap), v = (.tuple #[.pointer r31, .int .i64 r41]) ∧ L' = (F1) ∧
            ((¬ (r41 = (0 : Int))) →
              Fin R (F1) [] w0 (.bool false)) ∧
             ((r41 = (0 : Int)) →
              (0 ≤ size1 ∧ size1 ≤ size1 ∧ 1 * size1 ≤ 281474976710656 ∧ size1 ≤ 9223372036854775807) ∧
              ∀ B : Nat,
              ReadsBack_c0 B size1 l_p l_l l_c r1 r31 (Int.toNat size1) (Int.toNat size1) (0 : Int) (List.replicate (Int.toNat size1) (.int .u8 (0 : Int))) F1 w0 R))))) :
    Calls Try.prog 5 ⟨[.int .i64 size, .slice l_p l_l l_c]⟩ W R := by
  refine AtE.calls (nt := 79) Try.func5 (by kernel_rfl) hm ?_
  refine AtE.run 6 (fun W => by kernel_rfl) ?_
  refine AtE.call 11 ⟨[]⟩ (fun W => by kernel_rfl) (by kernel_rfl) H ?_
  clear H
  rintro _ F ⟨r1, rfl, rfl, H⟩
  refine AtE.run 5 (fun W => by kernel_rfl) ?_
  refine AtE.call 14 ⟨[.int .i64 size, .int .i64 (300 : Int)]⟩ (fun W => by kernel_rfl) (by kernel_rfl) H ?_
  clear H
  rintro _ F ⟨r21, rfl, rfl, H⟩
  refine AtE.run 2 (fun W => by kernel_rfl) ?_
  refine AtE.letI 0 (kd := .i64) (n := (IntKind.i64.wrap ((1 : Int) + r21))) (by kernel_rfl) (fun size1 hsize1 => ?_)
  replace H := H size1 hsize1
  refine AtE.run 4 (fun W => by kernel_rfl) ?_
  refine AtE.call 12 ⟨[.int .i64 size1]⟩ (fun W => by kernel_rfl) (by kernel_rfl) H ?_
  clear H
  rintro _ F1 ⟨r31, r41, _, rfl, rfl, H⟩
  refine AtE.run 12 (fun W => by kernel_rfl) ?_
  refine AtE.splitN 23 (p := r41 = (0 : Int)) (by kernel_rfl) (fun h1' => ?_) (fun h1' => ?_)
  · replace H := H.1 h1'
    refine AtE.run 5 (fun W => by kernel_rfl) ?_
    exact AtE.ret Try.func5 (by kernel_rfl) H
  · replace H := H.2 h1'
    refine AtE.run 5 (fun W => by kernel_rfl) ?_
    refine AtE.make (E := 5) (kl := .i64) (kc := .i64) (n := size1) (m := size1) (z := .int .u8 (0 : Int)) (bytes := 1) (by kernel_rfl) H.1 (fun B => ?_)
    replace H := H.2 B
    refine AtE.front ?_
    refine AtE.run 9 (fun W => by kernel_rfl) ?_
    exact AtE.cutT [0] 1 H (by kernel_rfl)

def Synced_c0 (B1 : Nat) (size2 : Int) (l1_p : Option Addr) (l1_l : Nat) (l1_c : Nat) (torn1 : Int) (up : Bool) (d : Option Addr) (b_l : Nat) (b_c : Nat) (sure1 : ByteArray) (i : Int) (cs : List Value) (F2 : SHeap) (w0 : World) (R : Ending → World → Prop) : Prop :=
  AtE Try.prog 6 102 [.code (sub (Eng.body Try.f6) [1, 1, 1, 1, 1, 1, 1, 0, 1, 0, 0]), .inLoop (sub (Eng.body Try.f6) [1, 1, 1, 1, 1, 1, 1, 0, 1, 0, 0]), .inBlock 0, .code (sub (Eng.body Try.f6) [1, 1, 1, 1, 1, 1, 1, 1])] [(0, .int .i64 size2), (1, .slice l1_p l1_l l1_c), (2, .int .i64 torn1), (7, .bool up), (8, .pointer d), (10, .slice (some ⟨B1, 0, none⟩) b_l b_c), (11, .string sure1), (12, .int .i64 i)] ((B1, .cells ⟨cs⟩ 5) :: F2) [] w0 (nrm R)

theorem Synced_c0_vc (B1 : Nat) (size2 : Int) (l1_p : Option Addr) (l1_l : Nat) (l1_c : Nat) (torn1 : Int) (up : Bool) (d : Option Addr) (b_l : Nat) (b_c : Nat) (sure1 : ByteArray) (i : Int) (cs : List Value) (F2 : SHeap) {R : Ending → World → Prop} {w0 : World}
    (H :
      ((i < (l1_l : Int)) →
        ((i < (60 : Int)) →
          ∃ l1_pb l1_po : Nat, l1_p = some ⟨l1_pb, l1_po, none⟩ ∧
          (0 ≤ i ∧ i < l1_l) ∧
          ∃ (cw : List Value) (m_0 : Int) (m_1 : ByteArray) (m_2 : Bool), blkW w0 l1_pb = some cw ∧ ((cw.drop (l1_po + ((Int.toNat i) * 3))).take 3 = [.int .i64 m_0, .string m_1, .bool m_2] ∧ (l1_po + ((Int.toNat i) * 3)) + 3 ≤ cw.length) ∧
          CallH Try.prog 22 ⟨[.agg #[.int .i64 m_0, .string m_1, .bool m_2], .int .i64 size2]⟩ ((B1, .cells ⟨cs⟩ 5) :: F2) [] w0 (fun v L' => ∃ (r5_0 : Int) (r5_1 : ByteArray) (r5_2 : Bool), v = (.agg #[.int .i64 r5_0, .string r5_1, .bool r5_2]) ∧ L' = ((B1, .cells ⟨cs⟩ 5) :: F2) ∧
            ∀ B2 : Nat,
            CallH Try.prog 23 ⟨[.slice (some ⟨B1, 0, none⟩) b_l b_c, .int .i64 r5_0, .string r5_1]⟩ ((B2, .cells #[.int .i64 r5_0, .string r5_1, .bool r5_2] 42) :: (B1, .cells ⟨cs⟩ 5) :: F2) [] w0 (fun v L' => ∃ (b1 : List Value), v = (.tuple #[]) ∧ L' = ((B2, .cells #[.int .i64 r5_0, .string r5_1, .bool r5_2] 42) :: (B1, .cells ⟨b1⟩ 5) :: F2) ∧
              CallH Try.prog 17 ⟨[.pointer d, .int .i64 r5_0, .string r5_1]⟩ ((B2, .cells #[.int .i64 r5_0, .string r5_1, .bool r5_2] 42) :: (B1, .cells ⟨b1⟩ 5) :: F2) [] w0 (fun v L' => ∃ (r61 : Int) (F3 : SHeap), v = (.int .i64 r61) ∧ L' = ((B2, .cells #[.int .i64 r5_0, .string r5_1, .bool r5_2] 42) :: (B1, .cells ⟨b1⟩ 5) :: F3) ∧
                ((¬ (r61 = (0 : Int))) →
                  Fin R ((B2, .cells #[.int .i64 r5_0, .string r5_1, .bool r5_2] 42) :: (B1, .cells ⟨b1⟩ 5) :: F3) [] w0 (.bool false)) ∧
                 ((r61 = (0 : Int)) →
                  ((r5_2 = true) →
                    CallH Try.prog 19 ⟨[.pointer d]⟩ ((B2, .cells #[.int .i64 r5_0, .string r5_1, .bool r5_2] 42) :: (B1, .cells ⟨b1⟩ 5) :: F3) [] w0 (fun v L' => ∃ (r71 : Int) (F4 : SHeap), v = (.int .i64 r71) ∧ L' = ((B2, .cells #[.int .i64 r5_0, .string r5_1, .bool r5_2] 42) :: (B1, .cells ⟨b1⟩ 5) :: F4) ∧
                      ((¬ (r71 = (0 : Int))) →
                        Fin R ((B2, .cells #[.int .i64 r5_0, .string r5_1, .bool r5_2] 42) :: (B1, .cells ⟨b1⟩ 5) :: F4) [] w0 (.bool false)) ∧
                       ((r71 = (0 : Int)) →
                        ∃ bs1 : List UInt8, (((b1).drop 0).take b_l = bytesL bs1 ∧ bs1.length = b_l) ∧
                        ∀ sure2 : ByteArray, sure2 = ⟨bs1.toArray⟩ →
                        ∀ i1 : Int, i1 = (IntKind.i64.wrap (i + (1 : Int))) →
                        Synced_c0 B1 size2 (some ⟨l1_pb, l1_po, none⟩) l1_l l1_c torn1 up d b_l b_c sure2 i1 b1 F4 w0 R))) ∧
                   ((r5_2 = false) →
                    ∀ i2 : Int, i2 = (IntKind.i64.wrap (i + (1 : Int))) →
                    Synced_c0 B1 size2 (some ⟨l1_pb, l1_po, none⟩) l1_l l1_c torn1 up d b_l b_c sure1 i2 b1 F3 w0 R)))))) ∧
         ((¬ (i < (60 : Int))) →
          CallH Try.prog 21 ⟨[.pointer d, .slice none 0 0, .int .i64 torn1]⟩ ((B1, .cells ⟨cs⟩ 5) :: F2) [] w0 (fun v L' => ∃ (r81 : Int) (F5 : SHeap), v = (.int .i64 r81) ∧ L' = ((B1, .cells ⟨cs⟩ 5) :: F5) ∧
            CallH Try.prog 13 ⟨[.pointer d, .int .i64 (0 : Int), .int .i64 size2]⟩ ((B1, .cells ⟨cs⟩ 5) :: F5) [] w0 (fun v L' => ∃ (r91 : ByteArray) (r101 : Int) (F6 : SHeap), v = (.tuple #[.string r91, .int .i64 r101]) ∧ L' = ((B1, .cells ⟨cs⟩ 5) :: F6) ∧
              ((up = true) →
                ((r81 = (0 : Int)) →
                  ((r101 = (0 : Int)) →
                    ((r91 = sure1) →
                      CallH Try.prog 16 ⟨[.pointer d]⟩ ((B1, .cells ⟨cs⟩ 5) :: F6) [] w0 (fun v L' => ∃ (r111 : Int) (F7 : SHeap), v = (.int .i64 r111) ∧ L' = ((B1, .cells ⟨cs⟩ 5) :: F7) ∧
                        Fin R ((B1, .cells ⟨cs⟩ 5) :: F7) [] w0 (.bool (decide (r111 = (0 : Int)))))) ∧
                     ((¬ r91 = sure1) →
                      Fin R ((B1, .cells ⟨cs⟩ 5) :: F6) [] w0 (.bool false))) ∧
                   ((¬ (r101 = (0 : Int))) →
                    Fin R ((B1, .cells ⟨cs⟩ 5) :: F6) [] w0 (.bool false))) ∧
                 ((¬ (r81 = (0 : Int))) →
                  Fin R ((B1, .cells ⟨cs⟩ 5) :: F6) [] w0 (.bool false))) ∧
               ((up = false) →
                Fin R ((B1, .cells ⟨cs⟩ 5) :: F6) [] w0 (.bool false)))))) ∧
       ((¬ (i < (l1_l : Int))) →
        CallH Try.prog 21 ⟨[.pointer d, .slice none 0 0, .int .i64 torn1]⟩ ((B1, .cells ⟨cs⟩ 5) :: F2) [] w0 (fun v L' => ∃ (r121 : Int) (F8 : SHeap), v = (.int .i64 r121) ∧ L' = ((B1, .cells ⟨cs⟩ 5) :: F8) ∧
          CallH Try.prog 13 ⟨[.pointer d, .int .i64 (0 : Int), .int .i64 size2]⟩ ((B1, .cells ⟨cs⟩ 5) :: F8) [] w0 (fun v L' => ∃ (r131 : ByteArray) (r141 : Int) (F9 : SHeap), v = (.tuple #[.string r131, .int .i64 r141]) ∧ L' = ((B1, .cells ⟨cs⟩ 5) :: F9) ∧
            ((up = true) →
              ((r121 = (0 : Int)) →
                ((r141 = (0 : Int)) →
                  ((r131 = sure1) →
                    CallH Try.prog 16 ⟨[.pointer d]⟩ ((B1, .cells ⟨cs⟩ 5) :: F9) [] w0 (fun v L' => ∃ (r151 : Int) (F10 : SHeap), v = (.int .i64 r151) ∧ L' = ((B1, .cells ⟨cs⟩ 5) :: F10) ∧
                      Fin R ((B1, .cells ⟨cs⟩ 5) :: F10) [] w0 (.bool (decide (r151 = (0 : Int)))))) ∧
                   ((¬ r131 = sure1) →
                    Fin R ((B1, .cells ⟨cs⟩ 5) :: F9) [] w0 (.bool false))) ∧
                 ((¬ (r141 = (0 : Int))) →
                  Fin R ((B1, .cells ⟨cs⟩ 5) :: F9) [] w0 (.bool false))) ∧
               ((¬ (r121 = (0 : Int))) →
                Fin R ((B1, .cells ⟨cs⟩ 5) :: F9) [] w0 (.bool false))) ∧
             ((up = false) →
              Fin R ((B1, .cells ⟨cs⟩ 5) :: F9) [] w0 (.bool false)))))) :
    Synced_c0 B1 size2 l1_p l1_l l1_c torn1 up d b_l b_c sure1 i cs F2 w0 R := by
  unfold Synced_c0
  refine AtE.run 8 (fun W => by kernel_rfl) ?_
  refine AtE.splitP 36 (p := i < (l1_l : Int)) (by kernel_rfl) (fun h2' => ?_) (fun h2' => ?_)
  · replace H := H.1 h2'
    refine AtE.run 4 (fun W => by kernel_rfl) ?_
    refine AtE.splitP 39 (p := i < (60 : Int)) (by kernel_rfl) (fun h3' => ?_) (fun h3' => ?_)
    · replace H := H.1 h3'
      refine AtE.run 8 (fun W => by kernel_rfl) ?_
      obtain ⟨l1_pb, l1_po, rfl, H⟩ := H
      refine AtE.indexAddrL (E := 42) (b := l1_pb) (o := l1_po) (len := l1_l) (cap := l1_c) (sz := 3) (o' := (l1_po + ((Int.toNat i) * 3))) (kd := .i64) (i := i) (by kernel_rfl) H.1 (by omega) ?_
      replace H := H.2
      obtain ⟨cw, m_0, m_1, m_2, hw, hx, H⟩ := H
      refine AtE.loadW (b := l1_pb) (off := (l1_po + ((Int.toNat i) * 3))) (T := 42) (v := .agg #[.int .i64 m_0, .string m_1, .bool m_2]) (by kernel_rfl) List.not_mem_nil hw (valAt_agg hx.1 hx.2 (by kernel_rfl) (by kernel_rfl)) ?_
      refine AtE.run 1 (fun W => by kernel_rfl) ?_
      refine AtE.call 22 ⟨[.agg #[.int .i64 m_0, .string m_1, .bool m_2], .int .i64 size2]⟩ (fun W => by kernel_rfl) (by kernel_rfl) H ?_
      clear H
      rintro _ _ ⟨r5_0, r5_1, r5_2, rfl, rfl, H⟩
      refine AtE.new (fun B => .pointer (some ⟨B, 0, none⟩)) (.cells #[.int .i64 (0 : Int), .string (⟨#[]⟩), .bool false] 42) (fun W => by kernel_rfl) (by kernel_rfl) (fun B2 => ?_)
      replace H := H B2
      refine AtE.front ?_
      refine AtE.norm (k' := [.inRegion (regOps [.code (sub (Eng.body Try.f6) [1, 1, 1, 1, 1, 1, 1, 0, 1, 0, 0, 1, 0, 0, 0])]) [7], .code (sub (Eng.body Try.f6) [1, 1, 1, 1, 1, 1, 1, 0, 1, 0, 0, 1, 0, 0, 1]), .inBlock 1, .code (sub (Eng.body Try.f6) [1, 1, 1, 1, 1, 1, 1, 0, 1, 0, 0, 1, 1]), .inLoop (sub (Eng.body Try.f6) [1, 1, 1, 1, 1, 1, 1, 0, 1, 0, 0]), .inBlock 0, .code (sub (Eng.body Try.f6) [1, 1, 1, 1, 1, 1, 1, 1])]) (e' := [(0, .int .i64 size2), (1, .slice (some ⟨l1_pb, l1_po, none⟩) l1_l l1_c), (2, .int .i64 torn1), (7, .bool up), (8, .pointer d), (10, .slice (some ⟨B1, 0, none⟩) b_l b_c), (11, .string sure1), (12, .int .i64 i), (13, .pointer (some ⟨B2, 0, none⟩)), (47, .agg #[.int .i64 r5_0, .string r5_1, .bool r5_2])]) (L' := ((B2, .cells #[.int .i64 (0 : Int), .string (⟨#[]⟩), .bool false] 42) :: (B1, .cells ⟨cs⟩ 5) :: F2)) ?_ (by kernel_rfl)
      refine AtE.store 0 0 (T := 42) (v := .agg #[.int .i64 r5_0, .string r5_1, .bool r5_2]) (by kernel_rfl) ?_
      refine AtE.run 5 (fun W => by kernel_rfl) ?_
      refine AtE.load 0 0 (T := 3) (v := .int .i64 r5_0) (by kernel_rfl) ?_
      refine AtE.run 1 (fun W => by kernel_rfl) ?_
      refine AtE.load 0 1 (T := 9) (v := .string r5_1) (by kernel_rfl) ?_
      refine AtE.call 23 ⟨[.slice (some ⟨B1, 0, none⟩) b_l b_c, .int .i64 r5_0, .string r5_1]⟩ (fun W => by kernel_rfl) (by kernel_rfl) H ?_
      clear H
      rintro _ _ ⟨b1, rfl, rfl, H⟩
      refine AtE.run 6 (fun W => by kernel_rfl) ?_
      refine AtE.load 0 0 (T := 3) (v := .int .i64 r5_0) (by kernel_rfl) ?_
      refine AtE.run 1 (fun W => by kernel_rfl) ?_
      refine AtE.load 0 1 (T := 9) (v := .string r5_1) (by kernel_rfl) ?_
      refine AtE.call 17 ⟨[.pointer d, .int .i64 r5_0, .string r5_1]⟩ (fun W => by kernel_rfl) (by kernel_rfl) H ?_
      clear H
      rintro _ _ ⟨r61, F3, rfl, rfl, H⟩
      refine AtE.norm (k' := [.inRegion (regOps [.code (sub (Eng.body Try.f6) [1, 1, 1, 1, 1, 1, 1, 0, 1, 0, 0, 1, 0, 0, 1, 1, 0, 0])]) [6, 7, 8, 9, 10, 11, 12, 13, 14, 15], .code (sub (Eng.body Try.f6) [1, 1, 1, 1, 1, 1, 1, 0, 1, 0, 0, 1, 0, 0, 1, 1, 0, 1]), .code (sub (Eng.body Try.f6) [1, 1, 1, 1, 1, 1, 1, 0, 1, 0, 0, 1, 0, 0, 1, 1, 1]), .inBlock 1, .code (sub (Eng.body Try.f6) [1, 1, 1, 1, 1, 1, 1, 0, 1, 0, 0, 1, 1]), .inLoop (sub (Eng.body Try.f6) [1, 1, 1, 1, 1, 1, 1, 0, 1, 0, 0]), .inBlock 0, .code (sub (Eng.body Try.f6) [1, 1, 1, 1, 1, 1, 1, 1])]) (e' := [(0, .int .i64 size2), (1, .slice (some ⟨l1_pb, l1_po, none⟩) l1_l l1_c), (2, .int .i64 torn1), (7, .bool up), (8, .pointer d), (10, .slice (some ⟨B1, 0, none⟩) b_l b_c), (11, .string sure1), (12, .int .i64 i), (13, .pointer (some ⟨B2, 0, none⟩)), (59, .int .i64 r61)]) (L' := ((B2, .cells #[.int .i64 r5_0, .string r5_1, .bool r5_2] 42) :: (B1, .cells ⟨b1⟩ 5) :: F3)) ?_ (by kernel_rfl)
      refine AtE.run 2 (fun W => by kernel_rfl) ?_
      refine AtE.splitN 61 (p := r61 = (0 : Int)) (by kernel_rfl) (fun h4' => ?_) (fun h4' => ?_)
      · replace H := H.1 h4'
        refine AtE.run 14 (fun W => by kernel_rfl) ?_
        exact AtE.ret Try.func6 (by kernel_rfl) H
      · replace H := H.2 h4'
        refine AtE.run 1 (fun W => by kernel_rfl) ?_
        refine AtE.load 0 2 (T := 4) (v := .bool r5_2) (by kernel_rfl) ?_
        refine AtE.run 1 (fun W => by kernel_rfl) ?_
        refine AtE.split 64 (b := r5_2) (by kernel_rfl) (fun h5' => ?_) (fun h5' => ?_)
        · replace H := H.1 h5'
          refine AtE.run 1 (fun W => by kernel_rfl) ?_
          refine AtE.call 19 ⟨[.pointer d]⟩ (fun W => by kernel_rfl) (by kernel_rfl) H ?_
          clear H
          rintro _ _ ⟨r71, F4, rfl, rfl, H⟩
          refine AtE.run 4 (fun W => by kernel_rfl) ?_
          refine AtE.splitN 69 (p := r71 = (0 : Int)) (by kernel_rfl) (fun h6' => ?_) (fun h6' => ?_)
          · replace H := H.1 h6'
            refine AtE.run 5 (fun W => by kernel_rfl) ?_
            exact AtE.ret Try.func6 (by kernel_rfl) H
          · replace H := H.2 h6'
            refine AtE.run 5 (fun W => by kernel_rfl) ?_
            refine AtE.load 0 2 (T := 4) (v := .bool r5_2) (by kernel_rfl) ?_
            refine AtE.run 1 (fun W => by kernel_rfl) ?_
            refine AtE.split 71 (b := r5_2) (by kernel_rfl) (fun h7' => ?_) (fun h7' => ?_)
            · skip
              refine AtE.norm (k' := [.code (sub (Eng.body Try.f6) [1, 1, 1, 1, 1, 1, 1, 0, 1, 0, 0, 1, 0, 0, 1, 1, 1, 1]), .inBlock 1, .code (sub (Eng.body Try.f6) [1, 1, 1, 1, 1, 1, 1, 0, 1, 0, 0, 1, 1]), .inLoop (sub (Eng.body Try.f6) [1, 1, 1, 1, 1, 1, 1, 0, 1, 0, 0]), .inBlock 0, .code (sub (Eng.body Try.f6) [1, 1, 1, 1, 1, 1, 1, 1])]) (e' := [(0, .int .i64 size2), (1, .slice (some ⟨l1_pb, l1_po, none⟩) l1_l l1_c), (2, .int .i64 torn1), (7, .bool up), (8, .pointer d), (10, .slice (some ⟨B1, 0, none⟩) b_l b_c), (11, .string sure1), (12, .int .i64 i), (71, .bool true)]) (L' := ((B2, .cells #[.int .i64 r5_0, .string r5_1, .bool r5_2] 42) :: (B1, .cells ⟨b1⟩ 5) :: F4)) ?_ (by kernel_rfl)
              refine AtE.run 3 (fun W => by kernel_rfl) ?_
              obtain ⟨bs1, hb, H⟩ := H
              refine AtE.toString 1 (E := 5) (o := 0) (len := b_l) (cap := b_c) (c := b1) (l := bs1) (by kernel_rfl) hb ?_
              refine AtE.run 1 (fun W => by kernel_rfl) ?_
              refine AtE.letS 11 (n := ⟨bs1.toArray⟩) (by kernel_rfl) (fun sure2 hsure2 => ?_)
              replace H := H sure2 hsure2
              refine AtE.run 6 (fun W => by kernel_rfl) ?_
              refine AtE.letI 12 (kd := .i64) (n := (IntKind.i64.wrap (i + (1 : Int)))) (by kernel_rfl) (fun i1 hi1 => ?_)
              replace H := H i1 hi1
              refine AtE.run 2 (fun W => by kernel_rfl) ?_
              exact AtE.cutT [1] 2 H (by kernel_rfl)
            · first | exact absurd h5' h7' | exact absurd h7' h5' | simp_all
        · replace H := H.2 h5'
          refine AtE.run 11 (fun W => by kernel_rfl) ?_
          refine AtE.load 0 2 (T := 4) (v := .bool r5_2) (by kernel_rfl) ?_
          refine AtE.run 1 (fun W => by kernel_rfl) ?_
          refine AtE.split 71 (b := r5_2) (by kernel_rfl) (fun h8' => ?_) (fun h8' => ?_)
          · first | exact absurd h5' h8' | exact absurd h8' h5' | simp_all
          · skip
            refine AtE.run 7 (fun W => by kernel_rfl) ?_
            refine AtE.letI 12 (kd := .i64) (n := (IntKind.i64.wrap (i + (1 : Int)))) (by kernel_rfl) (fun i2 hi2 => ?_)
            replace H := H i2 hi2
            refine AtE.run 2 (fun W => by kernel_rfl) ?_
            exact AtE.cutT [1] 2 H (by kernel_rfl)
    · replace H := H.2 h3'
      refine AtE.run 6 (fun W => by kernel_rfl) ?_
      refine AtE.call 21 ⟨[.pointer d, .slice none 0 0, .int .i64 torn1]⟩ (fun W => by kernel_rfl) (by kernel_rfl) H ?_
      clear H
      rintro _ _ ⟨r81, F5, rfl, rfl, H⟩
      refine AtE.run 6 (fun W => by kernel_rfl) ?_
      refine AtE.call 13 ⟨[.pointer d, .int .i64 (0 : Int), .int .i64 size2]⟩ (fun W => by kernel_rfl) (by kernel_rfl) H ?_
      clear H
      rintro _ _ ⟨r91, r101, F6, rfl, rfl, H⟩
      refine AtE.run 10 (fun W => by kernel_rfl) ?_
      refine AtE.split 84 (b := up) (by kernel_rfl) (fun h9' => ?_) (fun h9' => ?_)
      · replace H := H.1 h9'
        refine AtE.run 4 (fun W => by kernel_rfl) ?_
        refine AtE.splitP 88 (p := r81 = (0 : Int)) (by kernel_rfl) (fun h10' => ?_) (fun h10' => ?_)
        · replace H := H.1 h10'
          refine AtE.run 4 (fun W => by kernel_rfl) ?_
          refine AtE.splitP 92 (p := r101 = (0 : Int)) (by kernel_rfl) (fun h11' => ?_) (fun h11' => ?_)
          · replace H := H.1 h11'
            refine AtE.norm (k' := [.inRegion (regOps [.code (sub (Eng.body Try.f6) [1, 1, 1, 1, 1, 1, 1, 1, 1, 1, 0])]) [10, 11, 12, 13, 14, 15, 16, 17, 18, 19], .code (sub (Eng.body Try.f6) [1, 1, 1, 1, 1, 1, 1, 1, 1, 1, 1])]) (e' := [(8, .pointer d), (11, .string sure1), (15, .string r91), (92, .bool true)]) (L' := ((B1, .cells ⟨cs⟩ 5) :: F6)) ?_ (by kernel_rfl)
            refine AtE.run 5 (fun W => by kernel_rfl) ?_
            refine AtE.splitS 97 (x := r91) (y := sure1) (by kernel_rfl) (fun h12' => ?_) (fun h12' => ?_)
            · replace H := H.1 h12'
              refine AtE.run 1 (fun W => by kernel_rfl) ?_
              refine AtE.call 16 ⟨[.pointer d]⟩ (fun W => by kernel_rfl) (by kernel_rfl) H ?_
              clear H
              rintro _ _ ⟨r111, F7, rfl, rfl, H⟩
              refine AtE.run 4 (fun W => by kernel_rfl) ?_
              exact AtE.ret Try.func6 (by kernel_rfl) H
            · replace H := H.2 h12'
              refine AtE.run 6 (fun W => by kernel_rfl) ?_
              exact AtE.ret Try.func6 (by kernel_rfl) H
          · replace H := H.2 h11'
            refine AtE.norm (k' := [.inRegion (regOps [.code (sub (Eng.body Try.f6) [1, 1, 1, 1, 1, 1, 1, 1, 1, 1, 0])]) [10, 11, 12, 13, 14, 15, 16, 17, 18, 19], .code (sub (Eng.body Try.f6) [1, 1, 1, 1, 1, 1, 1, 1, 1, 1, 1])]) (e' := [(8, .pointer d), (11, .string sure1), (15, .string r91), (92, .bool false)]) (L' := ((B1, .cells ⟨cs⟩ 5) :: F6)) ?_ (by kernel_rfl)
            refine AtE.run 11 (fun W => by kernel_rfl) ?_
            exact AtE.ret Try.func6 (by kernel_rfl) H
        · replace H := H.2 h10'
          refine AtE.run 15 (fun W => by kernel_rfl) ?_
          exact AtE.ret Try.func6 (by kernel_rfl) H
      · replace H := H.2 h9'
        refine AtE.run 19 (fun W => by kernel_rfl) ?_
        exact AtE.ret Try.func6 (by kernel_rfl) H
  · replace H := H.2 h2'
    refine AtE.run 10 (fun W => by kernel_rfl) ?_
    refine AtE.call 21 ⟨[.pointer d, .slice none 0 0, .int .i64 torn1]⟩ (fun W => by kernel_rfl) (by kernel_rfl) H ?_
    clear H
    rintro _ _ ⟨r121, F8, rfl, rfl, H⟩
    refine AtE.run 6 (fun W => by kernel_rfl) ?_
    refine AtE.call 13 ⟨[.pointer d, .int .i64 (0 : Int), .int .i64 size2]⟩ (fun W => by kernel_rfl) (by kernel_rfl) H ?_
    clear H
    rintro _ _ ⟨r131, r141, F9, rfl, rfl, H⟩
    refine AtE.run 10 (fun W => by kernel_rfl) ?_
    refine AtE.split 84 (b := up) (by kernel_rfl) (fun h13' => ?_) (fun h13' => ?_)
    · replace H := H.1 h13'
      refine AtE.run 4 (fun W => by kernel_rfl) ?_
      refine AtE.splitP 88 (p := r121 = (0 : Int)) (by kernel_rfl) (fun h14' => ?_) (fun h14' => ?_)
      · replace H := H.1 h14'
        refine AtE.run 4 (fun W => by kernel_rfl) ?_
        refine AtE.splitP 92 (p := r141 = (0 : Int)) (by kernel_rfl) (fun h15' => ?_) (fun h15' => ?_)
        · replace H := H.1 h15'
          refine AtE.run 5 (fun W => by kernel_rfl) ?_
          refine AtE.splitS 97 (x := r131) (y := sure1) (by kernel_rfl) (fun h16' => ?_) (fun h16' => ?_)
          · replace H := H.1 h16'
            refine AtE.norm (k' := [.inRegion (regOps [.code (sub (Eng.body Try.f6) [1, 1, 1, 1, 1, 1, 1, 1, 1, 1, 0])]) [15, 16, 17, 18, 19], .code (sub (Eng.body Try.f6) [1, 1, 1, 1, 1, 1, 1, 1, 1, 1, 1])]) (e' := [(8, .pointer d), (97, .bool true)]) (L' := ((B1, .cells ⟨cs⟩ 5) :: F9)) ?_ (by kernel_rfl)
            refine AtE.run 1 (fun W => by kernel_rfl) ?_
            refine AtE.call 16 ⟨[.pointer d]⟩ (fun W => by kernel_rfl) (by kernel_rfl) H ?_
            clear H
            rintro _ _ ⟨r151, F10, rfl, rfl, H⟩
            refine AtE.run 4 (fun W => by kernel_rfl) ?_
            exact AtE.ret Try.func6 (by kernel_rfl) H
          · replace H := H.2 h16'
            refine AtE.norm (k' := [.inRegion (regOps [.code (sub (Eng.body Try.f6) [1, 1, 1, 1, 1, 1, 1, 1, 1, 1, 0])]) [15, 16, 17, 18, 19], .code (sub (Eng.body Try.f6) [1, 1, 1, 1, 1, 1, 1, 1, 1, 1, 1])]) (e' := [(8, .pointer d), (97, .bool false)]) (L' := ((B1, .cells ⟨cs⟩ 5) :: F9)) ?_ (by kernel_rfl)
            refine AtE.run 6 (fun W => by kernel_rfl) ?_
            exact AtE.ret Try.func6 (by kernel_rfl) H
        · replace H := H.2 h15'
          refine AtE.run 11 (fun W => by kernel_rfl) ?_
          exact AtE.ret Try.func6 (by kernel_rfl) H
      · replace H := H.2 h14'
        refine AtE.run 15 (fun W => by kernel_rfl) ?_
        exact AtE.ret Try.func6 (by kernel_rfl) H
    · replace H := H.2 h13'
      refine AtE.run 19 (fun W => by kernel_rfl) ?_
      exact AtE.ret Try.func6 (by kernel_rfl) H

theorem Synced_vc (size : Int) (l_p : Option Addr) (l_l : Nat) (l_c : Nat) (torn : Int) (F : SHeap) {R : Ending → World → Prop} {w0 W : World} (hm : Mem (F) [] w0 W)
    (H :
      CallH Try.prog 11 ⟨[]⟩ (F) [] w0 (fun v L' => ∃ (r1 : Bool), v = (.bool r1) ∧ L' = (F) ∧
        CallH Try.prog 14 ⟨[.int .i64 size, .int .i64 (300 : Int)]⟩ (F) [] w0 (fun v L' => ∃ (r21 : Int), v = (.int .i64 r21) ∧ L' = (F) ∧
          ∀ size1 : Int, size1 = (IntKind.i64.wrap ((1 : Int) + r21)) →
          CallH Try.prog 12 ⟨[.int .i64 size1]⟩ (F) [] w0 (fun v L' => ∃ (r31 : Option Addr) (r41 : Int) (F1 : SHeap), v = (.tuple #[.pointer r31, .int .i64 r41]) ∧ L' = (F1) ∧
            ((¬ (r41 = (0 : Int))) →
              Fin R (F1) [] w0 (.bool false)) ∧
             ((r41 = (0 : Int)) →
              (0 ≤ size1 ∧ size1 ≤ size1 ∧ 1 * size1 ≤ 281474976710656 ∧ size1 ≤ 9223372036854775807) ∧
              ∀ B : Nat,
              ∃ bs : List UInt8, ((((List.replicate (Int.toNat size1) (.int .u8 (0 : Int)))).drop 0).take (Int.toNat size1) = bytesL bs ∧ bs.length = (Int.toNat size1)) ∧
              ∀ sure : ByteArray, sure = ⟨bs.toArray⟩ →
              Synced_c0 B size1 l_p l_l l_c torn r1 r31 (Int.toNat size1) (Int.toNat size1) sure (0 : Int) (List.replicate (Int.toNat size1) (.int .u8 (0 : Int))) F1 w0 R))))) :
    Calls Try.prog 6 ⟨[.int .i64 size, .slice l_p l_l l_c, .int .i64 torn]⟩ W R := by
  refine AtE.calls (nt := 102) Try.func6 (by kernel_rfl) hm ?_
  refine AtE.run 6 (fun W => by kernel_rfl) ?_
  refine AtE.call 11 ⟨[]⟩ (fun W => by kernel_rfl) (by kernel_rfl) H ?_
  clear H
  rintro _ F ⟨r1, rfl, rfl, H⟩
  refine AtE.run 5 (fun W => by kernel_rfl) ?_
  refine AtE.call 14 ⟨[.int .i64 size, .int .i64 (300 : Int)]⟩ (fun W => by kernel_rfl) (by kernel_rfl) H ?_
  clear H
  rintro _ F ⟨r21, rfl, rfl, H⟩
  refine AtE.run 2 (fun W => by kernel_rfl) ?_
  refine AtE.letI 0 (kd := .i64) (n := (IntKind.i64.wrap ((1 : Int) + r21))) (by kernel_rfl) (fun size1 hsize1 => ?_)
  replace H := H size1 hsize1
  refine AtE.run 4 (fun W => by kernel_rfl) ?_
  refine AtE.call 12 ⟨[.int .i64 size1]⟩ (fun W => by kernel_rfl) (by kernel_rfl) H ?_
  clear H
  rintro _ F1 ⟨r31, r41, _, rfl, rfl, H⟩
  refine AtE.run 12 (fun W => by kernel_rfl) ?_
  refine AtE.splitN 27 (p := r41 = (0 : Int)) (by kernel_rfl) (fun h1' => ?_) (fun h1' => ?_)
  · replace H := H.1 h1'
    refine AtE.run 5 (fun W => by kernel_rfl) ?_
    exact AtE.ret Try.func6 (by kernel_rfl) H
  · replace H := H.2 h1'
    refine AtE.run 5 (fun W => by kernel_rfl) ?_
    refine AtE.make (E := 5) (kl := .i64) (kc := .i64) (n := size1) (m := size1) (z := .int .u8 (0 : Int)) (bytes := 1) (by kernel_rfl) H.1 (fun B => ?_)
    replace H := H.2 B
    refine AtE.front ?_
    refine AtE.run 5 (fun W => by kernel_rfl) ?_
    obtain ⟨bs, hb, H⟩ := H
    refine AtE.toString 0 (E := 5) (o := 0) (len := (Int.toNat size1)) (cap := (Int.toNat size1)) (c := (List.replicate (Int.toNat size1) (.int .u8 (0 : Int)))) (l := bs) (by kernel_rfl) hb ?_
    refine AtE.norm (k' := [.inRegion (regOps [.code (sub (Eng.body Try.f6) [1, 1, 1, 1, 1, 1, 0])]) [2], .code (sub (Eng.body Try.f6) [1, 1, 1, 1, 1, 1, 1])]) (e' := [(0, .int .i64 size1), (1, .slice l_p l_l l_c), (2, .int .i64 torn), (7, .bool r1), (8, .pointer r31), (10, .slice (some ⟨B, 0, none⟩) (Int.toNat size1) (Int.toNat size1)), (31, .string (⟨bs.toArray⟩))]) (L' := ((B, .cells ⟨(List.replicate (Int.toNat size1) (.int .u8 (0 : Int)))⟩ 5) :: F1)) ?_ (by kernel_rfl)
    refine AtE.run 1 (fun W => by kernel_rfl) ?_
    refine AtE.letS 11 (n := ⟨bs.toArray⟩) (by kernel_rfl) (fun sure hsure => ?_)
    replace H := H sure hsure
    refine AtE.run 8 (fun W => by kernel_rfl) ?_
    exact AtE.cutT [0] 1 H (by kernel_rfl)

end Go.Eng
