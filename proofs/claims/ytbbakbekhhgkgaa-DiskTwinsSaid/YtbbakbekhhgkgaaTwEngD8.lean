/- Verification conditions of the functions, written by a program of the prover, checked here. -/
import Derived.Test.YtbbakbekhhgkgaaTwEngInl

import Derived.Test.YtbbakbekhhgkgaaTwEngFreeRules

import Derived.Test.YtbbakbekhhgkgaaChecked

namespace Go.Eng

open Go Go.RowKit Go.Proofs

set_option linter.unusedVariables false

set_option maxRecDepth 100000

def Twins_c0 (size2 : Int) (l1_p : Option Addr) (l1_l : Nat) (l1_c : Nat) (up : Bool) (cv : Option Addr) (d : Option Addr) (alone : Option Addr) (i : Int) (F4 : SHeap) (w0 : World) (R : Ending → World → Prop) : Prop :=
  AtE Try.prog 10 150 [.code (sub (Eng.body Try.f10) [1, 1, 1, 1, 1, 1, 1, 0, 1, 0, 0]), .inLoop (sub (Eng.body Try.f10) [1, 1, 1, 1, 1, 1, 1, 0, 1, 0, 0]), .inBlock 0, .code (sub (Eng.body Try.f10) [1, 1, 1, 1, 1, 1, 1, 1])] [(0, .int .i64 size2), (1, .slice l1_p l1_l l1_c), (5, .bool up), (6, .pointer cv), (8, .pointer d), (10, .pointer alone), (12, .int .i64 i)] (F4) [] w0 (nrm R)

def Twins_c1 (size3 : Int) (up1 : Bool) (cv1 : Option Addr) (alone1 : Option Addr) (F13 : SHeap) (w0 : World) (R : Ending → World → Prop) : Prop :=
  AtE Try.prog 10 150 [.code (sub (Eng.body Try.f10) [1, 1, 1, 1, 1, 1, 1, 1])] [(0, .int .i64 size3), (5, .bool up1), (6, .pointer cv1), (10, .pointer alone1)] (F13) [] w0 (nrm R)

theorem Twins_c0_vc (size2 : Int) (l1_p : Option Addr) (l1_l : Nat) (l1_c : Nat) (up : Bool) (cv : Option Addr) (d : Option Addr) (alone : Option Addr) (i : Int) (F4 : SHeap) {R : Ending → World → Prop} {w0 : World}
    (H :
      ((i < (l1_l : Int)) →
        ((i < (30 : Int)) →
          ∃ l1_pb l1_po : Nat, l1_p = some ⟨l1_pb, l1_po, none⟩ ∧
          (0 ≤ i ∧ i < l1_l) ∧
          ∃ (cw : List Value) (m_0 : Int) (m_1 : ByteArray) (m_2 : Bool), blkW w0 l1_pb = some cw ∧ ((cw.drop (l1_po + ((Int.toNat i) * 3))).take 3 = [.int .i64 m_0, .string m_1, .bool m_2] ∧ (l1_po + ((Int.toNat i) * 3)) + 3 ≤ cw.length) ∧
          CallH Try.prog 22 ⟨[.agg #[.int .i64 m_0, .string m_1, .bool m_2], .int .i64 size2]⟩ (F4) [] w0 (fun v L' => ∃ (r9_0 : Int) (r9_1 : ByteArray) (r9_2 : Bool), v = (.agg #[.int .i64 r9_0, .string r9_1, .bool r9_2]) ∧ L' = (F4) ∧
            ∀ B : Nat,
            (((i.tmod (2 : Int)) = (1 : Int)) →
              CallH Try.prog 17 ⟨[.pointer d, .int .i64 r9_0, .string r9_1]⟩ ((B, .cells #[.int .i64 r9_0, .string r9_1, .bool r9_2] 42) :: F4) [] w0 (fun v L' => ∃ (r101 : Int) (F5 : SHeap), v = (.int .i64 r101) ∧ L' = ((B, .cells #[.int .i64 r9_0, .string r9_1, .bool r9_2] 42) :: F5) ∧
                ((¬ (r101 = (0 : Int))) →
                  Fin R ((B, .cells #[.int .i64 r9_0, .string r9_1, .bool r9_2] 42) :: F5) [] w0 (.bool false)) ∧
                 ((r101 = (0 : Int)) →
                  ((r9_2 = true) →
                    CallH Try.prog 19 ⟨[.pointer d]⟩ ((B, .cells #[.int .i64 r9_0, .string r9_1, .bool r9_2] 42) :: F5) [] w0 (fun v L' => ∃ (r111 : Int) (F6 : SHeap), v = (.int .i64 r111) ∧ L' = ((B, .cells #[.int .i64 r9_0, .string r9_1, .bool r9_2] 42) :: F6) ∧
                      ((¬ (r111 = (0 : Int))) →
                        Fin R ((B, .cells #[.int .i64 r9_0, .string r9_1, .bool r9_2] 42) :: F6) [] w0 (.bool false)) ∧
                       ((r111 = (0 : Int)) →
                        (((r9_0.tmod (7 : Int)) = (3 : Int)) →
                          CallH Try.prog 21 ⟨[.pointer d, .slice none 0 0, .int .i64 (1 : Int)]⟩ ((B, .cells #[.int .i64 r9_0, .string r9_1, .bool r9_2] 42) :: F6) [] w0 (fun v L' => ∃ (r121 : Int) (F7 : SHeap), v = (.int .i64 r121) ∧ L' = ((B, .cells #[.int .i64 r9_0, .string r9_1, .bool r9_2] 42) :: F7) ∧
                            ((¬ (r121 = (0 : Int))) →
                              Fin R ((B, .cells #[.int .i64 r9_0, .string r9_1, .bool r9_2] 42) :: F7) [] w0 (.bool false)) ∧
                             ((r121 = (0 : Int)) →
                              ∀ i1 : Int, i1 = (IntKind.i64.wrap (i + (1 : Int))) →
                              Twins_c0 size2 (some ⟨l1_pb, l1_po, none⟩) l1_l l1_c up cv d alone i1 F7 w0 R))) ∧
                         ((¬ ((r9_0.tmod (7 : Int)) = (3 : Int))) →
                          ∀ i2 : Int, i2 = (IntKind.i64.wrap (i + (1 : Int))) →
                          Twins_c0 size2 (some ⟨l1_pb, l1_po, none⟩) l1_l l1_c up cv d alone i2 F6 w0 R)))) ∧
                   ((r9_2 = false) →
                    (((r9_0.tmod (7 : Int)) = (3 : Int)) →
                      CallH Try.prog 21 ⟨[.pointer d, .slice none 0 0, .int .i64 (1 : Int)]⟩ ((B, .cells #[.int .i64 r9_0, .string r9_1, .bool r9_2] 42) :: F5) [] w0 (fun v L' => ∃ (r131 : Int) (F8 : SHeap), v = (.int .i64 r131) ∧ L' = ((B, .cells #[.int .i64 r9_0, .string r9_1, .bool r9_2] 42) :: F8) ∧
                        ((¬ (r131 = (0 : Int))) →
                          Fin R ((B, .cells #[.int .i64 r9_0, .string r9_1, .bool r9_2] 42) :: F8) [] w0 (.bool false)) ∧
                         ((r131 = (0 : Int)) →
                          ∀ i3 : Int, i3 = (IntKind.i64.wrap (i + (1 : Int))) →
                          Twins_c0 size2 (some ⟨l1_pb, l1_po, none⟩) l1_l l1_c up cv d alone i3 F8 w0 R))) ∧
                     ((¬ ((r9_0.tmod (7 : Int)) = (3 : Int))) →
                      ∀ i4 : Int, i4 = (IntKind.i64.wrap (i + (1 : Int))) →
                      Twins_c0 size2 (some ⟨l1_pb, l1_po, none⟩) l1_l l1_c up cv d alone i4 F5 w0 R))))) ∧
             ((¬ ((i.tmod (2 : Int)) = (1 : Int))) →
              CallH Try.prog 17 ⟨[.pointer cv, .int .i64 r9_0, .string r9_1]⟩ ((B, .cells #[.int .i64 r9_0, .string r9_1, .bool r9_2] 42) :: F4) [] w0 (fun v L' => ∃ (r141 : Int) (F9 : SHeap), v = (.int .i64 r141) ∧ L' = ((B, .cells #[.int .i64 r9_0, .string r9_1, .bool r9_2] 42) :: F9) ∧
                CallH Try.prog 17 ⟨[.pointer alone, .int .i64 r9_0, .string r9_1]⟩ ((B, .cells #[.int .i64 r9_0, .string r9_1, .bool r9_2] 42) :: F9) [] w0 (fun v L' => ∃ (r151 : Int) (F10 : SHeap), v = (.int .i64 r151) ∧ L' = ((B, .cells #[.int .i64 r9_0, .string r9_1, .bool r9_2] 42) :: F10) ∧
                  ((¬ (r141 = r151)) →
                    Fin R ((B, .cells #[.int .i64 r9_0, .string r9_1, .bool r9_2] 42) :: F10) [] w0 (.bool false)) ∧
                   ((r141 = r151) →
                    ((r9_2 = true) →
                      CallH Try.prog 19 ⟨[.pointer cv]⟩ ((B, .cells #[.int .i64 r9_0, .string r9_1, .bool r9_2] 42) :: F10) [] w0 (fun v L' => ∃ (r161 : Int) (F11 : SHeap), v = (.int .i64 r161) ∧ L' = ((B, .cells #[.int .i64 r9_0, .string r9_1, .bool r9_2] 42) :: F11) ∧
                        CallH Try.prog 19 ⟨[.pointer alone]⟩ ((B, .cells #[.int .i64 r9_0, .string r9_1, .bool r9_2] 42) :: F11) [] w0 (fun v L' => ∃ (r171 : Int) (F12 : SHeap), v = (.int .i64 r171) ∧ L' = ((B, .cells #[.int .i64 r9_0, .string r9_1, .bool r9_2] 42) :: F12) ∧
                          ((¬ (r161 = r171)) →
                            Fin R ((B, .cells #[.int .i64 r9_0, .string r9_1, .bool r9_2] 42) :: F12) [] w0 (.bool false)) ∧
                           ((r161 = r171) →
                            ∀ i5 : Int, i5 = (IntKind.i64.wrap (i + (1 : Int))) →
                            Twins_c0 size2 (some ⟨l1_pb, l1_po, none⟩) l1_l l1_c up cv d alone i5 F12 w0 R)))) ∧
                     ((r9_2 = false) →
                      ∀ i6 : Int, i6 = (IntKind.i64.wrap (i + (1 : Int))) →
                      Twins_c0 size2 (some ⟨l1_pb, l1_po, none⟩) l1_l l1_c up cv d alone i6 F10 w0 R))))))) ∧
         ((¬ (i < (30 : Int))) →
          Twins_c1 size2 up cv alone F4 w0 R)) ∧
       ((¬ (i < (l1_l : Int))) →
        Twins_c1 size2 up cv alone F4 w0 R)) :
    Twins_c0 size2 l1_p l1_l l1_c up cv d alone i F4 w0 R := by
  unfold Twins_c0
  refine AtE.run 8 (fun W => by kernel_rfl) ?_
  refine AtE.splitP 51 (p := i < (l1_l : Int)) (by kernel_rfl) (fun h4' => ?_) (fun h4' => ?_)
  · replace H := H.1 h4'
    refine AtE.run 4 (fun W => by kernel_rfl) ?_
    refine AtE.splitP 54 (p := i < (30 : Int)) (by kernel_rfl) (fun h5' => ?_) (fun h5' => ?_)
    · replace H := H.1 h5'
      refine AtE.run 8 (fun W => by kernel_rfl) ?_
      obtain ⟨l1_pb, l1_po, rfl, H⟩ := H
      refine AtE.indexAddrL (E := 42) (b := l1_pb) (o := l1_po) (len := l1_l) (cap := l1_c) (sz := 3) (o' := (l1_po + ((Int.toNat i) * 3))) (kd := .i64) (i := i) (by kernel_rfl) H.1 (by omega) ?_
      replace H := H.2
      obtain ⟨cw, m_0, m_1, m_2, hw, hx, H⟩ := H
      refine AtE.loadW (b := l1_pb) (off := (l1_po + ((Int.toNat i) * 3))) (T := 42) (v := .agg #[.int .i64 m_0, .string m_1, .bool m_2]) (by kernel_rfl) List.not_mem_nil hw (valAt_agg hx.1 hx.2 (by kernel_rfl) (by kernel_rfl)) ?_
      refine AtE.run 1 (fun W => by kernel_rfl) ?_
      refine AtE.call 22 ⟨[.agg #[.int .i64 m_0, .string m_1, .bool m_2], .int .i64 size2]⟩ (fun W => by kernel_rfl) (by kernel_rfl) H ?_
      clear H
      rintro _ F4 ⟨r9_0, r9_1, r9_2, rfl, rfl, H⟩
      refine AtE.new (fun B => .pointer (some ⟨B, 0, none⟩)) (.cells #[.int .i64 (0 : Int), .string (⟨#[]⟩), .bool false] 42) (fun W => by kernel_rfl) (by kernel_rfl) (fun B => ?_)
      replace H := H B
      refine AtE.front ?_
      refine AtE.norm (k' := [.inRegion (regOps [.code (sub (Eng.body Try.f10) [1, 1, 1, 1, 1, 1, 1, 0, 1, 0, 0, 1, 0, 0, 0])]) [7], .code (sub (Eng.body Try.f10) [1, 1, 1, 1, 1, 1, 1, 0, 1, 0, 0, 1, 0, 0, 1]), .inBlock 1, .code (sub (Eng.body Try.f10) [1, 1, 1, 1, 1, 1, 1, 0, 1, 0, 0, 1, 1]), .inLoop (sub (Eng.body Try.f10) [1, 1, 1, 1, 1, 1, 1, 0, 1, 0, 0]), .inBlock 0, .code (sub (Eng.body Try.f10) [1, 1, 1, 1, 1, 1, 1, 1])]) (e' := [(0, .int .i64 size2), (1, .slice (some ⟨l1_pb, l1_po, none⟩) l1_l l1_c), (5, .bool up), (6, .pointer cv), (8, .pointer d), (10, .pointer alone), (12, .int .i64 i), (13, .pointer (some ⟨B, 0, none⟩)), (62, .agg #[.int .i64 r9_0, .string r9_1, .bool r9_2])]) (L' := ((B, .cells #[.int .i64 (0 : Int), .string (⟨#[]⟩), .bool false] 42) :: F4)) ?_ (by kernel_rfl)
      refine AtE.store 0 0 (T := 42) (v := .agg #[.int .i64 r9_0, .string r9_1, .bool r9_2]) (by kernel_rfl) ?_
      refine AtE.run 8 (fun W => by kernel_rfl) ?_
      refine AtE.splitP 65 (p := (i.tmod (2 : Int)) = (1 : Int)) (by kernel_rfl) (fun h6' => ?_) (fun h6' => ?_)
      · replace H := H.1 h6'
        refine AtE.run 6 (fun W => by kernel_rfl) ?_
        refine AtE.load 0 0 (T := 3) (v := .int .i64 r9_0) (by kernel_rfl) ?_
        refine AtE.run 1 (fun W => by kernel_rfl) ?_
        refine AtE.load 0 1 (T := 9) (v := .string r9_1) (by kernel_rfl) ?_
        refine AtE.call 17 ⟨[.pointer d, .int .i64 r9_0, .string r9_1]⟩ (fun W => by kernel_rfl) (by kernel_rfl) H ?_
        clear H
        rintro _ _ ⟨r101, F5, rfl, rfl, H⟩
        refine AtE.run 2 (fun W => by kernel_rfl) ?_
        refine AtE.splitN 73 (p := r101 = (0 : Int)) (by kernel_rfl) (fun h7' => ?_) (fun h7' => ?_)
        · replace H := H.1 h7'
          refine AtE.run 25 (fun W => by kernel_rfl) ?_
          exact AtE.ret Try.func10 (by kernel_rfl) H
        · replace H := H.2 h7'
          refine AtE.run 1 (fun W => by kernel_rfl) ?_
          refine AtE.load 0 2 (T := 4) (v := .bool r9_2) (by kernel_rfl) ?_
          refine AtE.norm (k' := [.inRegion (regOps [.code (sub (Eng.body Try.f10) [1, 1, 1, 1, 1, 1, 1, 0, 1, 0, 0, 1, 0, 0, 1, 0, 1, 0, 0, 0])]) [10, 11, 12, 13, 14, 15, 16, 17, 18, 19, 20, 21, 22, 23, 24, 25, 26], .code (sub (Eng.body Try.f10) [1, 1, 1, 1, 1, 1, 1, 0, 1, 0, 0, 1, 0, 0, 1, 0, 1, 0, 0, 1]), .code (sub (Eng.body Try.f10) [1, 1, 1, 1, 1, 1, 1, 0, 1, 0, 0, 1, 0, 0, 1, 0, 1, 0, 1]), .code (sub (Eng.body Try.f10) [1, 1, 1, 1, 1, 1, 1, 0, 1, 0, 0, 1, 0, 0, 1, 1]), .inBlock 1, .code (sub (Eng.body Try.f10) [1, 1, 1, 1, 1, 1, 1, 0, 1, 0, 0, 1, 1]), .inLoop (sub (Eng.body Try.f10) [1, 1, 1, 1, 1, 1, 1, 0, 1, 0, 0]), .inBlock 0, .code (sub (Eng.body Try.f10) [1, 1, 1, 1, 1, 1, 1, 1])]) (e' := [(0, .int .i64 size2), (1, .slice (some ⟨l1_pb, l1_po, none⟩) l1_l l1_c), (5, .bool up), (6, .pointer cv), (8, .pointer d), (10, .pointer alone), (12, .int .i64 i), (13, .pointer (some ⟨B, 0, none⟩)), (73, .bool false), (75, .bool r9_2)]) (L' := ((B, .cells #[.int .i64 r9_0, .string r9_1, .bool r9_2] 42) :: F5)) ?_ (by kernel_rfl)
          refine AtE.run 1 (fun W => by kernel_rfl) ?_
          refine AtE.split 76 (b := r9_2) (by kernel_rfl) (fun h8' => ?_) (fun h8' => ?_)
          · replace H := H.1 h8'
            refine AtE.run 1 (fun W => by kernel_rfl) ?_
            refine AtE.call 19 ⟨[.pointer d]⟩ (fun W => by kernel_rfl) (by kernel_rfl) H ?_
            clear H
            rintro _ _ ⟨r111, F6, rfl, rfl, H⟩
            refine AtE.run 4 (fun W => by kernel_rfl) ?_
            refine AtE.splitN 82 (p := r111 = (0 : Int)) (by kernel_rfl) (fun h9' => ?_) (fun h9' => ?_)
            · replace H := H.1 h9'
              refine AtE.run 16 (fun W => by kernel_rfl) ?_
              exact AtE.ret Try.func10 (by kernel_rfl) H
            · replace H := H.2 h9'
              refine AtE.run 1 (fun W => by kernel_rfl) ?_
              refine AtE.load 0 0 (T := 3) (v := .int .i64 r9_0) (by kernel_rfl) ?_
              refine AtE.run 3 (fun W => by kernel_rfl) ?_
              refine AtE.splitP 87 (p := (r9_0.tmod (7 : Int)) = (3 : Int)) (by kernel_rfl) (fun h10' => ?_) (fun h10' => ?_)
              · replace H := H.1 h10'
                refine AtE.run 1 (fun W => by kernel_rfl) ?_
                refine AtE.call 21 ⟨[.pointer d, .slice none 0 0, .int .i64 (1 : Int)]⟩ (fun W => by kernel_rfl) (by kernel_rfl) H ?_
                clear H
                rintro _ _ ⟨r121, F7, rfl, rfl, H⟩
                refine AtE.run 4 (fun W => by kernel_rfl) ?_
                refine AtE.splitN 92 (p := r121 = (0 : Int)) (by kernel_rfl) (fun h11' => ?_) (fun h11' => ?_)
                · replace H := H.1 h11'
                  refine AtE.norm (k' := [.code (sub (Eng.body Try.f10) [1, 1, 1, 1, 1, 1, 1, 0, 1, 0, 0, 1, 0, 0, 1, 0, 1, 0, 0, 1]), .code (sub (Eng.body Try.f10) [1, 1, 1, 1, 1, 1, 1, 0, 1, 0, 0, 1, 0, 0, 1, 0, 1, 0, 1]), .code (sub (Eng.body Try.f10) [1, 1, 1, 1, 1, 1, 1, 0, 1, 0, 0, 1, 0, 0, 1, 1]), .inBlock 1, .code (sub (Eng.body Try.f10) [1, 1, 1, 1, 1, 1, 1, 0, 1, 0, 0, 1, 1]), .inLoop (sub (Eng.body Try.f10) [1, 1, 1, 1, 1, 1, 1, 0, 1, 0, 0]), .inBlock 0, .code (sub (Eng.body Try.f10) [1, 1, 1, 1, 1, 1, 1, 1])]) (e' := [(0, .int .i64 size2), (1, .slice (some ⟨l1_pb, l1_po, none⟩) l1_l l1_c), (5, .bool up), (6, .pointer cv), (8, .pointer d), (10, .pointer alone), (12, .int .i64 i), (92, .bool true)]) (L' := ((B, .cells #[.int .i64 r9_0, .string r9_1, .bool r9_2] 42) :: F7)) ?_ (by kernel_rfl)
                  refine AtE.run 5 (fun W => by kernel_rfl) ?_
                  exact AtE.ret Try.func10 (by kernel_rfl) H
                · replace H := H.2 h11'
                  refine AtE.norm (k' := [.code (sub (Eng.body Try.f10) [1, 1, 1, 1, 1, 1, 1, 0, 1, 0, 0, 1, 0, 0, 1, 0, 1, 0, 0, 1]), .code (sub (Eng.body Try.f10) [1, 1, 1, 1, 1, 1, 1, 0, 1, 0, 0, 1, 0, 0, 1, 0, 1, 0, 1]), .code (sub (Eng.body Try.f10) [1, 1, 1, 1, 1, 1, 1, 0, 1, 0, 0, 1, 0, 0, 1, 1]), .inBlock 1, .code (sub (Eng.body Try.f10) [1, 1, 1, 1, 1, 1, 1, 0, 1, 0, 0, 1, 1]), .inLoop (sub (Eng.body Try.f10) [1, 1, 1, 1, 1, 1, 1, 0, 1, 0, 0]), .inBlock 0, .code (sub (Eng.body Try.f10) [1, 1, 1, 1, 1, 1, 1, 1])]) (e' := [(0, .int .i64 size2), (1, .slice (some ⟨l1_pb, l1_po, none⟩) l1_l l1_c), (5, .bool up), (6, .pointer cv), (8, .pointer d), (10, .pointer alone), (12, .int .i64 i), (92, .bool false)]) (L' := ((B, .cells #[.int .i64 r9_0, .string r9_1, .bool r9_2] 42) :: F7)) ?_ (by kernel_rfl)
                  refine AtE.run 7 (fun W => by kernel_rfl) ?_
                  refine AtE.letI 12 (kd := .i64) (n := (IntKind.i64.wrap (i + (1 : Int)))) (by kernel_rfl) (fun i1 hi1 => ?_)
                  replace H := H i1 hi1
                  refine AtE.run 2 (fun W => by kernel_rfl) ?_
                  exact AtE.cutT [] 1 H (by kernel_rfl)
              · replace H := H.2 h10'
                refine AtE.run 13 (fun W => by kernel_rfl) ?_
                refine AtE.letI 12 (kd := .i64) (n := (IntKind.i64.wrap (i + (1 : Int)))) (by kernel_rfl) (fun i2 hi2 => ?_)
                replace H := H i2 hi2
                refine AtE.run 2 (fun W => by kernel_rfl) ?_
                exact AtE.cutT [] 1 H (by kernel_rfl)
          · replace H := H.2 h8'
            refine AtE.run 7 (fun W => by kernel_rfl) ?_
            refine AtE.load 0 0 (T := 3) (v := .int .i64 r9_0) (by kernel_rfl) ?_
            refine AtE.run 3 (fun W => by kernel_rfl) ?_
            refine AtE.splitP 87 (p := (r9_0.tmod (7 : Int)) = (3 : Int)) (by kernel_rfl) (fun h12' => ?_) (fun h12' => ?_)
            · replace H := H.1 h12'
              refine AtE.run 1 (fun W => by kernel_rfl) ?_
              refine AtE.call 21 ⟨[.pointer d, .slice none 0 0, .int .i64 (1 : Int)]⟩ (fun W => by kernel_rfl) (by kernel_rfl) H ?_
              clear H
              rintro _ _ ⟨r131, F8, rfl, rfl, H⟩
              refine AtE.run 4 (fun W => by kernel_rfl) ?_
              refine AtE.splitN 92 (p := r131 = (0 : Int)) (by kernel_rfl) (fun h13' => ?_) (fun h13' => ?_)
              · replace H := H.1 h13'
                refine AtE.run 5 (fun W => by kernel_rfl) ?_
                exact AtE.ret Try.func10 (by kernel_rfl) H
              · replace H := H.2 h13'
                refine AtE.run 7 (fun W => by kernel_rfl) ?_
                refine AtE.letI 12 (kd := .i64) (n := (IntKind.i64.wrap (i + (1 : Int)))) (by kernel_rfl) (fun i3 hi3 => ?_)
                replace H := H i3 hi3
                refine AtE.run 2 (fun W => by kernel_rfl) ?_
                exact AtE.cutT [] 1 H (by kernel_rfl)
            · replace H := H.2 h12'
              refine AtE.run 13 (fun W => by kernel_rfl) ?_
              refine AtE.letI 12 (kd := .i64) (n := (IntKind.i64.wrap (i + (1 : Int)))) (by kernel_rfl) (fun i4 hi4 => ?_)
              replace H := H i4 hi4
              refine AtE.run 2 (fun W => by kernel_rfl) ?_
              exact AtE.cutT [] 1 H (by kernel_rfl)
      · replace H := H.2 h6'
        refine AtE.run 3 (fun W => by kernel_rfl) ?_
        refine AtE.norm (k' := [.code (sub (Eng.body Try.f10) [1, 1, 1, 1, 1, 1, 1, 0, 1, 0, 0, 1, 0, 0, 1, 1, 0]), .code (sub (Eng.body Try.f10) [1, 1, 1, 1, 1, 1, 1, 0, 1, 0, 0, 1, 0, 0, 1, 1, 1]), .inBlock 1, .code (sub (Eng.body Try.f10) [1, 1, 1, 1, 1, 1, 1, 0, 1, 0, 0, 1, 1]), .inLoop (sub (Eng.body Try.f10) [1, 1, 1, 1, 1, 1, 1, 0, 1, 0, 0]), .inBlock 0, .code (sub (Eng.body Try.f10) [1, 1, 1, 1, 1, 1, 1, 1])]) (e' := [(0, .int .i64 size2), (1, .slice (some ⟨l1_pb, l1_po, none⟩) l1_l l1_c), (5, .bool up), (6, .pointer cv), (8, .pointer d), (10, .pointer alone), (12, .int .i64 i), (13, .pointer (some ⟨B, 0, none⟩))]) (L' := ((B, .cells #[.int .i64 r9_0, .string r9_1, .bool r9_2] 42) :: F4)) ?_ (by kernel_rfl)
        refine AtE.drawD (by kernel_rfl) ?_
        refine AtD.norm (e' := [(0, .int .i64 size2), (1, .slice (some ⟨l1_pb, l1_po, none⟩) l1_l l1_c), (5, .bool up), (6, .pointer cv), (8, .pointer d), (10, .pointer alone), (12, .int .i64 i), (13, .pointer (some ⟨B, 0, none⟩))]) (L' := ((B, .cells #[.int .i64 r9_0, .string r9_1, .bool r9_2] 42) :: F4)) ?_ (by kernel_rfl)
        refine AtD.phase 12 [0, 1, 2, 3, 4, 6, 7, 8, 9, 10] [5, 11] [(B, .cells #[.int .i64 r9_0, .string r9_1, .bool r9_2] 42)] (by kernel_rfl) rfl ?_
        refine AtF.pure (by kernel_rfl) (fun W => by kernel_rfl) ?_
        refine AtF.pure (by kernel_rfl) (fun W => by kernel_rfl) ?_
        refine AtF.load 0 0 (T := 3) (v := .int .i64 r9_0) (by kernel_rfl) ?_
        refine AtF.pure (by kernel_rfl) (fun W => by kernel_rfl) ?_
        refine AtF.load 0 1 (T := 9) (v := .string r9_1) (by kernel_rfl) ?_
        refine AtF.pure (by kernel_rfl) (fun W => by kernel_rfl) ?_
        refine AtF.pure (by kernel_rfl) (fun W => by kernel_rfl) ?_
        refine AtF.load 0 0 (T := 3) (v := .int .i64 r9_0) (by kernel_rfl) ?_
        refine AtF.pure (by kernel_rfl) (fun W => by kernel_rfl) ?_
        refine AtF.load 0 1 (T := 9) (v := .string r9_1) (by kernel_rfl) ?_
        refine AtF.done (by kernel_rfl) ?_
        refine AtM.call _ 17 ⟨[.pointer cv, .int .i64 r9_0, .string r9_1]⟩ rfl (fun W => by kernel_rfl) (by kernel_rfl) H ?_
        clear H
        rintro _ _ ⟨r141, F9, rfl, rfl, H⟩
        refine AtM.call _ 17 ⟨[.pointer alone, .int .i64 r9_0, .string r9_1]⟩ rfl (fun W => by kernel_rfl) (by kernel_rfl) H ?_
        clear H
        rintro _ _ ⟨r151, F10, rfl, rfl, H⟩
        refine AtM.done _ (by kernel_rfl) rfl ?_
        refine AtD.norm (e' := [(0, .int .i64 size2), (1, .slice (some ⟨l1_pb, l1_po, none⟩) l1_l l1_c), (5, .bool up), (6, .pointer cv), (8, .pointer d), (10, .pointer alone), (12, .int .i64 i), (13, .pointer (some ⟨B, 0, none⟩)), (98, .int .i64 r141), (104, .int .i64 r151)]) (L' := ((B, .cells #[.int .i64 r9_0, .string r9_1, .bool r9_2] 42) :: F10)) ?_ (by kernel_rfl)
        refine AtD.phase 21 [12, 13, 14, 15, 16, 17, 19] [18, 20] [(B, .cells #[.int .i64 r9_0, .string r9_1, .bool r9_2] 42)] (by kernel_rfl) rfl ?_
        refine AtF.pure (by kernel_rfl) (fun W => by kernel_rfl) ?_
        refine AtF.pure (by kernel_rfl) (fun W => by kernel_rfl) ?_
        refine AtF.splitN 106 (p := r141 = r151) (by kernel_rfl) (fun h14' => ?_) (fun h14' => ?_)
        · replace H := H.1 h14'
          refine AtF.skip (by kernel_rfl) ?_
          refine AtF.skip (by kernel_rfl) ?_
          refine AtF.skip (by kernel_rfl) ?_
          refine AtF.skip (by kernel_rfl) ?_
          refine AtF.skip (by kernel_rfl) ?_
          refine AtF.done (by kernel_rfl) ?_
          refine AtM.skip _ (by kernel_rfl) rfl ?_
          refine AtM.skip _ (by kernel_rfl) rfl ?_
          refine AtM.done _ (by kernel_rfl) rfl ?_
          refine AtD.norm (e' := [(0, .int .i64 size2), (1, .slice (some ⟨l1_pb, l1_po, none⟩) l1_l l1_c), (5, .bool up), (6, .pointer cv), (8, .pointer d), (10, .pointer alone), (12, .int .i64 i), (106, .bool true), (109, undef), (111, undef), (113, undef)]) (L' := ((B, .cells #[.int .i64 r9_0, .string r9_1, .bool r9_2] 42) :: F10)) ?_ (by kernel_rfl)
          refine AtD.tail (by kernel_rfl) ?_
          refine AtE.run 9 (fun W => by kernel_rfl) ?_
          exact AtE.ret Try.func10 (by kernel_rfl) H
        · replace H := H.2 h14'
          refine AtF.pure (by kernel_rfl) (fun W => by kernel_rfl) ?_
          refine AtF.load 0 2 (T := 4) (v := .bool r9_2) (by kernel_rfl) ?_
          refine AtF.pure (by kernel_rfl) (fun W => by kernel_rfl) ?_
          refine AtF.split 109 (b := r9_2) (by kernel_rfl) (fun h15' => ?_) (fun h15' => ?_)
          · replace H := H.1 h15'
            refine AtF.pure (by kernel_rfl) (fun W => by kernel_rfl) ?_
            refine AtF.pure (by kernel_rfl) (fun W => by kernel_rfl) ?_
            refine AtF.done (by kernel_rfl) ?_
            refine AtM.call _ 19 ⟨[.pointer cv]⟩ rfl (fun W => by kernel_rfl) (by kernel_rfl) H ?_
            clear H
            rintro _ _ ⟨r161, F11, rfl, rfl, H⟩
            refine AtM.call _ 19 ⟨[.pointer alone]⟩ rfl (fun W => by kernel_rfl) (by kernel_rfl) H ?_
            clear H
            rintro _ _ ⟨r171, F12, rfl, rfl, H⟩
            refine AtM.done _ (by kernel_rfl) rfl ?_
            refine AtD.norm (e' := [(0, .int .i64 size2), (1, .slice (some ⟨l1_pb, l1_po, none⟩) l1_l l1_c), (5, .bool up), (6, .pointer cv), (8, .pointer d), (10, .pointer alone), (12, .int .i64 i), (106, .bool false), (109, .bool true), (111, .int .i64 r161), (113, .int .i64 r171)]) (L' := ((B, .cells #[.int .i64 r9_0, .string r9_1, .bool r9_2] 42) :: F12)) ?_ (by kernel_rfl)
            refine AtD.tail (by kernel_rfl) ?_
            refine AtE.run 4 (fun W => by kernel_rfl) ?_
            refine AtE.splitN 116 (p := r161 = r171) (by kernel_rfl) (fun h16' => ?_) (fun h16' => ?_)
            · replace H := H.1 h16'
              refine AtE.run 5 (fun W => by kernel_rfl) ?_
              exact AtE.ret Try.func10 (by kernel_rfl) H
            · replace H := H.2 h16'
              refine AtE.run 7 (fun W => by kernel_rfl) ?_
              refine AtE.letI 12 (kd := .i64) (n := (IntKind.i64.wrap (i + (1 : Int)))) (by kernel_rfl) (fun i5 hi5 => ?_)
              replace H := H i5 hi5
              refine AtE.run 2 (fun W => by kernel_rfl) ?_
              exact AtE.cutT [] 1 H (by kernel_rfl)
          · replace H := H.2 h15'
            refine AtF.skip (by kernel_rfl) ?_
            refine AtF.skip (by kernel_rfl) ?_
            refine AtF.done (by kernel_rfl) ?_
            refine AtM.skip _ (by kernel_rfl) rfl ?_
            refine AtM.skip _ (by kernel_rfl) rfl ?_
            refine AtM.done _ (by kernel_rfl) rfl ?_
            refine AtD.norm (e' := [(0, .int .i64 size2), (1, .slice (some ⟨l1_pb, l1_po, none⟩) l1_l l1_c), (5, .bool up), (6, .pointer cv), (8, .pointer d), (10, .pointer alone), (12, .int .i64 i), (106, .bool false), (109, .bool false), (111, undef), (113, undef)]) (L' := ((B, .cells #[.int .i64 r9_0, .string r9_1, .bool r9_2] 42) :: F10)) ?_ (by kernel_rfl)
            refine AtD.tail (by kernel_rfl) ?_
            refine AtE.run 11 (fun W => by kernel_rfl) ?_
            refine AtE.letI 12 (kd := .i64) (n := (IntKind.i64.wrap (i + (1 : Int)))) (by kernel_rfl) (fun i6 hi6 => ?_)
            replace H := H i6 hi6
            refine AtE.run 2 (fun W => by kernel_rfl) ?_
            exact AtE.cutT [] 1 H (by kernel_rfl)
    · replace H := H.2 h5'
      refine AtE.run 2 (fun W => by kernel_rfl) ?_
      exact AtE.cutT [] 0 H (by kernel_rfl)
  · replace H := H.2 h4'
    refine AtE.run 6 (fun W => by kernel_rfl) ?_
    exact AtE.cutT [] 0 H (by kernel_rfl)

theorem Twins_c1_vc (size3 : Int) (up1 : Bool) (cv1 : Option Addr) (alone1 : Option Addr) (F13 : SHeap) {R : Ending → World → Prop} {w0 : World}
    (H :
      CallH Try.prog 13 ⟨[.pointer cv1, .int .i64 (0 : Int), .int .i64 size3]⟩ (F13) [] w0 (fun v L' => ∃ (r181 : ByteArray) (r191 : Int) (F14 : SHeap), v = (.tuple #[.string r181, .int .i64 r191]) ∧ L' = (F14) ∧
        CallH Try.prog 13 ⟨[.pointer alone1, .int .i64 (0 : Int), .int .i64 size3]⟩ (F14) [] w0 (fun v L' => ∃ (r201 : ByteArray) (r221 : Int) (F15 : SHeap), v = (.tuple #[.string r201, .int .i64 r221]) ∧ L' = (F15) ∧
          ((up1 = true) →
            ((r191 = (0 : Int)) →
              ((r221 = (0 : Int)) →
                ((r181 = r201) →
                  CallH Try.prog 16 ⟨[.pointer cv1]⟩ (F15) [] w0 (fun v L' => ∃ (r231 : Int) (F16 : SHeap), v = (.int .i64 r231) ∧ L' = (F16) ∧
                    CallH Try.prog 16 ⟨[.pointer alone1]⟩ (F16) [] w0 (fun v L' => ∃ (r241 : Int) (F17 : SHeap), v = (.int .i64 r241) ∧ L' = (F17) ∧
                      Fin R (F17) [] w0 (.bool (decide (r231 = r241)))))) ∧
                 ((¬ r181 = r201) →
                  Fin R (F15) [] w0 (.bool false))) ∧
               ((¬ (r221 = (0 : Int))) →
                Fin R (F15) [] w0 (.bool false))) ∧
             ((¬ (r191 = (0 : Int))) →
              Fin R (F15) [] w0 (.bool false))) ∧
           ((up1 = false) →
            Fin R (F15) [] w0 (.bool false))))) :
    Twins_c1 size3 up1 cv1 alone1 F13 w0 R := by
  unfold Twins_c1
  refine AtE.run 4 (fun W => by kernel_rfl) ?_
  refine AtE.call 13 ⟨[.pointer cv1, .int .i64 (0 : Int), .int .i64 size3]⟩ (fun W => by kernel_rfl) (by kernel_rfl) H ?_
  clear H
  rintro _ F14 ⟨r181, r191, _, rfl, rfl, H⟩
  refine AtE.run 10 (fun W => by kernel_rfl) ?_
  refine AtE.call 13 ⟨[.pointer alone1, .int .i64 (0 : Int), .int .i64 size3]⟩ (fun W => by kernel_rfl) (by kernel_rfl) H ?_
  clear H
  rintro _ F15 ⟨r201, r221, _, rfl, rfl, H⟩
  refine AtE.run 10 (fun W => by kernel_rfl) ?_
  refine AtE.split 130 (b := up1) (by kernel_rfl) (fun h17' => ?_) (fun h17' => ?_)
  · replace H := H.1 h17'
    refine AtE.run 4 (fun W => by kernel_rfl) ?_
    refine AtE.splitP 134 (p := r191 = (0 : Int)) (by kernel_rfl) (fun h18' => ?_) (fun h18' => ?_)
    · replace H := H.1 h18'
      refine AtE.run 4 (fun W => by kernel_rfl) ?_
      refine AtE.splitP 138 (p := r221 = (0 : Int)) (by kernel_rfl) (fun h19' => ?_) (fun h19' => ?_)
      · replace H := H.1 h19'
        refine AtE.run 5 (fun W => by kernel_rfl) ?_
        refine AtE.splitS 143 (x := r181) (y := r201) (by kernel_rfl) (fun h20' => ?_) (fun h20' => ?_)
        · replace H := H.1 h20'
          refine AtE.run 1 (fun W => by kernel_rfl) ?_
          refine AtE.call 16 ⟨[.pointer cv1]⟩ (fun W => by kernel_rfl) (by kernel_rfl) H ?_
          clear H
          rintro _ F16 ⟨r231, _, rfl, rfl, H⟩
          refine AtE.norm (k' := [.inRegion (regOps [.code (sub (Eng.body Try.f10) [1, 1, 1, 1, 1, 1, 1, 1, 1, 1, 0])]) [17, 18, 19, 20, 21], .code (sub (Eng.body Try.f10) [1, 1, 1, 1, 1, 1, 1, 1, 1, 1, 1])]) (e' := [(10, .pointer alone1), (143, .bool true), (145, .int .i64 r231)]) (L' := (F16)) ?_ (by kernel_rfl)
          refine AtE.run 1 (fun W => by kernel_rfl) ?_
          refine AtE.call 16 ⟨[.pointer alone1]⟩ (fun W => by kernel_rfl) (by kernel_rfl) H ?_
          clear H
          rintro _ F17 ⟨r241, _, rfl, rfl, H⟩
          refine AtE.run 4 (fun W => by kernel_rfl) ?_
          exact AtE.ret Try.func10 (by kernel_rfl) H
        · replace H := H.2 h20'
          refine AtE.run 8 (fun W => by kernel_rfl) ?_
          exact AtE.ret Try.func10 (by kernel_rfl) H
      · replace H := H.2 h19'
        refine AtE.run 13 (fun W => by kernel_rfl) ?_
        exact AtE.ret Try.func10 (by kernel_rfl) H
    · replace H := H.2 h18'
      refine AtE.run 17 (fun W => by kernel_rfl) ?_
      exact AtE.ret Try.func10 (by kernel_rfl) H
  · replace H := H.2 h17'
    refine AtE.run 21 (fun W => by kernel_rfl) ?_
    exact AtE.ret Try.func10 (by kernel_rfl) H

theorem Twins_vc (size : Int) (l_p : Option Addr) (l_l : Nat) (l_c : Nat) (F : SHeap) {R : Ending → World → Prop} {w0 W : World} (hm : Mem (F) [] w0 W)
    (H :
      CallH Try.prog 11 ⟨[]⟩ (F) [] w0 (fun v L' => ∃ (r1 : Bool), v = (.bool r1) ∧ L' = (F) ∧
        CallH Try.prog 14 ⟨[.int .i64 size, .int .i64 (100 : Int)]⟩ (F) [] w0 (fun v L' => ∃ (r21 : Int), v = (.int .i64 r21) ∧ L' = (F) ∧
          ∀ size1 : Int, size1 = (IntKind.i64.wrap ((1 : Int) + r21)) →
          CallH Try.prog 12 ⟨[.int .i64 size1]⟩ (F) [] w0 (fun v L' => ∃ (r31 : Option Addr) (r41 : Int) (F1 : SHeap), v = (.tuple #[.pointer r31, .int .i64 r41]) ∧ L' = (F1) ∧
            CallH Try.prog 12 ⟨[.int .i64 size1]⟩ (F1) [] w0 (fun v L' => ∃ (r51 : Option Addr) (r61 : Int) (F2 : SHeap), v = (.tuple #[.pointer r51, .int .i64 r61]) ∧ L' = (F2) ∧
              CallH Try.prog 12 ⟨[.int .i64 size1]⟩ (F2) [] w0 (fun v L' => ∃ (r71 : Option Addr) (r81 : Int) (F3 : SHeap), v = (.tuple #[.pointer r71, .int .i64 r81]) ∧ L' = (F3) ∧
                ((¬ (r41 = (0 : Int))) →
                  Fin R (F3) [] w0 (.bool false)) ∧
                 ((r41 = (0 : Int)) →
                  ((¬ (r61 = (0 : Int))) →
                    Fin R (F3) [] w0 (.bool false)) ∧
                   ((r61 = (0 : Int)) →
                    ((¬ (r81 = (0 : Int))) →
                      Fin R (F3) [] w0 (.bool false)) ∧
                     ((r81 = (0 : Int)) →
                      Twins_c0 size1 l_p l_l l_c r1 r31 r51 r71 (0 : Int) F3 w0 R))))))))) :
    Calls Try.prog 10 ⟨[.int .i64 size, .slice l_p l_l l_c]⟩ W R := by
  refine AtE.calls (nt := 150) Try.func10 (by kernel_rfl) hm ?_
  refine AtE.run 6 (fun W => by kernel_rfl) ?_
  refine AtE.call 11 ⟨[]⟩ (fun W => by kernel_rfl) (by kernel_rfl) H ?_
  clear H
  rintro _ F ⟨r1, rfl, rfl, H⟩
  refine AtE.run 5 (fun W => by kernel_rfl) ?_
  refine AtE.call 14 ⟨[.int .i64 size, .int .i64 (100 : Int)]⟩ (fun W => by kernel_rfl) (by kernel_rfl) H ?_
  clear H
  rintro _ F ⟨r21, rfl, rfl, H⟩
  refine AtE.run 2 (fun W => by kernel_rfl) ?_
  refine AtE.letI 0 (kd := .i64) (n := (IntKind.i64.wrap ((1 : Int) + r21))) (by kernel_rfl) (fun size1 hsize1 => ?_)
  replace H := H size1 hsize1
  refine AtE.run 4 (fun W => by kernel_rfl) ?_
  refine AtE.call 12 ⟨[.int .i64 size1]⟩ (fun W => by kernel_rfl) (by kernel_rfl) H ?_
  clear H
  rintro _ F1 ⟨r31, r41, _, rfl, rfl, H⟩
  refine AtE.run 9 (fun W => by kernel_rfl) ?_
  refine AtE.call 12 ⟨[.int .i64 size1]⟩ (fun W => by kernel_rfl) (by kernel_rfl) H ?_
  clear H
  rintro _ F2 ⟨r51, r61, _, rfl, rfl, H⟩
  refine AtE.run 9 (fun W => by kernel_rfl) ?_
  refine AtE.call 12 ⟨[.int .i64 size1]⟩ (fun W => by kernel_rfl) (by kernel_rfl) H ?_
  clear H
  rintro _ F3 ⟨r71, r81, _, rfl, rfl, H⟩
  refine AtE.run 12 (fun W => by kernel_rfl) ?_
  refine AtE.splitN 39 (p := r41 = (0 : Int)) (by kernel_rfl) (fun h1' => ?_) (fun h1' => ?_)
  · replace H := H.1 h1'
    refine AtE.norm (k' := [.inRegion (regOps [.code (sub (Eng.body Try.f10) [1, 1, 1, 1, 1, 1, 0, 0])]) [3, 4, 5, 6, 7, 8, 9], .code (sub (Eng.body Try.f10) [1, 1, 1, 1, 1, 1, 0, 1]), .code (sub (Eng.body Try.f10) [1, 1, 1, 1, 1, 1, 1])]) (e' := [(0, .int .i64 size1), (1, .slice l_p l_l l_c), (5, .bool r1), (6, .pointer r31), (8, .pointer r51), (9, .int .i64 r61), (10, .pointer r71), (11, .int .i64 r81), (39, .bool true)]) (L' := (F3)) ?_ (by kernel_rfl)
    refine AtE.run 13 (fun W => by kernel_rfl) ?_
    exact AtE.ret Try.func10 (by kernel_rfl) H
  · replace H := H.2 h1'
    refine AtE.norm (k' := [.inRegion (regOps [.code (sub (Eng.body Try.f10) [1, 1, 1, 1, 1, 1, 0, 0])]) [3, 4, 5, 6, 7, 8, 9], .code (sub (Eng.body Try.f10) [1, 1, 1, 1, 1, 1, 0, 1]), .code (sub (Eng.body Try.f10) [1, 1, 1, 1, 1, 1, 1])]) (e' := [(0, .int .i64 size1), (1, .slice l_p l_l l_c), (5, .bool r1), (6, .pointer r31), (8, .pointer r51), (9, .int .i64 r61), (10, .pointer r71), (11, .int .i64 r81), (39, .bool false)]) (L' := (F3)) ?_ (by kernel_rfl)
    refine AtE.run 4 (fun W => by kernel_rfl) ?_
    refine AtE.splitN 43 (p := r61 = (0 : Int)) (by kernel_rfl) (fun h2' => ?_) (fun h2' => ?_)
    · replace H := H.1 h2'
      refine AtE.run 9 (fun W => by kernel_rfl) ?_
      exact AtE.ret Try.func10 (by kernel_rfl) H
    · replace H := H.2 h2'
      refine AtE.run 4 (fun W => by kernel_rfl) ?_
      refine AtE.splitN 46 (p := r81 = (0 : Int)) (by kernel_rfl) (fun h3' => ?_) (fun h3' => ?_)
      · replace H := H.1 h3'
        refine AtE.run 5 (fun W => by kernel_rfl) ?_
        exact AtE.ret Try.func10 (by kernel_rfl) H
      · replace H := H.2 h3'
        refine AtE.run 9 (fun W => by kernel_rfl) ?_
        exact AtE.cutT [] 0 H (by kernel_rfl)

end Go.Eng
