/- Verification conditions of the functions, written by a program of the prover, checked here. -/
import Derived.Test.YtbbakbekhhgkgaaTwEngInl

import Derived.Test.YtbbakbekhhgkgaaTwEngFreeRules

import Derived.Test.YtbbakbekhhgkgaaChecked

namespace Go.Eng

open Go Go.RowKit Go.Proofs

set_option linter.unusedVariables false

set_option maxRecDepth 100000

def DCut_c0 (B1 : Nat) (size2 : Int) (n1 : Int) (l1_p : Option Addr) (l1_l : Nat) (l1_c : Nat) (up : Bool) (d : Option Addr) (b_l : Nat) (b_c : Nat) (i : Int) (cs : List Value) (F4 : SHeap) (w0 : World) (R : Ending → World → Prop) : Prop :=
  AtE Try.prog 9 170 [.code (sub (Eng.body Try.f9) [1, 1, 1, 1, 1, 1, 1, 1, 0, 1, 0, 0]), .inLoop (sub (Eng.body Try.f9) [1, 1, 1, 1, 1, 1, 1, 1, 0, 1, 0, 0]), .inBlock 0, .code (sub (Eng.body Try.f9) [1, 1, 1, 1, 1, 1, 1, 1, 1])] [(0, .int .i64 size2), (1, .int .i64 n1), (2, .slice l1_p l1_l l1_c), (7, .bool up), (8, .pointer d), (10, .slice (some ⟨B1, 0, none⟩) b_l b_c), (11, .slice none 0 0), (12, .int .i64 i)] ((B1, .cells ⟨cs⟩ 5) :: F4) [] w0 (nrm R)

def DCut_c1 (B5 : Nat) (B6 : Nat) (size3 : Int) (n2 : Int) (l2_p : Option Addr) (l2_l : Nat) (l2_c : Nat) (up1 : Bool) (d1 : Option Addr) (b2_l : Nat) (b2_c : Nat) (all_l : Nat) (all_c : Nat) (i2 : Int) (cs1 : List Value) (cs2 : List Value) (F6 : SHeap) (w0 : World) (R : Ending → World → Prop) : Prop :=
  AtE Try.prog 9 170 [.code (sub (Eng.body Try.f9) [1, 1, 1, 1, 1, 1, 1, 1, 0, 1, 0, 0]), .inLoop (sub (Eng.body Try.f9) [1, 1, 1, 1, 1, 1, 1, 1, 0, 1, 0, 0]), .inBlock 0, .code (sub (Eng.body Try.f9) [1, 1, 1, 1, 1, 1, 1, 1, 1])] [(0, .int .i64 size3), (1, .int .i64 n2), (2, .slice l2_p l2_l l2_c), (7, .bool up1), (8, .pointer d1), (10, .slice (some ⟨B5, 0, none⟩) b2_l b2_c), (11, .slice (some ⟨B6, 0, none⟩) all_l all_c), (12, .int .i64 i2)] ((B5, .cells ⟨cs1⟩ 5) :: (B6, .cells ⟨cs2⟩ 3) :: F6) [] w0 (nrm R)

def DCut_c2 (B7 : Nat) (size4 : Int) (n3 : Int) (up2 : Bool) (d2 : Option Addr) (b3_l : Nat) (b3_c : Nat) (cs3 : List Value) (F7 : SHeap) (w0 : World) (R : Ending → World → Prop) : Prop :=
  AtE Try.prog 9 170 [.code (sub (Eng.body Try.f9) [1, 1, 1, 1, 1, 1, 1, 1, 1])] [(0, .int .i64 size4), (1, .int .i64 n3), (7, .bool up2), (8, .pointer d2), (10, .slice (some ⟨B7, 0, none⟩) b3_l b3_c), (11, .slice none 0 0)] ((B7, .cells ⟨cs3⟩ 5) :: F7) [] w0 (nrm R)

def DCut_c3 (B11 : Nat) (B12 : Nat) (size5 : Int) (n4 : Int) (up3 : Bool) (d3 : Option Addr) (b5_l : Nat) (b5_c : Nat) (all1_l : Nat) (all1_c : Nat) (cs4 : List Value) (cs5 : List Value) (F9 : SHeap) (w0 : World) (R : Ending → World → Prop) : Prop :=
  AtE Try.prog 9 170 [.code (sub (Eng.body Try.f9) [1, 1, 1, 1, 1, 1, 1, 1, 1])] [(0, .int .i64 size5), (1, .int .i64 n4), (7, .bool up3), (8, .pointer d3), (10, .slice (some ⟨B11, 0, none⟩) b5_l b5_c), (11, .slice (some ⟨B12, 0, none⟩) all1_l all1_c)] ((B11, .cells ⟨cs4⟩ 5) :: (B12, .cells ⟨cs5⟩ 3) :: F9) [] w0 (nrm R)

theorem DCut_c0_vc (B1 : Nat) (size2 : Int) (n1 : Int) (l1_p : Option Addr) (l1_l : Nat) (l1_c : Nat) (up : Bool) (d : Option Addr) (b_l : Nat) (b_c : Nat) (i : Int) (cs : List Value) (F4 : SHeap) {R : Ending → World → Prop} {w0 : World}
    (H :
      ((i < (l1_l : Int)) →
        ((i < (40 : Int)) →
          ∃ l1_pb l1_po : Nat, l1_p = some ⟨l1_pb, l1_po, none⟩ ∧
          (0 ≤ i ∧ i < l1_l) ∧
          ∃ (cw : List Value) (m_0 : Int) (m_1 : ByteArray) (m_2 : Bool), blkW w0 l1_pb = some cw ∧ ((cw.drop (l1_po + ((Int.toNat i) * 3))).take 3 = [.int .i64 m_0, .string m_1, .bool m_2] ∧ (l1_po + ((Int.toNat i) * 3)) + 3 ≤ cw.length) ∧
          CallH Try.prog 22 ⟨[.agg #[.int .i64 m_0, .string m_1, .bool m_2], .int .i64 size2]⟩ ((B1, .cells ⟨cs⟩ 5) :: F4) [] w0 (fun v L' => ∃ (r8_0 : Int) (r8_1 : ByteArray) (r8_2 : Bool), v = (.agg #[.int .i64 r8_0, .string r8_1, .bool r8_2]) ∧ L' = ((B1, .cells ⟨cs⟩ 5) :: F4) ∧
            ∀ B2 : Nat,
            CallH Try.prog 17 ⟨[.pointer d, .int .i64 r8_0, .string r8_1]⟩ ((B2, .cells #[.int .i64 r8_0, .string r8_1, .bool r8_2] 42) :: (B1, .cells ⟨cs⟩ 5) :: F4) [] w0 (fun v L' => ∃ (r91 : Int) (F5 : SHeap), v = (.int .i64 r91) ∧ L' = ((B2, .cells #[.int .i64 r8_0, .string r8_1, .bool r8_2] 42) :: (B1, .cells ⟨cs⟩ 5) :: F5) ∧
              ((i < n1) →
                CallH Try.prog 23 ⟨[.slice (some ⟨B1, 0, none⟩) b_l b_c, .int .i64 r8_0, .string r8_1]⟩ ((B2, .cells #[.int .i64 r8_0, .string r8_1, .bool r8_2] 42) :: (B1, .cells ⟨cs⟩ 5) :: F5) [] w0 (fun v L' => ∃ (b1 : List Value), v = (.tuple #[]) ∧ L' = ((B2, .cells #[.int .i64 r8_0, .string r8_1, .bool r8_2] 42) :: (B1, .cells ⟨b1⟩ 5) :: F5) ∧
                  ∀ B3 : Nat,
                  ∀ (B4 cap : Nat) (r10 : List Value), 1 ≤ cap → (([.int .i64 i] : List Value) ++ r10).length = cap * 1 →
                  ((r91 = (0 : Int)) →
                    ∀ i1 : Int, i1 = (IntKind.i64.wrap (i + (1 : Int))) →
                    DCut_c1 B1 B4 size2 n1 (some ⟨l1_pb, l1_po, none⟩) l1_l l1_c up d b_l b_c 1 cap i1 b1 (([.int .i64 i] : List Value) ++ r10) F5 w0 R) ∧
                   ((¬ (r91 = (0 : Int))) →
                    Fin R ((B4, .cells ⟨(([.int .i64 i] : List Value) ++ r10)⟩ 3) :: (B3, .cells #[.int .i64 i] 3) :: (B2, .cells #[.int .i64 r8_0, .string r8_1, .bool r8_2] 42) :: (B1, .cells ⟨b1⟩ 5) :: F5) [] w0 (.bool false)))) ∧
               ((¬ (i < n1)) →
                ((r91 = (0 : Int)) →
                  Fin R ((B2, .cells #[.int .i64 r8_0, .string r8_1, .bool r8_2] 42) :: (B1, .cells ⟨cs⟩ 5) :: F5) [] w0 (.bool false)) ∧
                 ((¬ (r91 = (0 : Int))) →
                  ((¬ (r91 = (231 : Int))) →
                    Fin R ((B2, .cells #[.int .i64 r8_0, .string r8_1, .bool r8_2] 42) :: (B1, .cells ⟨cs⟩ 5) :: F5) [] w0 (.bool false)) ∧
                   ((r91 = (231 : Int)) →
                    ∀ i3 : Int, i3 = (IntKind.i64.wrap (i + (1 : Int))) →
                    DCut_c0 B1 size2 n1 (some ⟨l1_pb, l1_po, none⟩) l1_l l1_c up d b_l b_c i3 cs F5 w0 R)))))) ∧
         ((¬ (i < (40 : Int))) →
          DCut_c2 B1 size2 n1 up d b_l b_c cs F4 w0 R)) ∧
       ((¬ (i < (l1_l : Int))) →
        DCut_c2 B1 size2 n1 up d b_l b_c cs F4 w0 R)) :
    DCut_c0 B1 size2 n1 l1_p l1_l l1_c up d b_l b_c i cs F4 w0 R := by
  unfold DCut_c0
  refine AtE.run 8 (fun W => by kernel_rfl) ?_
  refine AtE.splitP 52 (p := i < (l1_l : Int)) (by kernel_rfl) (fun h4' => ?_) (fun h4' => ?_)
  · replace H := H.1 h4'
    refine AtE.run 4 (fun W => by kernel_rfl) ?_
    refine AtE.splitP 55 (p := i < (40 : Int)) (by kernel_rfl) (fun h5' => ?_) (fun h5' => ?_)
    · replace H := H.1 h5'
      refine AtE.run 8 (fun W => by kernel_rfl) ?_
      obtain ⟨l1_pb, l1_po, rfl, H⟩ := H
      refine AtE.indexAddrL (E := 42) (b := l1_pb) (o := l1_po) (len := l1_l) (cap := l1_c) (sz := 3) (o' := (l1_po + ((Int.toNat i) * 3))) (kd := .i64) (i := i) (by kernel_rfl) H.1 (by omega) ?_
      replace H := H.2
      obtain ⟨cw, m_0, m_1, m_2, hw, hx, H⟩ := H
      refine AtE.loadW (b := l1_pb) (off := (l1_po + ((Int.toNat i) * 3))) (T := 42) (v := .agg #[.int .i64 m_0, .string m_1, .bool m_2]) (by kernel_rfl) List.not_mem_nil hw (valAt_agg hx.1 hx.2 (by kernel_rfl) (by kernel_rfl)) ?_
      refine AtE.run 1 (fun W => by kernel_rfl) ?_
      refine AtE.call 22 ⟨[.agg #[.int .i64 m_0, .string m_1, .bool m_2], .int .i64 size2]⟩ (fun W => by kernel_rfl) (by kernel_rfl) H ?_
      clear H
      rintro _ _ ⟨r8_0, r8_1, r8_2, rfl, rfl, H⟩
      refine AtE.new (fun B => .pointer (some ⟨B, 0, none⟩)) (.cells #[.int .i64 (0 : Int), .string (⟨#[]⟩), .bool false] 42) (fun W => by kernel_rfl) (by kernel_rfl) (fun B2 => ?_)
      replace H := H B2
      refine AtE.front ?_
      refine AtE.norm (k' := [.inRegion (regOps [.code (sub (Eng.body Try.f9) [1, 1, 1, 1, 1, 1, 1, 1, 0, 1, 0, 0, 1, 0, 0, 0])]) [7], .code (sub (Eng.body Try.f9) [1, 1, 1, 1, 1, 1, 1, 1, 0, 1, 0, 0, 1, 0, 0, 1]), .inBlock 1, .code (sub (Eng.body Try.f9) [1, 1, 1, 1, 1, 1, 1, 1, 0, 1, 0, 0, 1, 1]), .inLoop (sub (Eng.body Try.f9) [1, 1, 1, 1, 1, 1, 1, 1, 0, 1, 0, 0]), .inBlock 0, .code (sub (Eng.body Try.f9) [1, 1, 1, 1, 1, 1, 1, 1, 1])]) (e' := [(0, .int .i64 size2), (1, .int .i64 n1), (2, .slice (some ⟨l1_pb, l1_po, none⟩) l1_l l1_c), (7, .bool up), (8, .pointer d), (10, .slice (some ⟨B1, 0, none⟩) b_l b_c), (11, .slice none 0 0), (12, .int .i64 i), (13, .pointer (some ⟨B2, 0, none⟩)), (63, .agg #[.int .i64 r8_0, .string r8_1, .bool r8_2])]) (L' := ((B2, .cells #[.int .i64 (0 : Int), .string (⟨#[]⟩), .bool false] 42) :: (B1, .cells ⟨cs⟩ 5) :: F4)) ?_ (by kernel_rfl)
      refine AtE.store 0 0 (T := 42) (v := .agg #[.int .i64 r8_0, .string r8_1, .bool r8_2]) (by kernel_rfl) ?_
      refine AtE.run 5 (fun W => by kernel_rfl) ?_
      refine AtE.load 0 0 (T := 3) (v := .int .i64 r8_0) (by kernel_rfl) ?_
      refine AtE.run 1 (fun W => by kernel_rfl) ?_
      refine AtE.load 0 1 (T := 9) (v := .string r8_1) (by kernel_rfl) ?_
      refine AtE.call 17 ⟨[.pointer d, .int .i64 r8_0, .string r8_1]⟩ (fun W => by kernel_rfl) (by kernel_rfl) H ?_
      clear H
      rintro _ _ ⟨r91, F5, rfl, rfl, H⟩
      refine AtE.run 9 (fun W => by kernel_rfl) ?_
      refine AtE.splitP 72 (p := i < n1) (by kernel_rfl) (fun h6' => ?_) (fun h6' => ?_)
      · replace H := H.1 h6'
        refine AtE.run 5 (fun W => by kernel_rfl) ?_
        refine AtE.load 0 0 (T := 3) (v := .int .i64 r8_0) (by kernel_rfl) ?_
        refine AtE.run 1 (fun W => by kernel_rfl) ?_
        refine AtE.load 0 1 (T := 9) (v := .string r8_1) (by kernel_rfl) ?_
        refine AtE.norm (k' := [.inRegion (regOps [.code (sub (Eng.body Try.f9) [1, 1, 1, 1, 1, 1, 1, 1, 0, 1, 0, 0, 1, 0, 0, 1, 1, 0, 1, 0, 0])]) [5], .code (sub (Eng.body Try.f9) [1, 1, 1, 1, 1, 1, 1, 1, 0, 1, 0, 0, 1, 0, 0, 1, 1, 0, 1, 0, 1]), .code (sub (Eng.body Try.f9) [1, 1, 1, 1, 1, 1, 1, 1, 0, 1, 0, 0, 1, 0, 0, 1, 1, 1]), .inBlock 1, .code (sub (Eng.body Try.f9) [1, 1, 1, 1, 1, 1, 1, 1, 0, 1, 0, 0, 1, 1]), .inLoop (sub (Eng.body Try.f9) [1, 1, 1, 1, 1, 1, 1, 1, 0, 1, 0, 0]), .inBlock 0, .code (sub (Eng.body Try.f9) [1, 1, 1, 1, 1, 1, 1, 1, 1])]) (e' := [(0, .int .i64 size2), (1, .int .i64 n1), (2, .slice (some ⟨l1_pb, l1_po, none⟩) l1_l l1_c), (7, .bool up), (8, .pointer d), (10, .slice (some ⟨B1, 0, none⟩) b_l b_c), (11, .slice none 0 0), (12, .int .i64 i), (14, .int .i64 r91), (73, .slice (some ⟨B1, 0, none⟩) b_l b_c), (75, .int .i64 r8_0), (77, .string r8_1)]) (L' := ((B2, .cells #[.int .i64 r8_0, .string r8_1, .bool r8_2] 42) :: (B1, .cells ⟨cs⟩ 5) :: F5)) ?_ (by kernel_rfl)
        refine AtE.call 23 ⟨[.slice (some ⟨B1, 0, none⟩) b_l b_c, .int .i64 r8_0, .string r8_1]⟩ (fun W => by kernel_rfl) (by kernel_rfl) H ?_
        clear H
        rintro _ _ ⟨b1, rfl, rfl, H⟩
        refine AtE.run 4 (fun W => by kernel_rfl) ?_
        refine AtE.new (fun B => .slice (some ⟨B, 0, none⟩) 1 1) (.cells #[.int .i64 i] 3) (fun W => by kernel_rfl) (by kernel_rfl) (fun B3 => ?_)
        replace H := H B3
        refine AtE.front ?_
        refine AtE.appendN (T := 32) (E := 3) (z := .int .i64 (0 : Int)) (sz := 1) (bytes := 8) (a := ⟨B3, 0, none⟩) (m := 1) (c := 1) ([.int .i64 i] : List Value) (by kernel_rfl) (show Src _ _ _ _ ([.int .i64 i] : List Value) from Src.own (j := 0) (o := 0) (n := 1) (c := ([.int .i64 i] : List Value)) (by kernel_rfl)) (by simp) (by omega) (by omega) (fun B4 cap r10 h1 h2 => ?_)
        replace H := H B4 cap r10 h1 h2
        refine AtE.front ?_
        refine AtE.run 9 (fun W => by kernel_rfl) ?_
        refine AtE.splitP 84 (p := r91 = (0 : Int)) (by kernel_rfl) (fun h7' => ?_) (fun h7' => ?_)
        · replace H := H.1 h7'
          refine AtE.splitP 87 (p := i < n1) (by kernel_rfl) (fun h8' => ?_) (fun h8' => ?_)
          · skip
            refine AtE.run 5 (fun W => by kernel_rfl) ?_
            refine AtE.splitN 92 (p := r91 = (0 : Int)) (by kernel_rfl) (fun h9' => ?_) (fun h9' => ?_)
            · first | exact absurd h7' h9' | exact absurd h9' h7' | simp_all
            · skip
              refine AtE.run 12 (fun W => by kernel_rfl) ?_
              refine AtE.letI 12 (kd := .i64) (n := (IntKind.i64.wrap (i + (1 : Int)))) (by kernel_rfl) (fun i1 hi1 => ?_)
              replace H := H i1 hi1
              refine AtE.norm (k' := [.inRegion (regOps [.code (sub (Eng.body Try.f9) [1, 1, 1, 1, 1, 1, 1, 1, 0, 1, 0, 0, 1, 1])]) [], .inLoop (sub (Eng.body Try.f9) [1, 1, 1, 1, 1, 1, 1, 1, 0, 1, 0, 0]), .inBlock 0, .code (sub (Eng.body Try.f9) [1, 1, 1, 1, 1, 1, 1, 1, 1])]) (e' := [(0, .int .i64 size2), (1, .int .i64 n1), (2, .slice (some ⟨l1_pb, l1_po, none⟩) l1_l l1_c), (7, .bool up), (8, .pointer d), (10, .slice (some ⟨B1, 0, none⟩) b_l b_c), (11, .slice (some ⟨B4, 0, none⟩) 1 cap), (12, .int .i64 i1)]) (L' := ((B4, .cells ⟨(([.int .i64 i] : List Value) ++ r10)⟩ 3) :: (B3, .cells #[.int .i64 i] 3) :: (B2, .cells #[.int .i64 r8_0, .string r8_1, .bool r8_2] 42) :: (B1, .cells ⟨b1⟩ 5) :: F5)) ?_ (by kernel_rfl)
              refine AtE.run 2 (fun W => by kernel_rfl) ?_
              exact AtE.cutT [3, 0] 4 H (by kernel_rfl)
          · first | exact absurd h6' h8' | exact absurd h8' h6' | simp_all
        · replace H := H.2 h7'
          refine AtE.splitP 87 (p := i < n1) (by kernel_rfl) (fun h10' => ?_) (fun h10' => ?_)
          · skip
            refine AtE.run 15 (fun W => by kernel_rfl) ?_
            exact AtE.ret Try.func9 (by kernel_rfl) H
          · first | exact absurd h6' h10' | exact absurd h10' h6' | simp_all
      · replace H := H.2 h6'
        refine AtE.run 9 (fun W => by kernel_rfl) ?_
        refine AtE.splitP 84 (p := r91 = (0 : Int)) (by kernel_rfl) (fun h11' => ?_) (fun h11' => ?_)
        · replace H := H.1 h11'
          refine AtE.splitP 87 (p := i < n1) (by kernel_rfl) (fun h12' => ?_) (fun h12' => ?_)
          · first | exact absurd h6' h12' | exact absurd h12' h6' | simp_all
          · skip
            refine AtE.norm (k' := [.inRegion (regOps [.code (sub (Eng.body Try.f9) [1, 1, 1, 1, 1, 1, 1, 1, 0, 1, 0, 0, 1, 0, 0, 1, 1, 1, 0])]) [5, 6, 7, 8, 9, 10, 11, 12, 13], .code (sub (Eng.body Try.f9) [1, 1, 1, 1, 1, 1, 1, 1, 0, 1, 0, 0, 1, 0, 0, 1, 1, 1, 1]), .inBlock 1, .code (sub (Eng.body Try.f9) [1, 1, 1, 1, 1, 1, 1, 1, 0, 1, 0, 0, 1, 1]), .inLoop (sub (Eng.body Try.f9) [1, 1, 1, 1, 1, 1, 1, 1, 0, 1, 0, 0]), .inBlock 0, .code (sub (Eng.body Try.f9) [1, 1, 1, 1, 1, 1, 1, 1, 1])]) (e' := [(0, .int .i64 size2), (1, .int .i64 n1), (2, .slice (some ⟨l1_pb, l1_po, none⟩) l1_l l1_c), (7, .bool up), (8, .pointer d), (10, .slice (some ⟨B1, 0, none⟩) b_l b_c), (11, .slice none 0 0), (12, .int .i64 i), (14, .int .i64 r91), (84, .bool true), (87, .bool false)]) (L' := ((B2, .cells #[.int .i64 r8_0, .string r8_1, .bool r8_2] 42) :: (B1, .cells ⟨cs⟩ 5) :: F5)) ?_ (by kernel_rfl)
            refine AtE.run 15 (fun W => by kernel_rfl) ?_
            exact AtE.ret Try.func9 (by kernel_rfl) H
        · replace H := H.2 h11'
          refine AtE.splitP 87 (p := i < n1) (by kernel_rfl) (fun h13' => ?_) (fun h13' => ?_)
          · first | exact absurd h6' h13' | exact absurd h13' h6' | simp_all
          · skip
            refine AtE.norm (k' := [.inRegion (regOps [.code (sub (Eng.body Try.f9) [1, 1, 1, 1, 1, 1, 1, 1, 0, 1, 0, 0, 1, 0, 0, 1, 1, 1, 0])]) [5, 6, 7, 8, 9, 10, 11, 12, 13], .code (sub (Eng.body Try.f9) [1, 1, 1, 1, 1, 1, 1, 1, 0, 1, 0, 0, 1, 0, 0, 1, 1, 1, 1]), .inBlock 1, .code (sub (Eng.body Try.f9) [1, 1, 1, 1, 1, 1, 1, 1, 0, 1, 0, 0, 1, 1]), .inLoop (sub (Eng.body Try.f9) [1, 1, 1, 1, 1, 1, 1, 1, 0, 1, 0, 0]), .inBlock 0, .code (sub (Eng.body Try.f9) [1, 1, 1, 1, 1, 1, 1, 1, 1])]) (e' := [(0, .int .i64 size2), (1, .int .i64 n1), (2, .slice (some ⟨l1_pb, l1_po, none⟩) l1_l l1_c), (7, .bool up), (8, .pointer d), (10, .slice (some ⟨B1, 0, none⟩) b_l b_c), (11, .slice none 0 0), (12, .int .i64 i), (14, .int .i64 r91), (84, .bool false), (87, .bool false)]) (L' := ((B2, .cells #[.int .i64 r8_0, .string r8_1, .bool r8_2] 42) :: (B1, .cells ⟨cs⟩ 5) :: F5)) ?_ (by kernel_rfl)
            refine AtE.run 5 (fun W => by kernel_rfl) ?_
            refine AtE.splitN 92 (p := r91 = (0 : Int)) (by kernel_rfl) (fun h14' => ?_) (fun h14' => ?_)
            · skip
              refine AtE.run 5 (fun W => by kernel_rfl) ?_
              refine AtE.splitN 96 (p := r91 = (231 : Int)) (by kernel_rfl) (fun h15' => ?_) (fun h15' => ?_)
              · replace H := H.1 h15'
                refine AtE.run 5 (fun W => by kernel_rfl) ?_
                exact AtE.ret Try.func9 (by kernel_rfl) H
              · replace H := H.2 h15'
                refine AtE.run 7 (fun W => by kernel_rfl) ?_
                refine AtE.letI 12 (kd := .i64) (n := (IntKind.i64.wrap (i + (1 : Int)))) (by kernel_rfl) (fun i3 hi3 => ?_)
                replace H := H i3 hi3
                refine AtE.run 2 (fun W => by kernel_rfl) ?_
                exact AtE.cutT [1] 2 H (by kernel_rfl)
            · first | exact absurd h11' h14' | exact absurd h14' h11' | simp_all
    · replace H := H.2 h5'
      refine AtE.run 2 (fun W => by kernel_rfl) ?_
      exact AtE.cutT [0] 1 H (by kernel_rfl)
  · replace H := H.2 h4'
    refine AtE.run 6 (fun W => by kernel_rfl) ?_
    exact AtE.cutT [0] 1 H (by kernel_rfl)

theorem DCut_c1_vc (B5 : Nat) (B6 : Nat) (size3 : Int) (n2 : Int) (l2_p : Option Addr) (l2_l : Nat) (l2_c : Nat) (up1 : Bool) (d1 : Option Addr) (b2_l : Nat) (b2_c : Nat) (all_l : Nat) (all_c : Nat) (i2 : Int) (cs1 : List Value) (cs2 : List Value) (F6 : SHeap) {R : Ending → World → Prop} {w0 : World}
    (H :
      ((i2 < (l2_l : Int)) →
        ((i2 < (40 : Int)) →
          ∃ l2_pb l2_po : Nat, l2_p = some ⟨l2_pb, l2_po, none⟩ ∧
          (0 ≤ i2 ∧ i2 < l2_l) ∧
          ∃ (cw1 : List Value) (m1_0 : Int) (m1_1 : ByteArray) (m1_2 : Bool), blkW w0 l2_pb = some cw1 ∧ ((cw1.drop (l2_po + ((Int.toNat i2) * 3))).take 3 = [.int .i64 m1_0, .string m1_1, .bool m1_2] ∧ (l2_po + ((Int.toNat i2) * 3)) + 3 ≤ cw1.length) ∧
          CallH Try.prog 22 ⟨[.agg #[.int .i64 m1_0, .string m1_1, .bool m1_2], .int .i64 size3]⟩ ((B5, .cells ⟨cs1⟩ 5) :: (B6, .cells ⟨cs2⟩ 3) :: F6) [] w0 (fun v L' => ∃ (r11_0 : Int) (r11_1 : ByteArray) (r11_2 : Bool), v = (.agg #[.int .i64 r11_0, .string r11_1, .bool r11_2]) ∧ L' = ((B5, .cells ⟨cs1⟩ 5) :: (B6, .cells ⟨cs2⟩ 3) :: F6) ∧
            ∀ B8 : Nat,
            CallH Try.prog 17 ⟨[.pointer d1, .int .i64 r11_0, .string r11_1]⟩ ((B8, .cells #[.int .i64 r11_0, .string r11_1, .bool r11_2] 42) :: (B5, .cells ⟨cs1⟩ 5) :: (B6, .cells ⟨cs2⟩ 3) :: F6) [] w0 (fun v L' => ∃ (r121 : Int) (F8 : SHeap), v = (.int .i64 r121) ∧ L' = ((B8, .cells #[.int .i64 r11_0, .string r11_1, .bool r11_2] 42) :: (B5, .cells ⟨cs1⟩ 5) :: (B6, .cells ⟨cs2⟩ 3) :: F8) ∧
              ((i2 < n2) →
                CallH Try.prog 23 ⟨[.slice (some ⟨B5, 0, none⟩) b2_l b2_c, .int .i64 r11_0, .string r11_1]⟩ ((B8, .cells #[.int .i64 r11_0, .string r11_1, .bool r11_2] 42) :: (B5, .cells ⟨cs1⟩ 5) :: (B6, .cells ⟨cs2⟩ 3) :: F8) [] w0 (fun v L' => ∃ (b4 : List Value), v = (.tuple #[]) ∧ L' = ((B8, .cells #[.int .i64 r11_0, .string r11_1, .bool r11_2] 42) :: (B5, .cells ⟨b4⟩ 5) :: (B6, .cells ⟨cs2⟩ 3) :: F8) ∧
                  ∀ B9 : Nat,
                  (all_l ≤ all_c ∧ (cs2).length = all_c * 1) ∧ ((all_l + 1) ≤ 9223372036854775807 ∧ (all_l + 1) * 8 ≤ 140737488355328) ∧
                  ∀ (B10 cap1 : Nat) (r13 : List Value), (all_l + 1) ≤ cap1 → ((cs2).take (all_l * 1) ++ ([.int .i64 i2] : List Value) ++ r13).length = cap1 * 1 →
                  ((r121 = (0 : Int)) →
                    ∀ i4 : Int, i4 = (IntKind.i64.wrap (i2 + (1 : Int))) →
                    DCut_c1 B5 B10 size3 n2 (some ⟨l2_pb, l2_po, none⟩) l2_l l2_c up1 d1 b2_l b2_c (all_l + 1) cap1 i4 b4 ((cs2).take (all_l * 1) ++ ([.int .i64 i2] : List Value) ++ r13) F8 w0 R) ∧
                   ((¬ (r121 = (0 : Int))) →
                    Fin R ((B10, .cells ⟨((cs2).take (all_l * 1) ++ ([.int .i64 i2] : List Value) ++ r13)⟩ 3) :: (B9, .cells #[.int .i64 i2] 3) :: (B8, .cells #[.int .i64 r11_0, .string r11_1, .bool r11_2] 42) :: (B5, .cells ⟨b4⟩ 5) :: F8) [] w0 (.bool false)))) ∧
               ((¬ (i2 < n2)) →
                ((r121 = (0 : Int)) →
                  Fin R ((B8, .cells #[.int .i64 r11_0, .string r11_1, .bool r11_2] 42) :: (B5, .cells ⟨cs1⟩ 5) :: (B6, .cells ⟨cs2⟩ 3) :: F8) [] w0 (.bool false)) ∧
                 ((¬ (r121 = (0 : Int))) →
                  ((¬ (r121 = (231 : Int))) →
                    Fin R ((B8, .cells #[.int .i64 r11_0, .string r11_1, .bool r11_2] 42) :: (B5, .cells ⟨cs1⟩ 5) :: (B6, .cells ⟨cs2⟩ 3) :: F8) [] w0 (.bool false)) ∧
                   ((r121 = (231 : Int)) →
                    ∀ i5 : Int, i5 = (IntKind.i64.wrap (i2 + (1 : Int))) →
                    DCut_c1 B5 B6 size3 n2 (some ⟨l2_pb, l2_po, none⟩) l2_l l2_c up1 d1 b2_l b2_c all_l all_c i5 cs1 cs2 F8 w0 R)))))) ∧
         ((¬ (i2 < (40 : Int))) →
          DCut_c3 B5 B6 size3 n2 up1 d1 b2_l b2_c all_l all_c cs1 cs2 F6 w0 R)) ∧
       ((¬ (i2 < (l2_l : Int))) →
        DCut_c3 B5 B6 size3 n2 up1 d1 b2_l b2_c all_l all_c cs1 cs2 F6 w0 R)) :
    DCut_c1 B5 B6 size3 n2 l2_p l2_l l2_c up1 d1 b2_l b2_c all_l all_c i2 cs1 cs2 F6 w0 R := by
  unfold DCut_c1
  refine AtE.run 8 (fun W => by kernel_rfl) ?_
  refine AtE.splitP 52 (p := i2 < (l2_l : Int)) (by kernel_rfl) (fun h16' => ?_) (fun h16' => ?_)
  · replace H := H.1 h16'
    refine AtE.run 4 (fun W => by kernel_rfl) ?_
    refine AtE.splitP 55 (p := i2 < (40 : Int)) (by kernel_rfl) (fun h17' => ?_) (fun h17' => ?_)
    · replace H := H.1 h17'
      refine AtE.run 8 (fun W => by kernel_rfl) ?_
      obtain ⟨l2_pb, l2_po, rfl, H⟩ := H
      refine AtE.indexAddrL (E := 42) (b := l2_pb) (o := l2_po) (len := l2_l) (cap := l2_c) (sz := 3) (o' := (l2_po + ((Int.toNat i2) * 3))) (kd := .i64) (i := i2) (by kernel_rfl) H.1 (by omega) ?_
      replace H := H.2
      obtain ⟨cw1, m1_0, m1_1, m1_2, hw, hx, H⟩ := H
      refine AtE.loadW (b := l2_pb) (off := (l2_po + ((Int.toNat i2) * 3))) (T := 42) (v := .agg #[.int .i64 m1_0, .string m1_1, .bool m1_2]) (by kernel_rfl) List.not_mem_nil hw (valAt_agg hx.1 hx.2 (by kernel_rfl) (by kernel_rfl)) ?_
      refine AtE.run 1 (fun W => by kernel_rfl) ?_
      refine AtE.call 22 ⟨[.agg #[.int .i64 m1_0, .string m1_1, .bool m1_2], .int .i64 size3]⟩ (fun W => by kernel_rfl) (by kernel_rfl) H ?_
      clear H
      rintro _ _ ⟨r11_0, r11_1, r11_2, rfl, rfl, H⟩
      refine AtE.new (fun B => .pointer (some ⟨B, 0, none⟩)) (.cells #[.int .i64 (0 : Int), .string (⟨#[]⟩), .bool false] 42) (fun W => by kernel_rfl) (by kernel_rfl) (fun B8 => ?_)
      replace H := H B8
      refine AtE.front ?_
      refine AtE.norm (k' := [.inRegion (regOps [.code (sub (Eng.body Try.f9) [1, 1, 1, 1, 1, 1, 1, 1, 0, 1, 0, 0, 1, 0, 0, 0])]) [7], .code (sub (Eng.body Try.f9) [1, 1, 1, 1, 1, 1, 1, 1, 0, 1, 0, 0, 1, 0, 0, 1]), .inBlock 1, .code (sub (Eng.body Try.f9) [1, 1, 1, 1, 1, 1, 1, 1, 0, 1, 0, 0, 1, 1]), .inLoop (sub (Eng.body Try.f9) [1, 1, 1, 1, 1, 1, 1, 1, 0, 1, 0, 0]), .inBlock 0, .code (sub (Eng.body Try.f9) [1, 1, 1, 1, 1, 1, 1, 1, 1])]) (e' := [(0, .int .i64 size3), (1, .int .i64 n2), (2, .slice (some ⟨l2_pb, l2_po, none⟩) l2_l l2_c), (7, .bool up1), (8, .pointer d1), (10, .slice (some ⟨B5, 0, none⟩) b2_l b2_c), (11, .slice (some ⟨B6, 0, none⟩) all_l all_c), (12, .int .i64 i2), (13, .pointer (some ⟨B8, 0, none⟩)), (63, .agg #[.int .i64 r11_0, .string r11_1, .bool r11_2])]) (L' := ((B8, .cells #[.int .i64 (0 : Int), .string (⟨#[]⟩), .bool false] 42) :: (B5, .cells ⟨cs1⟩ 5) :: (B6, .cells ⟨cs2⟩ 3) :: F6)) ?_ (by kernel_rfl)
      refine AtE.store 0 0 (T := 42) (v := .agg #[.int .i64 r11_0, .string r11_1, .bool r11_2]) (by kernel_rfl) ?_
      refine AtE.run 5 (fun W => by kernel_rfl) ?_
      refine AtE.load 0 0 (T := 3) (v := .int .i64 r11_0) (by kernel_rfl) ?_
      refine AtE.run 1 (fun W => by kernel_rfl) ?_
      refine AtE.load 0 1 (T := 9) (v := .string r11_1) (by kernel_rfl) ?_
      refine AtE.call 17 ⟨[.pointer d1, .int .i64 r11_0, .string r11_1]⟩ (fun W => by kernel_rfl) (by kernel_rfl) H ?_
      clear H
      rintro _ _ ⟨r121, F8, rfl, rfl, H⟩
      refine AtE.run 9 (fun W => by kernel_rfl) ?_
      refine AtE.splitP 72 (p := i2 < n2) (by kernel_rfl) (fun h18' => ?_) (fun h18' => ?_)
      · replace H := H.1 h18'
        refine AtE.run 5 (fun W => by kernel_rfl) ?_
        refine AtE.load 0 0 (T := 3) (v := .int .i64 r11_0) (by kernel_rfl) ?_
        refine AtE.run 1 (fun W => by kernel_rfl) ?_
        refine AtE.load 0 1 (T := 9) (v := .string r11_1) (by kernel_rfl) ?_
        refine AtE.norm (k' := [.inRegion (regOps [.code (sub (Eng.body Try.f9) [1, 1, 1, 1, 1, 1, 1, 1, 0, 1, 0, 0, 1, 0, 0, 1, 1, 0, 1, 0, 0])]) [5], .code (sub (Eng.body Try.f9) [1, 1, 1, 1, 1, 1, 1, 1, 0, 1, 0, 0, 1, 0, 0, 1, 1, 0, 1, 0, 1]), .code (sub (Eng.body Try.f9) [1, 1, 1, 1, 1, 1, 1, 1, 0, 1, 0, 0, 1, 0, 0, 1, 1, 1]), .inBlock 1, .code (sub (Eng.body Try.f9) [1, 1, 1, 1, 1, 1, 1, 1, 0, 1, 0, 0, 1, 1]), .inLoop (sub (Eng.body Try.f9) [1, 1, 1, 1, 1, 1, 1, 1, 0, 1, 0, 0]), .inBlock 0, .code (sub (Eng.body Try.f9) [1, 1, 1, 1, 1, 1, 1, 1, 1])]) (e' := [(0, .int .i64 size3), (1, .int .i64 n2), (2, .slice (some ⟨l2_pb, l2_po, none⟩) l2_l l2_c), (7, .bool up1), (8, .pointer d1), (10, .slice (some ⟨B5, 0, none⟩) b2_l b2_c), (11, .slice (some ⟨B6, 0, none⟩) all_l all_c), (12, .int .i64 i2), (14, .int .i64 r121), (73, .slice (some ⟨B5, 0, none⟩) b2_l b2_c), (75, .int .i64 r11_0), (77, .string r11_1)]) (L' := ((B8, .cells #[.int .i64 r11_0, .string r11_1, .bool r11_2] 42) :: (B5, .cells ⟨cs1⟩ 5) :: (B6, .cells ⟨cs2⟩ 3) :: F8)) ?_ (by kernel_rfl)
        refine AtE.call 23 ⟨[.slice (some ⟨B5, 0, none⟩) b2_l b2_c, .int .i64 r11_0, .string r11_1]⟩ (fun W => by kernel_rfl) (by kernel_rfl) H ?_
        clear H
        rintro _ _ ⟨b4, rfl, rfl, H⟩
        refine AtE.run 4 (fun W => by kernel_rfl) ?_
        refine AtE.new (fun B => .slice (some ⟨B, 0, none⟩) 1 1) (.cells #[.int .i64 i2] 3) (fun W => by kernel_rfl) (by kernel_rfl) (fun B9 => ?_)
        replace H := H B9
        refine AtE.front ?_
        refine AtE.appendO 3 (T := 32) (E := 3) (z := .int .i64 (0 : Int)) (sz := 1) (bytes := 8) (n := all_l) (cap := all_c) (a := ⟨B9, 0, none⟩) (m := 1) (c := 1) (cs := cs2) ([.int .i64 i2] : List Value) (by kernel_rfl) (show Src _ _ _ _ ([.int .i64 i2] : List Value) from Src.own (j := 0) (o := 0) (n := 1) (c := ([.int .i64 i2] : List Value)) (by kernel_rfl)) (by simp) (by simp [Value.oneCell']) H.1 H.2.1 (fun B10 cap1 r13 h1 h2 => ?_)
        replace H := H.2.2 B10 cap1 r13 h1 h2
        refine AtE.front ?_
        refine AtE.run 9 (fun W => by kernel_rfl) ?_
        refine AtE.splitP 84 (p := r121 = (0 : Int)) (by kernel_rfl) (fun h19' => ?_) (fun h19' => ?_)
        · replace H := H.1 h19'
          refine AtE.splitP 87 (p := i2 < n2) (by kernel_rfl) (fun h20' => ?_) (fun h20' => ?_)
          · skip
            refine AtE.run 5 (fun W => by kernel_rfl) ?_
            refine AtE.splitN 92 (p := r121 = (0 : Int)) (by kernel_rfl) (fun h21' => ?_) (fun h21' => ?_)
            · first | exact absurd h19' h21' | exact absurd h21' h19' | simp_all
            · skip
              refine AtE.run 12 (fun W => by kernel_rfl) ?_
              refine AtE.letI 12 (kd := .i64) (n := (IntKind.i64.wrap (i2 + (1 : Int)))) (by kernel_rfl) (fun i4 hi4 => ?_)
              replace H := H i4 hi4
              refine AtE.norm (k' := [.inRegion (regOps [.code (sub (Eng.body Try.f9) [1, 1, 1, 1, 1, 1, 1, 1, 0, 1, 0, 0, 1, 1])]) [], .inLoop (sub (Eng.body Try.f9) [1, 1, 1, 1, 1, 1, 1, 1, 0, 1, 0, 0]), .inBlock 0, .code (sub (Eng.body Try.f9) [1, 1, 1, 1, 1, 1, 1, 1, 1])]) (e' := [(0, .int .i64 size3), (1, .int .i64 n2), (2, .slice (some ⟨l2_pb, l2_po, none⟩) l2_l l2_c), (7, .bool up1), (8, .pointer d1), (10, .slice (some ⟨B5, 0, none⟩) b2_l b2_c), (11, .slice (some ⟨B10, 0, none⟩) (all_l + 1) cap1), (12, .int .i64 i4)]) (L' := ((B10, .cells ⟨((cs2).take (all_l * 1) ++ ([.int .i64 i2] : List Value) ++ r13)⟩ 3) :: (B9, .cells #[.int .i64 i2] 3) :: (B8, .cells #[.int .i64 r11_0, .string r11_1, .bool r11_2] 42) :: (B5, .cells ⟨b4⟩ 5) :: F8)) ?_ (by kernel_rfl)
              refine AtE.run 2 (fun W => by kernel_rfl) ?_
              exact AtE.cutT [3, 0] 4 H (by kernel_rfl)
          · first | exact absurd h18' h20' | exact absurd h20' h18' | simp_all
        · replace H := H.2 h19'
          refine AtE.splitP 87 (p := i2 < n2) (by kernel_rfl) (fun h22' => ?_) (fun h22' => ?_)
          · skip
            refine AtE.run 15 (fun W => by kernel_rfl) ?_
            exact AtE.ret Try.func9 (by kernel_rfl) H
          · first | exact absurd h18' h22' | exact absurd h22' h18' | simp_all
      · replace H := H.2 h18'
        refine AtE.run 9 (fun W => by kernel_rfl) ?_
        refine AtE.splitP 84 (p := r121 = (0 : Int)) (by kernel_rfl) (fun h23' => ?_) (fun h23' => ?_)
        · replace H := H.1 h23'
          refine AtE.splitP 87 (p := i2 < n2) (by kernel_rfl) (fun h24' => ?_) (fun h24' => ?_)
          · first | exact absurd h18' h24' | exact absurd h24' h18' | simp_all
          · skip
            refine AtE.norm (k' := [.inRegion (regOps [.code (sub (Eng.body Try.f9) [1, 1, 1, 1, 1, 1, 1, 1, 0, 1, 0, 0, 1, 0, 0, 1, 1, 1, 0])]) [5, 6, 7, 8, 9, 10, 11, 12, 13], .code (sub (Eng.body Try.f9) [1, 1, 1, 1, 1, 1, 1, 1, 0, 1, 0, 0, 1, 0, 0, 1, 1, 1, 1]), .inBlock 1, .code (sub (Eng.body Try.f9) [1, 1, 1, 1, 1, 1, 1, 1, 0, 1, 0, 0, 1, 1]), .inLoop (sub (Eng.body Try.f9) [1, 1, 1, 1, 1, 1, 1, 1, 0, 1, 0, 0]), .inBlock 0, .code (sub (Eng.body Try.f9) [1, 1, 1, 1, 1, 1, 1, 1, 1])]) (e' := [(0, .int .i64 size3), (1, .int .i64 n2), (2, .slice (some ⟨l2_pb, l2_po, none⟩) l2_l l2_c), (7, .bool up1), (8, .pointer d1), (10, .slice (some ⟨B5, 0, none⟩) b2_l b2_c), (11, .slice (some ⟨B6, 0, none⟩) all_l all_c), (12, .int .i64 i2), (14, .int .i64 r121), (84, .bool true), (87, .bool false)]) (L' := ((B8, .cells #[.int .i64 r11_0, .string r11_1, .bool r11_2] 42) :: (B5, .cells ⟨cs1⟩ 5) :: (B6, .cells ⟨cs2⟩ 3) :: F8)) ?_ (by kernel_rfl)
            refine AtE.run 15 (fun W => by kernel_rfl) ?_
            exact AtE.ret Try.func9 (by kernel_rfl) H
        · replace H := H.2 h23'
          refine AtE.splitP 87 (p := i2 < n2) (by kernel_rfl) (fun h25' => ?_) (fun h25' => ?_)
          · first | exact absurd h18' h25' | exact absurd h25' h18' | simp_all
          · skip
            refine AtE.norm (k' := [.inRegion (regOps [.code (sub (Eng.body Try.f9) [1, 1, 1, 1, 1, 1, 1, 1, 0, 1, 0, 0, 1, 0, 0, 1, 1, 1, 0])]) [5, 6, 7, 8, 9, 10, 11, 12, 13], .code (sub (Eng.body Try.f9) [1, 1, 1, 1, 1, 1, 1, 1, 0, 1, 0, 0, 1, 0, 0, 1, 1, 1, 1]), .inBlock 1, .code (sub (Eng.body Try.f9) [1, 1, 1, 1, 1, 1, 1, 1, 0, 1, 0, 0, 1, 1]), .inLoop (sub (Eng.body Try.f9) [1, 1, 1, 1, 1, 1, 1, 1, 0, 1, 0, 0]), .inBlock 0, .code (sub (Eng.body Try.f9) [1, 1, 1, 1, 1, 1, 1, 1, 1])]) (e' := [(0, .int .i64 size3), (1, .int .i64 n2), (2, .slice (some ⟨l2_pb, l2_po, none⟩) l2_l l2_c), (7, .bool up1), (8, .pointer d1), (10, .slice (some ⟨B5, 0, none⟩) b2_l b2_c), (11, .slice (some ⟨B6, 0, none⟩) all_l all_c), (12, .int .i64 i2), (14, .int .i64 r121), (84, .bool false), (87, .bool false)]) (L' := ((B8, .cells #[.int .i64 r11_0, .string r11_1, .bool r11_2] 42) :: (B5, .cells ⟨cs1⟩ 5) :: (B6, .cells ⟨cs2⟩ 3) :: F8)) ?_ (by kernel_rfl)
            refine AtE.run 5 (fun W => by kernel_rfl) ?_
            refine AtE.splitN 92 (p := r121 = (0 : Int)) (by kernel_rfl) (fun h26' => ?_) (fun h26' => ?_)
            · skip
              refine AtE.run 5 (fun W => by kernel_rfl) ?_
              refine AtE.splitN 96 (p := r121 = (231 : Int)) (by kernel_rfl) (fun h27' => ?_) (fun h27' => ?_)
              · replace H := H.1 h27'
                refine AtE.run 5 (fun W => by kernel_rfl) ?_
                exact AtE.ret Try.func9 (by kernel_rfl) H
              · replace H := H.2 h27'
                refine AtE.run 7 (fun W => by kernel_rfl) ?_
                refine AtE.letI 12 (kd := .i64) (n := (IntKind.i64.wrap (i2 + (1 : Int)))) (by kernel_rfl) (fun i5 hi5 => ?_)
                replace H := H i5 hi5
                refine AtE.run 2 (fun W => by kernel_rfl) ?_
                exact AtE.cutT [1, 2] 3 H (by kernel_rfl)
            · first | exact absurd h23' h26' | exact absurd h26' h23' | simp_all
    · replace H := H.2 h17'
      refine AtE.run 2 (fun W => by kernel_rfl) ?_
      exact AtE.cutT [0, 1] 2 H (by kernel_rfl)
  · replace H := H.2 h16'
    refine AtE.run 6 (fun W => by kernel_rfl) ?_
    exact AtE.cutT [0, 1] 2 H (by kernel_rfl)

theorem DCut_c2_vc (B7 : Nat) (size4 : Int) (n3 : Int) (up2 : Bool) (d2 : Option Addr) (b3_l : Nat) (b3_c : Nat) (cs3 : List Value) (F7 : SHeap) {R : Ending → World → Prop} {w0 : World}
    (H :
      (((0 : Int) < n3) →
        ((up2 = true) →
          CallH Try.prog 19 ⟨[.pointer d2]⟩ ((B7, .cells ⟨cs3⟩ 5) :: F7) [] w0 (fun v L' => ∃ (r141 : Int) (F10 : SHeap), v = (.int .i64 r141) ∧ L' = ((B7, .cells ⟨cs3⟩ 5) :: F10) ∧
            Fin R ((B7, .cells ⟨cs3⟩ 5) :: F10) [] w0 (.bool (decide (r141 = (0 : Int)))))) ∧
         ((up2 = false) →
          Fin R ((B7, .cells ⟨cs3⟩ 5) :: F7) [] w0 (.bool false))) ∧
       ((¬ ((0 : Int) < n3)) →
        CallH Try.prog 13 ⟨[.pointer d2, .int .i64 (0 : Int), .int .i64 (0 : Int)]⟩ ((B7, .cells ⟨cs3⟩ 5) :: F7) [] w0 (fun v L' => ∃ (r151 : ByteArray) (r161 : Int) (F11 : SHeap), v = (.tuple #[.string r151, .int .i64 r161]) ∧ L' = ((B7, .cells ⟨cs3⟩ 5) :: F11) ∧
          ((¬ (r161 = (231 : Int))) →
            Fin R ((B7, .cells ⟨cs3⟩ 5) :: F11) [] w0 (.bool false)) ∧
           ((r161 = (231 : Int)) →
            CallH Try.prog 19 ⟨[.pointer d2]⟩ ((B7, .cells ⟨cs3⟩ 5) :: F11) [] w0 (fun v L' => ∃ (r171 : Int) (F12 : SHeap), v = (.int .i64 r171) ∧ L' = ((B7, .cells ⟨cs3⟩ 5) :: F12) ∧
              ((¬ (r171 = (231 : Int))) →
                Fin R ((B7, .cells ⟨cs3⟩ 5) :: F12) [] w0 (.bool false)) ∧
               ((r171 = (231 : Int)) →
                CallH Try.prog 20 ⟨[.pointer d2, .int .i64 (3 : Int)]⟩ ((B7, .cells ⟨cs3⟩ 5) :: F12) [] w0 (fun v L' => ∃ (r181 : Int) (F13 : SHeap), v = (.int .i64 r181) ∧ L' = ((B7, .cells ⟨cs3⟩ 5) :: F13) ∧
                  ((¬ (r181 = (231 : Int))) →
                    Fin R ((B7, .cells ⟨cs3⟩ 5) :: F13) [] w0 (.bool false)) ∧
                   ((r181 = (231 : Int)) →
                    CallH Try.prog 16 ⟨[.pointer d2]⟩ ((B7, .cells ⟨cs3⟩ 5) :: F13) [] w0 (fun v L' => ∃ (r191 : Int) (F14 : SHeap), v = (.int .i64 r191) ∧ L' = ((B7, .cells ⟨cs3⟩ 5) :: F14) ∧
                      ((¬ (r191 = n3)) →
                        Fin R ((B7, .cells ⟨cs3⟩ 5) :: F14) [] w0 (.bool false)) ∧
                       ((r191 = n3) →
                        CallH Try.prog 15 ⟨[.pointer d2]⟩ ((B7, .cells ⟨cs3⟩ 5) :: F14) [] w0 (fun v L' => ∃ (r201 : Int) (F15 : SHeap), v = (.int .i64 r201) ∧ L' = ((B7, .cells ⟨cs3⟩ 5) :: F15) ∧
                          ((¬ (r201 = size4)) →
                            Fin R ((B7, .cells ⟨cs3⟩ 5) :: F15) [] w0 (.bool false)) ∧
                           ((r201 = size4) →
                            CallH Try.prog 21 ⟨[.pointer d2, .slice none 0 0, .int .i64 (-1 : Int)]⟩ ((B7, .cells ⟨cs3⟩ 5) :: F15) [] w0 (fun v L' => ∃ (r221 : Int) (F16 : SHeap), v = (.int .i64 r221) ∧ L' = ((B7, .cells ⟨cs3⟩ 5) :: F16) ∧
                              CallH Try.prog 13 ⟨[.pointer d2, .int .i64 (0 : Int), .int .i64 size4]⟩ ((B7, .cells ⟨cs3⟩ 5) :: F16) [] w0 (fun v L' => ∃ (r231 : ByteArray) (r241 : Int) (F17 : SHeap), v = (.tuple #[.string r231, .int .i64 r241]) ∧ L' = ((B7, .cells ⟨cs3⟩ 5) :: F17) ∧
                                ((up2 = true) →
                                  ((r221 = (0 : Int)) →
                                    ((r241 = (0 : Int)) →
                                      ∃ bs : List UInt8, (((cs3).drop 0).take b3_l = bytesL bs ∧ bs.length = b3_l) ∧
                                      ((r231 = (⟨bs.toArray⟩ : ByteArray)) →
                                        CallH Try.prog 17 ⟨[.pointer d2, .int .i64 (0 : Int), .string (⟨#[120]⟩)]⟩ ((B7, .cells ⟨cs3⟩ 5) :: F17) [] w0 (fun v L' => ∃ (r251 : Int) (F18 : SHeap), v = (.int .i64 r251) ∧ L' = ((B7, .cells ⟨cs3⟩ 5) :: F18) ∧
                                          ((r251 = (0 : Int)) →
                                            CallH Try.prog 19 ⟨[.pointer d2]⟩ ((B7, .cells ⟨cs3⟩ 5) :: F18) [] w0 (fun v L' => ∃ (r261 : Int) (F19 : SHeap), v = (.int .i64 r261) ∧ L' = ((B7, .cells ⟨cs3⟩ 5) :: F19) ∧
                                              Fin R ((B7, .cells ⟨cs3⟩ 5) :: F19) [] w0 (.bool (decide (r261 = (0 : Int)))))) ∧
                                           ((¬ (r251 = (0 : Int))) →
                                            Fin R ((B7, .cells ⟨cs3⟩ 5) :: F18) [] w0 (.bool false)))) ∧
                                       ((¬ r231 = (⟨bs.toArray⟩ : ByteArray)) →
                                        Fin R ((B7, .cells ⟨cs3⟩ 5) :: F17) [] w0 (.bool false))) ∧
                                     ((¬ (r241 = (0 : Int))) →
                                      Fin R ((B7, .cells ⟨cs3⟩ 5) :: F17) [] w0 (.bool false))) ∧
                                   ((¬ (r221 = (0 : Int))) →
                                    Fin R ((B7, .cells ⟨cs3⟩ 5) :: F17) [] w0 (.bool false))) ∧
                                 ((up2 = false) →
                                  Fin R ((B7, .cells ⟨cs3⟩ 5) :: F17) [] w0 (.bool false)))))))))))))))) :
    DCut_c2 B7 size4 n3 up2 d2 b3_l b3_c cs3 F7 w0 R := by
  unfold DCut_c2
  refine AtE.run 8 (fun W => by kernel_rfl) ?_
  refine AtE.splitP 100 (p := (0 : Int) < n3) (by kernel_rfl) (fun h28' => ?_) (fun h28' => ?_)
  · replace H := H.1 h28'
    refine AtE.run 5 (fun W => by kernel_rfl) ?_
    refine AtE.split 102 (b := up2) (by kernel_rfl) (fun h29' => ?_) (fun h29' => ?_)
    · replace H := H.1 h29'
      refine AtE.run 1 (fun W => by kernel_rfl) ?_
      refine AtE.call 19 ⟨[.pointer d2]⟩ (fun W => by kernel_rfl) (by kernel_rfl) H ?_
      clear H
      rintro _ _ ⟨r141, F10, rfl, rfl, H⟩
      refine AtE.run 4 (fun W => by kernel_rfl) ?_
      exact AtE.ret Try.func9 (by kernel_rfl) H
    · replace H := H.2 h29'
      refine AtE.run 6 (fun W => by kernel_rfl) ?_
      exact AtE.ret Try.func9 (by kernel_rfl) H
  · replace H := H.2 h28'
    refine AtE.run 5 (fun W => by kernel_rfl) ?_
    refine AtE.call 13 ⟨[.pointer d2, .int .i64 (0 : Int), .int .i64 (0 : Int)]⟩ (fun W => by kernel_rfl) (by kernel_rfl) H ?_
    clear H
    rintro _ _ ⟨r151, r161, F11, rfl, rfl, H⟩
    refine AtE.run 12 (fun W => by kernel_rfl) ?_
    refine AtE.splitN 114 (p := r161 = (231 : Int)) (by kernel_rfl) (fun h30' => ?_) (fun h30' => ?_)
    · replace H := H.1 h30'
      refine AtE.run 27 (fun W => by kernel_rfl) ?_
      exact AtE.ret Try.func9 (by kernel_rfl) H
    · replace H := H.2 h30'
      refine AtE.run 1 (fun W => by kernel_rfl) ?_
      refine AtE.call 19 ⟨[.pointer d2]⟩ (fun W => by kernel_rfl) (by kernel_rfl) H ?_
      clear H
      rintro _ _ ⟨r171, F12, rfl, rfl, H⟩
      refine AtE.run 3 (fun W => by kernel_rfl) ?_
      refine AtE.splitN 119 (p := r171 = (231 : Int)) (by kernel_rfl) (fun h31' => ?_) (fun h31' => ?_)
      · replace H := H.1 h31'
        refine AtE.run 22 (fun W => by kernel_rfl) ?_
        exact AtE.ret Try.func9 (by kernel_rfl) H
      · replace H := H.2 h31'
        refine AtE.run 1 (fun W => by kernel_rfl) ?_
        refine AtE.call 20 ⟨[.pointer d2, .int .i64 (3 : Int)]⟩ (fun W => by kernel_rfl) (by kernel_rfl) H ?_
        clear H
        rintro _ _ ⟨r181, F13, rfl, rfl, H⟩
        refine AtE.run 3 (fun W => by kernel_rfl) ?_
        refine AtE.splitN 124 (p := r181 = (231 : Int)) (by kernel_rfl) (fun h32' => ?_) (fun h32' => ?_)
        · replace H := H.1 h32'
          refine AtE.norm (k' := [.inRegion (regOps [.code (sub (Eng.body Try.f9) [1, 1, 1, 1, 1, 1, 1, 1, 1, 1, 1, 0, 0])]) [13, 14, 15, 16, 17, 18, 19, 20, 21, 22, 23], .code (sub (Eng.body Try.f9) [1, 1, 1, 1, 1, 1, 1, 1, 1, 1, 1, 0, 1]), .code (sub (Eng.body Try.f9) [1, 1, 1, 1, 1, 1, 1, 1, 1, 1, 1, 1])]) (e' := [(0, .int .i64 size4), (1, .int .i64 n3), (7, .bool up2), (8, .pointer d2), (10, .slice (some ⟨B7, 0, none⟩) b3_l b3_c), (11, .slice none 0 0), (124, .bool true)]) (L' := ((B7, .cells ⟨cs3⟩ 5) :: F13)) ?_ (by kernel_rfl)
          refine AtE.run 17 (fun W => by kernel_rfl) ?_
          exact AtE.ret Try.func9 (by kernel_rfl) H
        · replace H := H.2 h32'
          refine AtE.norm (k' := [.inRegion (regOps [.code (sub (Eng.body Try.f9) [1, 1, 1, 1, 1, 1, 1, 1, 1, 1, 1, 0, 0])]) [13, 14, 15, 16, 17, 18, 19, 20, 21, 22, 23], .code (sub (Eng.body Try.f9) [1, 1, 1, 1, 1, 1, 1, 1, 1, 1, 1, 0, 1]), .code (sub (Eng.body Try.f9) [1, 1, 1, 1, 1, 1, 1, 1, 1, 1, 1, 1])]) (e' := [(0, .int .i64 size4), (1, .int .i64 n3), (7, .bool up2), (8, .pointer d2), (10, .slice (some ⟨B7, 0, none⟩) b3_l b3_c), (11, .slice none 0 0), (124, .bool false)]) (L' := ((B7, .cells ⟨cs3⟩ 5) :: F13)) ?_ (by kernel_rfl)
          refine AtE.run 1 (fun W => by kernel_rfl) ?_
          refine AtE.call 16 ⟨[.pointer d2]⟩ (fun W => by kernel_rfl) (by kernel_rfl) H ?_
          clear H
          rintro _ _ ⟨r191, F14, rfl, rfl, H⟩
          refine AtE.run 4 (fun W => by kernel_rfl) ?_
          refine AtE.splitN 130 (p := r191 = n3) (by kernel_rfl) (fun h33' => ?_) (fun h33' => ?_)
          · replace H := H.1 h33'
            refine AtE.run 11 (fun W => by kernel_rfl) ?_
            exact AtE.ret Try.func9 (by kernel_rfl) H
          · replace H := H.2 h33'
            refine AtE.run 1 (fun W => by kernel_rfl) ?_
            refine AtE.call 15 ⟨[.pointer d2]⟩ (fun W => by kernel_rfl) (by kernel_rfl) H ?_
            clear H
            rintro _ _ ⟨r201, F15, rfl, rfl, H⟩
            refine AtE.run 4 (fun W => by kernel_rfl) ?_
            refine AtE.splitN 135 (p := r201 = size4) (by kernel_rfl) (fun h34' => ?_) (fun h34' => ?_)
            · replace H := H.1 h34'
              refine AtE.run 5 (fun W => by kernel_rfl) ?_
              exact AtE.ret Try.func9 (by kernel_rfl) H
            · replace H := H.2 h34'
              refine AtE.run 6 (fun W => by kernel_rfl) ?_
              refine AtE.call 21 ⟨[.pointer d2, .slice none 0 0, .int .i64 (-1 : Int)]⟩ (fun W => by kernel_rfl) (by kernel_rfl) H ?_
              clear H
              rintro _ _ ⟨r221, F16, rfl, rfl, H⟩
              refine AtE.run 6 (fun W => by kernel_rfl) ?_
              refine AtE.call 13 ⟨[.pointer d2, .int .i64 (0 : Int), .int .i64 size4]⟩ (fun W => by kernel_rfl) (by kernel_rfl) H ?_
              clear H
              rintro _ _ ⟨r231, r241, F17, rfl, rfl, H⟩
              refine AtE.run 10 (fun W => by kernel_rfl) ?_
              refine AtE.split 146 (b := up2) (by kernel_rfl) (fun h35' => ?_) (fun h35' => ?_)
              · replace H := H.1 h35'
                refine AtE.norm (k' := [.inRegion (regOps [.code (sub (Eng.body Try.f9) [1, 1, 1, 1, 1, 1, 1, 1, 1, 1, 1, 1, 1, 1, 0])]) [2, 3, 4, 5, 6, 7, 8, 9, 10, 11, 12, 13, 14, 15, 16, 17, 18, 19, 20, 21, 22, 23, 24, 25], .code (sub (Eng.body Try.f9) [1, 1, 1, 1, 1, 1, 1, 1, 1, 1, 1, 1, 1, 1, 1])]) (e' := [(8, .pointer d2), (10, .slice (some ⟨B7, 0, none⟩) b3_l b3_c), (17, .int .i64 r221), (18, .string r231), (19, .int .i64 r241), (146, .bool true)]) (L' := ((B7, .cells ⟨cs3⟩ 5) :: F17)) ?_ (by kernel_rfl)
                refine AtE.run 4 (fun W => by kernel_rfl) ?_
                refine AtE.splitP 150 (p := r221 = (0 : Int)) (by kernel_rfl) (fun h36' => ?_) (fun h36' => ?_)
                · replace H := H.1 h36'
                  refine AtE.run 4 (fun W => by kernel_rfl) ?_
                  refine AtE.splitP 154 (p := r241 = (0 : Int)) (by kernel_rfl) (fun h37' => ?_) (fun h37' => ?_)
                  · replace H := H.1 h37'
                    refine AtE.run 2 (fun W => by kernel_rfl) ?_
                    obtain ⟨bs, hb, H⟩ := H
                    refine AtE.toString 0 (E := 5) (o := 0) (len := b3_l) (cap := b3_c) (c := cs3) (l := bs) (by kernel_rfl) hb ?_
                    refine AtE.run 3 (fun W => by kernel_rfl) ?_
                    refine AtE.splitS 160 (x := r231) (y := (⟨bs.toArray⟩ : ByteArray)) (by kernel_rfl) (fun h38' => ?_) (fun h38' => ?_)
                    · replace H := H.1 h38'
                      refine AtE.run 1 (fun W => by kernel_rfl) ?_
                      refine AtE.call 17 ⟨[.pointer d2, .int .i64 (0 : Int), .string (⟨#[120]⟩)]⟩ (fun W => by kernel_rfl) (by kernel_rfl) H ?_
                      clear H
                      rintro _ _ ⟨r251, F18, rfl, rfl, H⟩
                      refine AtE.run 3 (fun W => by kernel_rfl) ?_
                      refine AtE.splitP 165 (p := r251 = (0 : Int)) (by kernel_rfl) (fun h39' => ?_) (fun h39' => ?_)
                      · replace H := H.1 h39'
                        refine AtE.run 1 (fun W => by kernel_rfl) ?_
                        refine AtE.call 19 ⟨[.pointer d2]⟩ (fun W => by kernel_rfl) (by kernel_rfl) H ?_
                        clear H
                        rintro _ _ ⟨r261, F19, rfl, rfl, H⟩
                        refine AtE.norm (k' := [.inRegion (regOps [.code (sub (Eng.body Try.f9) [1, 1, 1, 1, 1, 1, 1, 1, 1, 1, 1, 1, 1, 1, 0])]) [23, 24, 25], .code (sub (Eng.body Try.f9) [1, 1, 1, 1, 1, 1, 1, 1, 1, 1, 1, 1, 1, 1, 1])]) (e' := [(165, .bool true), (167, .int .i64 r261)]) (L' := ((B7, .cells ⟨cs3⟩ 5) :: F19)) ?_ (by kernel_rfl)
                        refine AtE.run 4 (fun W => by kernel_rfl) ?_
                        exact AtE.ret Try.func9 (by kernel_rfl) H
                      · replace H := H.2 h39'
                        refine AtE.run 6 (fun W => by kernel_rfl) ?_
                        exact AtE.ret Try.func9 (by kernel_rfl) H
                    · replace H := H.2 h38'
                      refine AtE.run 11 (fun W => by kernel_rfl) ?_
                      exact AtE.ret Try.func9 (by kernel_rfl) H
                  · replace H := H.2 h37'
                    refine AtE.run 17 (fun W => by kernel_rfl) ?_
                    exact AtE.ret Try.func9 (by kernel_rfl) H
                · replace H := H.2 h36'
                  refine AtE.run 21 (fun W => by kernel_rfl) ?_
                  exact AtE.ret Try.func9 (by kernel_rfl) H
              · replace H := H.2 h35'
                refine AtE.norm (k' := [.inRegion (regOps [.code (sub (Eng.body Try.f9) [1, 1, 1, 1, 1, 1, 1, 1, 1, 1, 1, 1, 1, 1, 0])]) [2, 3, 4, 5, 6, 7, 8, 9, 10, 11, 12, 13, 14, 15, 16, 17, 18, 19, 20, 21, 22, 23, 24, 25], .code (sub (Eng.body Try.f9) [1, 1, 1, 1, 1, 1, 1, 1, 1, 1, 1, 1, 1, 1, 1])]) (e' := [(8, .pointer d2), (10, .slice (some ⟨B7, 0, none⟩) b3_l b3_c), (17, .int .i64 r221), (18, .string r231), (19, .int .i64 r241), (146, .bool false)]) (L' := ((B7, .cells ⟨cs3⟩ 5) :: F17)) ?_ (by kernel_rfl)
                refine AtE.run 25 (fun W => by kernel_rfl) ?_
                exact AtE.ret Try.func9 (by kernel_rfl) H

theorem DCut_c3_vc (B11 : Nat) (B12 : Nat) (size5 : Int) (n4 : Int) (up3 : Bool) (d3 : Option Addr) (b5_l : Nat) (b5_c : Nat) (all1_l : Nat) (all1_c : Nat) (cs4 : List Value) (cs5 : List Value) (F9 : SHeap) {R : Ending → World → Prop} {w0 : World}
    (H :
      (((all1_l : Int) < n4) →
        ((up3 = true) →
          CallH Try.prog 19 ⟨[.pointer d3]⟩ ((B11, .cells ⟨cs4⟩ 5) :: (B12, .cells ⟨cs5⟩ 3) :: F9) [] w0 (fun v L' => ∃ (r271 : Int) (F20 : SHeap), v = (.int .i64 r271) ∧ L' = ((B11, .cells ⟨cs4⟩ 5) :: (B12, .cells ⟨cs5⟩ 3) :: F20) ∧
            Fin R ((B11, .cells ⟨cs4⟩ 5) :: (B12, .cells ⟨cs5⟩ 3) :: F20) [] w0 (.bool (decide (r271 = (0 : Int)))))) ∧
         ((up3 = false) →
          Fin R ((B11, .cells ⟨cs4⟩ 5) :: (B12, .cells ⟨cs5⟩ 3) :: F9) [] w0 (.bool false))) ∧
       ((¬ ((all1_l : Int) < n4)) →
        CallH Try.prog 13 ⟨[.pointer d3, .int .i64 (0 : Int), .int .i64 (0 : Int)]⟩ ((B11, .cells ⟨cs4⟩ 5) :: (B12, .cells ⟨cs5⟩ 3) :: F9) [] w0 (fun v L' => ∃ (r281 : ByteArray) (r291 : Int) (F21 : SHeap), v = (.tuple #[.string r281, .int .i64 r291]) ∧ L' = ((B11, .cells ⟨cs4⟩ 5) :: (B12, .cells ⟨cs5⟩ 3) :: F21) ∧
          ((¬ (r291 = (231 : Int))) →
            Fin R ((B11, .cells ⟨cs4⟩ 5) :: (B12, .cells ⟨cs5⟩ 3) :: F21) [] w0 (.bool false)) ∧
           ((r291 = (231 : Int)) →
            CallH Try.prog 19 ⟨[.pointer d3]⟩ ((B11, .cells ⟨cs4⟩ 5) :: (B12, .cells ⟨cs5⟩ 3) :: F21) [] w0 (fun v L' => ∃ (r301 : Int) (F22 : SHeap), v = (.int .i64 r301) ∧ L' = ((B11, .cells ⟨cs4⟩ 5) :: (B12, .cells ⟨cs5⟩ 3) :: F22) ∧
              ((¬ (r301 = (231 : Int))) →
                Fin R ((B11, .cells ⟨cs4⟩ 5) :: (B12, .cells ⟨cs5⟩ 3) :: F22) [] w0 (.bool false)) ∧
               ((r301 = (231 : Int)) →
                CallH Try.prog 20 ⟨[.pointer d3, .int .i64 (3 : Int)]⟩ ((B11, .cells ⟨cs4⟩ 5) :: (B12, .cells ⟨cs5⟩ 3) :: F22) [] w0 (fun v L' => ∃ (r321 : Int) (F23 : SHeap), v = (.int .i64 r321) ∧ L' = ((B11, .cells ⟨cs4⟩ 5) :: (B12, .cells ⟨cs5⟩ 3) :: F23) ∧
                  ((¬ (r321 = (231 : Int))) →
                    Fin R ((B11, .cells ⟨cs4⟩ 5) :: (B12, .cells ⟨cs5⟩ 3) :: F23) [] w0 (.bool false)) ∧
                   ((r321 = (231 : Int)) →
                    CallH Try.prog 16 ⟨[.pointer d3]⟩ ((B11, .cells ⟨cs4⟩ 5) :: (B12, .cells ⟨cs5⟩ 3) :: F23) [] w0 (fun v L' => ∃ (r331 : Int) (F24 : SHeap), v = (.int .i64 r331) ∧ L' = ((B11, .cells ⟨cs4⟩ 5) :: (B12, .cells ⟨cs5⟩ 3) :: F24) ∧
                      ((¬ (r331 = n4)) →
                        Fin R ((B11, .cells ⟨cs4⟩ 5) :: (B12, .cells ⟨cs5⟩ 3) :: F24) [] w0 (.bool false)) ∧
                       ((r331 = n4) →
                        CallH Try.prog 15 ⟨[.pointer d3]⟩ ((B11, .cells ⟨cs4⟩ 5) :: (B12, .cells ⟨cs5⟩ 3) :: F24) [] w0 (fun v L' => ∃ (r341 : Int) (F25 : SHeap), v = (.int .i64 r341) ∧ L' = ((B11, .cells ⟨cs4⟩ 5) :: (B12, .cells ⟨cs5⟩ 3) :: F25) ∧
                          ((¬ (r341 = size5)) →
                            Fin R ((B11, .cells ⟨cs4⟩ 5) :: (B12, .cells ⟨cs5⟩ 3) :: F25) [] w0 (.bool false)) ∧
                           ((r341 = size5) →
                            CallH Try.prog 21 ⟨[.pointer d3, .slice (some ⟨B12, 0, none⟩) all1_l all1_c, .int .i64 (-1 : Int)]⟩ ((B11, .cells ⟨cs4⟩ 5) :: (B12, .cells ⟨cs5⟩ 3) :: F25) [] w0 (fun v L' => ∃ (r351 : Int) (F26 : SHeap), v = (.int .i64 r351) ∧ L' = ((B11, .cells ⟨cs4⟩ 5) :: (B12, .cells ⟨cs5⟩ 3) :: F26) ∧
                              CallH Try.prog 13 ⟨[.pointer d3, .int .i64 (0 : Int), .int .i64 size5]⟩ ((B11, .cells ⟨cs4⟩ 5) :: (B12, .cells ⟨cs5⟩ 3) :: F26) [] w0 (fun v L' => ∃ (r361 : ByteArray) (r371 : Int) (F27 : SHeap), v = (.tuple #[.string r361, .int .i64 r371]) ∧ L' = ((B11, .cells ⟨cs4⟩ 5) :: (B12, .cells ⟨cs5⟩ 3) :: F27) ∧
                                ((up3 = true) →
                                  ((r351 = (0 : Int)) →
                                    ((r371 = (0 : Int)) →
                                      ∃ bs1 : List UInt8, (((cs4).drop 0).take b5_l = bytesL bs1 ∧ bs1.length = b5_l) ∧
                                      ((r361 = (⟨bs1.toArray⟩ : ByteArray)) →
                                        CallH Try.prog 17 ⟨[.pointer d3, .int .i64 (0 : Int), .string (⟨#[120]⟩)]⟩ ((B11, .cells ⟨cs4⟩ 5) :: (B12, .cells ⟨cs5⟩ 3) :: F27) [] w0 (fun v L' => ∃ (r381 : Int) (F28 : SHeap), v = (.int .i64 r381) ∧ L' = ((B11, .cells ⟨cs4⟩ 5) :: (B12, .cells ⟨cs5⟩ 3) :: F28) ∧
                                          ((r381 = (0 : Int)) →
                                            CallH Try.prog 19 ⟨[.pointer d3]⟩ ((B11, .cells ⟨cs4⟩ 5) :: (B12, .cells ⟨cs5⟩ 3) :: F28) [] w0 (fun v L' => ∃ (r391 : Int) (F29 : SHeap), v = (.int .i64 r391) ∧ L' = ((B11, .cells ⟨cs4⟩ 5) :: (B12, .cells ⟨cs5⟩ 3) :: F29) ∧
                                              Fin R ((B11, .cells ⟨cs4⟩ 5) :: (B12, .cells ⟨cs5⟩ 3) :: F29) [] w0 (.bool (decide (r391 = (0 : Int)))))) ∧
                                           ((¬ (r381 = (0 : Int))) →
                                            Fin R ((B11, .cells ⟨cs4⟩ 5) :: (B12, .cells ⟨cs5⟩ 3) :: F28) [] w0 (.bool false)))) ∧
                                       ((¬ r361 = (⟨bs1.toArray⟩ : ByteArray)) →
                                        Fin R ((B11, .cells ⟨cs4⟩ 5) :: (B12, .cells ⟨cs5⟩ 3) :: F27) [] w0 (.bool false))) ∧
                                     ((¬ (r371 = (0 : Int))) →
                                      Fin R ((B11, .cells ⟨cs4⟩ 5) :: (B12, .cells ⟨cs5⟩ 3) :: F27) [] w0 (.bool false))) ∧
                                   ((¬ (r351 = (0 : Int))) →
                                    Fin R ((B11, .cells ⟨cs4⟩ 5) :: (B12, .cells ⟨cs5⟩ 3) :: F27) [] w0 (.bool false))) ∧
                                 ((up3 = false) →
                                  Fin R ((B11, .cells ⟨cs4⟩ 5) :: (B12, .cells ⟨cs5⟩ 3) :: F27) [] w0 (.bool false)))))))))))))))) :
    DCut_c3 B11 B12 size5 n4 up3 d3 b5_l b5_c all1_l all1_c cs4 cs5 F9 w0 R := by
  unfold DCut_c3
  refine AtE.run 8 (fun W => by kernel_rfl) ?_
  refine AtE.splitP 100 (p := (all1_l : Int) < n4) (by kernel_rfl) (fun h40' => ?_) (fun h40' => ?_)
  · replace H := H.1 h40'
    refine AtE.run 5 (fun W => by kernel_rfl) ?_
    refine AtE.split 102 (b := up3) (by kernel_rfl) (fun h41' => ?_) (fun h41' => ?_)
    · replace H := H.1 h41'
      refine AtE.run 1 (fun W => by kernel_rfl) ?_
      refine AtE.call 19 ⟨[.pointer d3]⟩ (fun W => by kernel_rfl) (by kernel_rfl) H ?_
      clear H
      rintro _ _ ⟨r271, F20, rfl, rfl, H⟩
      refine AtE.run 4 (fun W => by kernel_rfl) ?_
      exact AtE.ret Try.func9 (by kernel_rfl) H
    · replace H := H.2 h41'
      refine AtE.run 6 (fun W => by kernel_rfl) ?_
      exact AtE.ret Try.func9 (by kernel_rfl) H
  · replace H := H.2 h40'
    refine AtE.run 5 (fun W => by kernel_rfl) ?_
    refine AtE.call 13 ⟨[.pointer d3, .int .i64 (0 : Int), .int .i64 (0 : Int)]⟩ (fun W => by kernel_rfl) (by kernel_rfl) H ?_
    clear H
    rintro _ _ ⟨r281, r291, F21, rfl, rfl, H⟩
    refine AtE.run 12 (fun W => by kernel_rfl) ?_
    refine AtE.splitN 114 (p := r291 = (231 : Int)) (by kernel_rfl) (fun h42' => ?_) (fun h42' => ?_)
    · replace H := H.1 h42'
      refine AtE.run 27 (fun W => by kernel_rfl) ?_
      exact AtE.ret Try.func9 (by kernel_rfl) H
    · replace H := H.2 h42'
      refine AtE.run 1 (fun W => by kernel_rfl) ?_
      refine AtE.call 19 ⟨[.pointer d3]⟩ (fun W => by kernel_rfl) (by kernel_rfl) H ?_
      clear H
      rintro _ _ ⟨r301, F22, rfl, rfl, H⟩
      refine AtE.run 3 (fun W => by kernel_rfl) ?_
      refine AtE.splitN 119 (p := r301 = (231 : Int)) (by kernel_rfl) (fun h43' => ?_) (fun h43' => ?_)
      · replace H := H.1 h43'
        refine AtE.run 22 (fun W => by kernel_rfl) ?_
        exact AtE.ret Try.func9 (by kernel_rfl) H
      · replace H := H.2 h43'
        refine AtE.run 1 (fun W => by kernel_rfl) ?_
        refine AtE.call 20 ⟨[.pointer d3, .int .i64 (3 : Int)]⟩ (fun W => by kernel_rfl) (by kernel_rfl) H ?_
        clear H
        rintro _ _ ⟨r321, F23, rfl, rfl, H⟩
        refine AtE.run 3 (fun W => by kernel_rfl) ?_
        refine AtE.splitN 124 (p := r321 = (231 : Int)) (by kernel_rfl) (fun h44' => ?_) (fun h44' => ?_)
        · replace H := H.1 h44'
          refine AtE.norm (k' := [.inRegion (regOps [.code (sub (Eng.body Try.f9) [1, 1, 1, 1, 1, 1, 1, 1, 1, 1, 1, 0, 0])]) [13, 14, 15, 16, 17, 18, 19, 20, 21, 22, 23], .code (sub (Eng.body Try.f9) [1, 1, 1, 1, 1, 1, 1, 1, 1, 1, 1, 0, 1]), .code (sub (Eng.body Try.f9) [1, 1, 1, 1, 1, 1, 1, 1, 1, 1, 1, 1])]) (e' := [(0, .int .i64 size5), (1, .int .i64 n4), (7, .bool up3), (8, .pointer d3), (10, .slice (some ⟨B11, 0, none⟩) b5_l b5_c), (11, .slice (some ⟨B12, 0, none⟩) all1_l all1_c), (124, .bool true)]) (L' := ((B11, .cells ⟨cs4⟩ 5) :: (B12, .cells ⟨cs5⟩ 3) :: F23)) ?_ (by kernel_rfl)
          refine AtE.run 17 (fun W => by kernel_rfl) ?_
          exact AtE.ret Try.func9 (by kernel_rfl) H
        · replace H := H.2 h44'
          refine AtE.norm (k' := [.inRegion (regOps [.code (sub (Eng.body Try.f9) [1, 1, 1, 1, 1, 1, 1, 1, 1, 1, 1, 0, 0])]) [13, 14, 15, 16, 17, 18, 19, 20, 21, 22, 23], .code (sub (Eng.body Try.f9) [1, 1, 1, 1, 1, 1, 1, 1, 1, 1, 1, 0, 1]), .code (sub (Eng.body Try.f9) [1, 1, 1, 1, 1, 1, 1, 1, 1, 1, 1, 1])]) (e' := [(0, .int .i64 size5), (1, .int .i64 n4), (7, .bool up3), (8, .pointer d3), (10, .slice (some ⟨B11, 0, none⟩) b5_l b5_c), (11, .slice (some ⟨B12, 0, none⟩) all1_l all1_c), (124, .bool false)]) (L' := ((B11, .cells ⟨cs4⟩ 5) :: (B12, .cells ⟨cs5⟩ 3) :: F23)) ?_ (by kernel_rfl)
          refine AtE.run 1 (fun W => by kernel_rfl) ?_
          refine AtE.call 16 ⟨[.pointer d3]⟩ (fun W => by kernel_rfl) (by kernel_rfl) H ?_
          clear H
          rintro _ _ ⟨r331, F24, rfl, rfl, H⟩
          refine AtE.run 4 (fun W => by kernel_rfl) ?_
          refine AtE.splitN 130 (p := r331 = n4) (by kernel_rfl) (fun h45' => ?_) (fun h45' => ?_)
          · replace H := H.1 h45'
            refine AtE.run 11 (fun W => by kernel_rfl) ?_
            exact AtE.ret Try.func9 (by kernel_rfl) H
          · replace H := H.2 h45'
            refine AtE.run 1 (fun W => by kernel_rfl) ?_
            refine AtE.call 15 ⟨[.pointer d3]⟩ (fun W => by kernel_rfl) (by kernel_rfl) H ?_
            clear H
            rintro _ _ ⟨r341, F25, rfl, rfl, H⟩
            refine AtE.run 4 (fun W => by kernel_rfl) ?_
            refine AtE.splitN 135 (p := r341 = size5) (by kernel_rfl) (fun h46' => ?_) (fun h46' => ?_)
            · replace H := H.1 h46'
              refine AtE.run 5 (fun W => by kernel_rfl) ?_
              exact AtE.ret Try.func9 (by kernel_rfl) H
            · replace H := H.2 h46'
              refine AtE.run 6 (fun W => by kernel_rfl) ?_
              refine AtE.call 21 ⟨[.pointer d3, .slice (some ⟨B12, 0, none⟩) all1_l all1_c, .int .i64 (-1 : Int)]⟩ (fun W => by kernel_rfl) (by kernel_rfl) H ?_
              clear H
              rintro _ _ ⟨r351, F26, rfl, rfl, H⟩
              refine AtE.run 6 (fun W => by kernel_rfl) ?_
              refine AtE.call 13 ⟨[.pointer d3, .int .i64 (0 : Int), .int .i64 size5]⟩ (fun W => by kernel_rfl) (by kernel_rfl) H ?_
              clear H
              rintro _ _ ⟨r361, r371, F27, rfl, rfl, H⟩
              refine AtE.run 10 (fun W => by kernel_rfl) ?_
              refine AtE.split 146 (b := up3) (by kernel_rfl) (fun h47' => ?_) (fun h47' => ?_)
              · replace H := H.1 h47'
                refine AtE.norm (k' := [.inRegion (regOps [.code (sub (Eng.body Try.f9) [1, 1, 1, 1, 1, 1, 1, 1, 1, 1, 1, 1, 1, 1, 0])]) [2, 3, 4, 5, 6, 7, 8, 9, 10, 11, 12, 13, 14, 15, 16, 17, 18, 19, 20, 21, 22, 23, 24, 25], .code (sub (Eng.body Try.f9) [1, 1, 1, 1, 1, 1, 1, 1, 1, 1, 1, 1, 1, 1, 1])]) (e' := [(8, .pointer d3), (10, .slice (some ⟨B11, 0, none⟩) b5_l b5_c), (17, .int .i64 r351), (18, .string r361), (19, .int .i64 r371), (146, .bool true)]) (L' := ((B11, .cells ⟨cs4⟩ 5) :: (B12, .cells ⟨cs5⟩ 3) :: F27)) ?_ (by kernel_rfl)
                refine AtE.run 4 (fun W => by kernel_rfl) ?_
                refine AtE.splitP 150 (p := r351 = (0 : Int)) (by kernel_rfl) (fun h48' => ?_) (fun h48' => ?_)
                · replace H := H.1 h48'
                  refine AtE.run 4 (fun W => by kernel_rfl) ?_
                  refine AtE.splitP 154 (p := r371 = (0 : Int)) (by kernel_rfl) (fun h49' => ?_) (fun h49' => ?_)
                  · replace H := H.1 h49'
                    refine AtE.run 2 (fun W => by kernel_rfl) ?_
                    obtain ⟨bs1, hb, H⟩ := H
                    refine AtE.toString 0 (E := 5) (o := 0) (len := b5_l) (cap := b5_c) (c := cs4) (l := bs1) (by kernel_rfl) hb ?_
                    refine AtE.run 3 (fun W => by kernel_rfl) ?_
                    refine AtE.splitS 160 (x := r361) (y := (⟨bs1.toArray⟩ : ByteArray)) (by kernel_rfl) (fun h50' => ?_) (fun h50' => ?_)
                    · replace H := H.1 h50'
                      refine AtE.run 1 (fun W => by kernel_rfl) ?_
                      refine AtE.call 17 ⟨[.pointer d3, .int .i64 (0 : Int), .string (⟨#[120]⟩)]⟩ (fun W => by kernel_rfl) (by kernel_rfl) H ?_
                      clear H
                      rintro _ _ ⟨r381, F28, rfl, rfl, H⟩
                      refine AtE.run 3 (fun W => by kernel_rfl) ?_
                      refine AtE.splitP 165 (p := r381 = (0 : Int)) (by kernel_rfl) (fun h51' => ?_) (fun h51' => ?_)
                      · replace H := H.1 h51'
                        refine AtE.run 1 (fun W => by kernel_rfl) ?_
                        refine AtE.call 19 ⟨[.pointer d3]⟩ (fun W => by kernel_rfl) (by kernel_rfl) H ?_
                        clear H
                        rintro _ _ ⟨r391, F29, rfl, rfl, H⟩
                        refine AtE.norm (k' := [.inRegion (regOps [.code (sub (Eng.body Try.f9) [1, 1, 1, 1, 1, 1, 1, 1, 1, 1, 1, 1, 1, 1, 0])]) [23, 24, 25], .code (sub (Eng.body Try.f9) [1, 1, 1, 1, 1, 1, 1, 1, 1, 1, 1, 1, 1, 1, 1])]) (e' := [(165, .bool true), (167, .int .i64 r391)]) (L' := ((B11, .cells ⟨cs4⟩ 5) :: (B12, .cells ⟨cs5⟩ 3) :: F29)) ?_ (by kernel_rfl)
                        refine AtE.run 4 (fun W => by kernel_rfl) ?_
                        exact AtE.ret Try.func9 (by kernel_rfl) H
                      · replace H := H.2 h51'
                        refine AtE.run 6 (fun W => by kernel_rfl) ?_
                        exact AtE.ret Try.func9 (by kernel_rfl) H
                    · replace H := H.2 h50'
                      refine AtE.run 11 (fun W => by kernel_rfl) ?_
                      exact AtE.ret Try.func9 (by kernel_rfl) H
                  · replace H := H.2 h49'
                    refine AtE.run 17 (fun W => by kernel_rfl) ?_
                    exact AtE.ret Try.func9 (by kernel_rfl) H
                · replace H := H.2 h48'
                  refine AtE.run 21 (fun W => by kernel_rfl) ?_
                  exact AtE.ret Try.func9 (by kernel_rfl) H
              · replace H := H.2 h47'
                refine AtE.norm (k' := [.inRegion (regOps [.code (sub (Eng.body Try.f9) [1, 1, 1, 1, 1, 1, 1, 1, 1, 1, 1, 1, 1, 1, 0])]) [2, 3, 4, 5, 6, 7, 8, 9, 10, 11, 12, 13, 14, 15, 16, 17, 18, 19, 20, 21, 22, 23, 24, 25], .code (sub (Eng.body Try.f9) [1, 1, 1, 1, 1, 1, 1, 1, 1, 1, 1, 1, 1, 1, 1])]) (e' := [(8, .pointer d3), (10, .slice (some ⟨B11, 0, none⟩) b5_l b5_c), (17, .int .i64 r351), (18, .string r361), (19, .int .i64 r371), (146, .bool false)]) (L' := ((B11, .cells ⟨cs4⟩ 5) :: (B12, .cells ⟨cs5⟩ 3) :: F27)) ?_ (by kernel_rfl)
                refine AtE.run 25 (fun W => by kernel_rfl) ?_
                exact AtE.ret Try.func9 (by kernel_rfl) H

theorem DCut_vc (size : Int) (n : Int) (l_p : Option Addr) (l_l : Nat) (l_c : Nat) (F : SHeap) {R : Ending → World → Prop} {w0 W : World} (hm : Mem (F) [] w0 W)
    (H :
      CallH Try.prog 11 ⟨[]⟩ (F) [] w0 (fun v L' => ∃ (r1 : Bool), v = (.bool r1) ∧ L' = (F) ∧
        CallH Try.prog 14 ⟨[.int .i64 size, .int .i64 (100 : Int)]⟩ (F) [] w0 (fun v L' => ∃ (r21 : Int), v = (.int .i64 r21) ∧ L' = (F) ∧
          ∀ size1 : Int, size1 = (IntKind.i64.wrap ((1 : Int) + r21)) →
          CallH Try.prog 14 ⟨[.int .i64 n, .int .i64 (20 : Int)]⟩ (F) [] w0 (fun v L' => ∃ (r31 : Int), v = (.int .i64 r31) ∧ L' = (F) ∧
            CallH Try.prog 12 ⟨[.int .i64 size1]⟩ (F) [] w0 (fun v L' => ∃ (r41 : Option Addr) (r51 : Int) (F1 : SHeap), v = (.tuple #[.pointer r41, .int .i64 r51]) ∧ L' = (F1) ∧
              ((¬ (r51 = (0 : Int))) →
                Fin R (F1) [] w0 (.bool false)) ∧
               ((r51 = (0 : Int)) →
                CallH Try.prog 20 ⟨[.pointer r41, .int .i64 (IntKind.i64.wrap (r31 + (5 : Int)))]⟩ (F1) [] w0 (fun v L' => ∃ (r61 : Int) (F2 : SHeap), v = (.int .i64 r61) ∧ L' = (F2) ∧
                  ((¬ (r61 = (0 : Int))) →
                    Fin R (F2) [] w0 (.bool false)) ∧
                   ((r61 = (0 : Int)) →
                    CallH Try.prog 20 ⟨[.pointer r41, .int .i64 r31]⟩ (F2) [] w0 (fun v L' => ∃ (r71 : Int) (F3 : SHeap), v = (.int .i64 r71) ∧ L' = (F3) ∧
                      ((¬ (r71 = (0 : Int))) →
                        Fin R (F3) [] w0 (.bool false)) ∧
                       ((r71 = (0 : Int)) →
                        (0 ≤ size1 ∧ size1 ≤ size1 ∧ 1 * size1 ≤ 281474976710656 ∧ size1 ≤ 9223372036854775807) ∧
                        ∀ B : Nat,
                        DCut_c0 B size1 r31 l_p l_l l_c r1 r41 (Int.toNat size1) (Int.toNat size1) (0 : Int) (List.replicate (Int.toNat size1) (.int .u8 (0 : Int))) F3 w0 R)))))))))) :
    Calls Try.prog 9 ⟨[.int .i64 size, .int .i64 n, .slice l_p l_l l_c]⟩ W R := by
  refine AtE.calls (nt := 170) Try.func9 (by kernel_rfl) hm ?_
  refine AtE.run 6 (fun W => by kernel_rfl) ?_
  refine AtE.call 11 ⟨[]⟩ (fun W => by kernel_rfl) (by kernel_rfl) H ?_
  clear H
  rintro _ F ⟨r1, rfl, rfl, H⟩
  refine AtE.run 5 (fun W => by kernel_rfl) ?_
  refine AtE.call 14 ⟨[.int .i64 size, .int .i64 (100 : Int)]⟩ (fun W => by kernel_rfl) (by kernel_rfl) H ?_
  clear H
  rintro _ F ⟨r21, rfl, rfl, H⟩
  refine AtE.run 2 (fun W => by kernel_rfl) ?_
  refine AtE.letI 0 (kd := .i64) (n := (IntKind.i64.wrap ((1 : Int) + r21))) (by kernel_rfl) (fun size1 hsize1 => ?_)
  replace H := H size1 hsize1
  refine AtE.run 4 (fun W => by kernel_rfl) ?_
  refine AtE.call 14 ⟨[.int .i64 n, .int .i64 (20 : Int)]⟩ (fun W => by kernel_rfl) (by kernel_rfl) H ?_
  clear H
  rintro _ F ⟨r31, rfl, rfl, H⟩
  refine AtE.run 5 (fun W => by kernel_rfl) ?_
  refine AtE.call 12 ⟨[.int .i64 size1]⟩ (fun W => by kernel_rfl) (by kernel_rfl) H ?_
  clear H
  rintro _ F1 ⟨r41, r51, _, rfl, rfl, H⟩
  refine AtE.run 12 (fun W => by kernel_rfl) ?_
  refine AtE.splitN 33 (p := r51 = (0 : Int)) (by kernel_rfl) (fun h1' => ?_) (fun h1' => ?_)
  · replace H := H.1 h1'
    refine AtE.run 18 (fun W => by kernel_rfl) ?_
    exact AtE.ret Try.func9 (by kernel_rfl) H
  · replace H := H.2 h1'
    refine AtE.run 3 (fun W => by kernel_rfl) ?_
    refine AtE.call 20 ⟨[.pointer r41, .int .i64 (IntKind.i64.wrap (r31 + (5 : Int)))]⟩ (fun W => by kernel_rfl) (by kernel_rfl) H ?_
    clear H
    rintro _ F2 ⟨r61, _, rfl, rfl, H⟩
    refine AtE.norm (k' := [.inRegion (regOps [.code (sub (Eng.body Try.f9) [1, 1, 1, 1, 1, 0, 0])]) [7, 8, 9, 10, 11, 12, 13, 14], .code (sub (Eng.body Try.f9) [1, 1, 1, 1, 1, 0, 1]), .code (sub (Eng.body Try.f9) [1, 1, 1, 1, 1, 1])]) (e' := [(0, .int .i64 size1), (1, .int .i64 r31), (2, .slice l_p l_l l_c), (7, .bool r1), (8, .pointer r41), (33, .bool false), (37, .int .i64 r61)]) (L' := (F2)) ?_ (by kernel_rfl)
    refine AtE.run 3 (fun W => by kernel_rfl) ?_
    refine AtE.splitN 40 (p := r61 = (0 : Int)) (by kernel_rfl) (fun h2' => ?_) (fun h2' => ?_)
    · replace H := H.1 h2'
      refine AtE.run 11 (fun W => by kernel_rfl) ?_
      exact AtE.ret Try.func9 (by kernel_rfl) H
    · replace H := H.2 h2'
      refine AtE.run 2 (fun W => by kernel_rfl) ?_
      refine AtE.call 20 ⟨[.pointer r41, .int .i64 r31]⟩ (fun W => by kernel_rfl) (by kernel_rfl) H ?_
      clear H
      rintro _ F3 ⟨r71, _, rfl, rfl, H⟩
      refine AtE.run 3 (fun W => by kernel_rfl) ?_
      refine AtE.splitN 45 (p := r71 = (0 : Int)) (by kernel_rfl) (fun h3' => ?_) (fun h3' => ?_)
      · replace H := H.1 h3'
        refine AtE.run 5 (fun W => by kernel_rfl) ?_
        exact AtE.ret Try.func9 (by kernel_rfl) H
      · replace H := H.2 h3'
        refine AtE.run 5 (fun W => by kernel_rfl) ?_
        refine AtE.make (E := 5) (kl := .i64) (kc := .i64) (n := size1) (m := size1) (z := .int .u8 (0 : Int)) (bytes := 1) (by kernel_rfl) H.1 (fun B => ?_)
        replace H := H.2 B
        refine AtE.front ?_
        refine AtE.run 13 (fun W => by kernel_rfl) ?_
        exact AtE.cutT [0] 1 H (by kernel_rfl)

end Go.Eng
