/- Verification conditions of the functions, written by a program of the prover, checked here. -/
import Derived.Test.YtgplckfjbdnedaaDoorEngInl

import Derived.Test.YtgplckfjbdnedaaDoorEngEq

import Derived.Test.YtgplckfjbdnedaaDoorChecked

namespace Go.Eng

open Go Go.RowKit Go.Proofs

set_option linter.unusedVariables false

set_option maxRecDepth 100000

def LChanged_c0 (B2 : Nat) (x1 : ByteArray) (up : Bool) (b_l : Nat) (b_c : Nat) (kv1 : Int) (changed : Bool) (i : Int) (lo : Nat) (hi : Nat) (cs : List Value) (w0 : World) (R : Ending → World → Prop) : Prop :=
  AtE Tryd.prog 8 115 [.code (sub (Eng.body Tryd.f8) [1, 1, 1, 1, 1, 1, 1, 1, 1, 0, 1, 0, 0]), .inLoop (sub (Eng.body Tryd.f8) [1, 1, 1, 1, 1, 1, 1, 1, 1, 0, 1, 0, 0]), .inBlock 0, .code (sub (Eng.body Tryd.f8) [1, 1, 1, 1, 1, 1, 1, 1, 1, 1])] [(2, .string x1), (7, .bool up), (13, .slice (some ⟨B2, 0, none⟩) b_l b_c), (14, .int .i64 kv1), (15, .bool changed), (16, .int .i64 i)] [(B2, .cells ⟨cs⟩ 5 (lo, hi))] [] w0 (nrm R)

def LChanged_c1 (B3 : Nat) (up1 : Bool) (b1_l : Nat) (b1_c : Nat) (changed1 : Bool) (lo1 : Nat) (hi1 : Nat) (cs1 : List Value) (w0 : World) (R : Ending → World → Prop) : Prop :=
  AtE Tryd.prog 8 115 [.code (sub (Eng.body Tryd.f8) [1, 1, 1, 1, 1, 1, 1, 1, 1, 1])] [(7, .bool up1), (13, .slice (some ⟨B3, 0, none⟩) b1_l b1_c), (15, .bool changed1)] [(B3, .cells ⟨cs1⟩ 5 (lo1, hi1))] [] w0 (nrm R)

theorem LChanged_c0_vc (B2 : Nat) (x1 : ByteArray) (up : Bool) (b_l : Nat) (b_c : Nat) (kv1 : Int) (changed : Bool) (i : Int) (lo : Nat) (hi : Nat) (cs : List Value) {R : Ending → World → Prop} {w0 : World}
    (H :
      ((i < (x1.size : Int)) →
        ((i < (4 : Int)) →
          (((IntKind.i64.wrap (kv1 + i)) < (b_l : Int)) →
            (0 ≤ (IntKind.i64.wrap (kv1 + i)) ∧ (IntKind.i64.wrap (kv1 + i)) < b_l) ∧
            ∃ (m1 : Int), (cs)[(Int.toNat (IntKind.i64.wrap (kv1 + i)))]? = some (.int .u8 m1) ∧
            (0 ≤ i ∧ i < x1.size) ∧
            (0 ≤ (IntKind.i64.wrap (kv1 + i)) ∧ (IntKind.i64.wrap (kv1 + i)) < b_l) ∧
            ((Int.toNat (IntKind.i64.wrap (kv1 + i))) < (cs).length) ∧
            ((Int.toNat (IntKind.i64.wrap (kv1 + i))) < lo ∨ hi ≤ (Int.toNat (IntKind.i64.wrap (kv1 + i)))) ∧
            ((changed = true) →
              ∀ i1 : Int, i1 = (IntKind.i64.wrap (i + (1 : Int))) →
              LChanged_c0 B2 x1 up b_l b_c kv1 true i1 lo hi ((cs).set (Int.toNat (IntKind.i64.wrap (kv1 + i))) (.int .u8 (ixor .u8 m1 (bat x1 i)))) w0 R) ∧
             ((changed = false) →
              (0 ≤ i ∧ i < x1.size) ∧
              ∀ i2 : Int, i2 = (IntKind.i64.wrap (i + (1 : Int))) →
              LChanged_c0 B2 x1 up b_l b_c kv1 (!decide ((bat x1 i) = (0 : Int))) i2 lo hi ((cs).set (Int.toNat (IntKind.i64.wrap (kv1 + i))) (.int .u8 (ixor .u8 m1 (bat x1 i)))) w0 R)) ∧
           ((¬ ((IntKind.i64.wrap (kv1 + i)) < (b_l : Int))) →
            LChanged_c1 B2 up b_l b_c changed lo hi cs w0 R)) ∧
         ((¬ (i < (4 : Int))) →
          LChanged_c1 B2 up b_l b_c changed lo hi cs w0 R)) ∧
       ((¬ (i < (x1.size : Int))) →
        LChanged_c1 B2 up b_l b_c changed lo hi cs w0 R)) :
    LChanged_c0 B2 x1 up b_l b_c kv1 changed i lo hi cs w0 R := by
  unfold LChanged_c0
  refine AtE.run 8 (fun W => by kernel_rfl) ?_
  refine AtE.splitP 57 (p := i < (x1.size : Int)) (by kernel_rfl) (fun h4' => ?_) (fun h4' => ?_)
  · replace H := H.1 h4'
    refine AtE.run 4 (fun W => by kernel_rfl) ?_
    refine AtE.splitP 61 (p := i < (4 : Int)) (by kernel_rfl) (fun h5' => ?_) (fun h5' => ?_)
    · replace H := H.1 h5'
      refine AtE.run 8 (fun W => by kernel_rfl) ?_
      refine AtE.splitP 68 (p := (IntKind.i64.wrap (kv1 + i)) < (b_l : Int)) (by kernel_rfl) (fun h6' => ?_) (fun h6' => ?_)
      · replace H := H.1 h6'
        refine AtE.run 5 (fun W => by kernel_rfl) ?_
        refine AtE.norm (k' := [.code (sub (Eng.body Tryd.f8) [1, 1, 1, 1, 1, 1, 1, 1, 1, 0, 1, 0, 0, 1, 0, 0, 0]), .code (sub (Eng.body Tryd.f8) [1, 1, 1, 1, 1, 1, 1, 1, 1, 0, 1, 0, 0, 1, 0, 0, 1]), .inBlock 1, .code (sub (Eng.body Tryd.f8) [1, 1, 1, 1, 1, 1, 1, 1, 1, 0, 1, 0, 0, 1, 1]), .inLoop (sub (Eng.body Tryd.f8) [1, 1, 1, 1, 1, 1, 1, 1, 1, 0, 1, 0, 0]), .inBlock 0, .code (sub (Eng.body Tryd.f8) [1, 1, 1, 1, 1, 1, 1, 1, 1, 1])]) (e' := [(2, .string x1), (7, .bool up), (13, .slice (some ⟨B2, 0, none⟩) b_l b_c), (14, .int .i64 kv1), (15, .bool changed), (16, .int .i64 i)]) (L' := [(B2, .cells ⟨cs⟩ 5 (lo, hi))]) ?_ (by kernel_rfl)
        refine AtE.draw 15 (by kernel_rfl) ?_
        refine AtQ.pure (by kernel_rfl) (fun W => by kernel_rfl) ?_
        refine AtQ.pure (by kernel_rfl) (fun W => by kernel_rfl) ?_
        refine AtQ.pure (by kernel_rfl) (fun W => by kernel_rfl) ?_
        refine AtQ.pure (by kernel_rfl) (fun W => by kernel_rfl) ?_
        refine AtQ.pure (by kernel_rfl) (fun W => by kernel_rfl) ?_
        refine AtQ.pure (by kernel_rfl) (fun W => by kernel_rfl) ?_
        refine AtQ.pure (by kernel_rfl) (fun W => by kernel_rfl) ?_
        refine AtQ.pure (by kernel_rfl) (fun W => by kernel_rfl) ?_
        refine AtQ.indexAddrL (E := 5) (b := B2) (o := 0) (len := b_l) (cap := b_c) (sz := 1) (o' := (Int.toNat (IntKind.i64.wrap (kv1 + i)))) (kd := .i64) (i := (IntKind.i64.wrap (kv1 + i))) (by kernel_rfl) H.1 (by omega) ?_
        replace H := H.2
        obtain ⟨m1, hx, H⟩ := H
        refine AtQ.loadS 0 (off := (Int.toNat (IntKind.i64.wrap (kv1 + i)))) (T := 5) (v := .int .u8 m1) (by kernel_rfl) (valAt_one hx (by kernel_rfl)) ?_
        refine AtQ.pure (by kernel_rfl) (fun W => by kernel_rfl) ?_
        refine AtQ.pure (by kernel_rfl) (fun W => by kernel_rfl) ?_
        refine AtQ.indexS (s := x1) (kd := .i64) (i := i) (by kernel_rfl) H.1 ?_
        replace H := H.2
        refine AtQ.pure (by kernel_rfl) (fun W => by kernel_rfl) ?_
        refine AtQ.indexAddrL (E := 5) (b := B2) (o := 0) (len := b_l) (cap := b_c) (sz := 1) (o' := (Int.toNat (IntKind.i64.wrap (kv1 + i)))) (kd := .i64) (i := (IntKind.i64.wrap (kv1 + i))) (by kernel_rfl) H.1 (by omega) ?_
        replace H := H.2
        refine AtQ.done (by kernel_rfl) ?_
        refine AtE.storeS 0 (off := (Int.toNat (IntKind.i64.wrap (kv1 + i)))) (lo := lo) (hi := hi) (T := 5) (v := .int .u8 (ixor .u8 m1 (bat x1 i))) (c := cs) (by kernel_rfl) H.1 H.2.1 ?_
        replace H := H.2.2
        refine AtE.run 4 (fun W => by kernel_rfl) ?_
        refine AtE.split 87 (b := changed) (by kernel_rfl) (fun h7' => ?_) (fun h7' => ?_)
        · replace H := H.1 h7'
          refine AtE.run 12 (fun W => by kernel_rfl) ?_
          refine AtE.letI 16 (kd := .i64) (n := (IntKind.i64.wrap (i + (1 : Int)))) (by kernel_rfl) (fun i1 hi1 => ?_)
          replace H := H i1 hi1
          refine AtE.norm (k' := [.inRegion (regOps [.code (sub (Eng.body Tryd.f8) [1, 1, 1, 1, 1, 1, 1, 1, 1, 0, 1, 0, 0, 1, 1])]) [], .inLoop (sub (Eng.body Tryd.f8) [1, 1, 1, 1, 1, 1, 1, 1, 1, 0, 1, 0, 0]), .inBlock 0, .code (sub (Eng.body Tryd.f8) [1, 1, 1, 1, 1, 1, 1, 1, 1, 1])]) (e' := [(2, .string x1), (7, .bool up), (13, .slice (some ⟨B2, 0, none⟩) b_l b_c), (14, .int .i64 kv1), (15, .bool true), (16, .int .i64 i1)]) (L' := [(B2, .cells ⟨((cs).set (Int.toNat (IntKind.i64.wrap (kv1 + i))) (.int .u8 (ixor .u8 m1 (bat x1 i))))⟩ 5 (lo, hi))]) ?_ (by kernel_rfl)
          refine AtE.run 2 (fun W => by kernel_rfl) ?_
          exact AtE.cut [0] H (by kernel_rfl)
        · replace H := H.2 h7'
          refine AtE.run 2 (fun W => by kernel_rfl) ?_
          refine AtE.indexS (s := x1) (kd := .i64) (i := i) (by kernel_rfl) H.1 ?_
          replace H := H.2
          refine AtE.norm (k' := [.inRegion (regOps [.code (sub (Eng.body Tryd.f8) [1, 1, 1, 1, 1, 1, 1, 1, 1, 0, 1, 0, 0, 1, 0, 0, 1])]) [5, 6, 7], .inBlock 1, .code (sub (Eng.body Tryd.f8) [1, 1, 1, 1, 1, 1, 1, 1, 1, 0, 1, 0, 0, 1, 1]), .inLoop (sub (Eng.body Tryd.f8) [1, 1, 1, 1, 1, 1, 1, 1, 1, 0, 1, 0, 0]), .inBlock 0, .code (sub (Eng.body Tryd.f8) [1, 1, 1, 1, 1, 1, 1, 1, 1, 1])]) (e' := [(2, .string x1), (7, .bool up), (13, .slice (some ⟨B2, 0, none⟩) b_l b_c), (14, .int .i64 kv1), (16, .int .i64 i), (87, .bool false), (90, .int .u8 (bat x1 i))]) (L' := [(B2, .cells ⟨((cs).set (Int.toNat (IntKind.i64.wrap (kv1 + i))) (.int .u8 (ixor .u8 m1 (bat x1 i))))⟩ 5 (lo, hi))]) ?_ (by kernel_rfl)
          refine AtE.run 9 (fun W => by kernel_rfl) ?_
          refine AtE.letI 16 (kd := .i64) (n := (IntKind.i64.wrap (i + (1 : Int)))) (by kernel_rfl) (fun i2 hi2 => ?_)
          replace H := H i2 hi2
          refine AtE.run 2 (fun W => by kernel_rfl) ?_
          exact AtE.cut [0] H (by kernel_rfl)
      · replace H := H.2 h6'
        refine AtE.run 2 (fun W => by kernel_rfl) ?_
        exact AtE.cut [0] H (by kernel_rfl)
    · replace H := H.2 h5'
      refine AtE.run 10 (fun W => by kernel_rfl) ?_
      exact AtE.cut [0] H (by kernel_rfl)
  · replace H := H.2 h4'
    refine AtE.run 14 (fun W => by kernel_rfl) ?_
    exact AtE.cut [0] H (by kernel_rfl)

theorem LChanged_c1_vc (B3 : Nat) (up1 : Bool) (b1_l : Nat) (b1_c : Nat) (changed1 : Bool) (lo1 : Nat) (hi1 : Nat) (cs1 : List Value) {R : Ending → World → Prop} {w0 : World}
    (H :
      ∃ bs : List UInt8, (((cs1).drop 0).take b1_l = bytesL bs ∧ bs.length = b1_l) ∧
      CallH Tryd.prog 16 ⟨[.string (⟨bs.toArray⟩)]⟩ [(B3, .cells ⟨cs1⟩ 5 (lo1, hi1))] [] w0 (fun v L' => ∃ (r10_0 : Int) (r10_1 : Int) (r10_2 : Int) (r10_3 : Int) (r10_4 : Int) (r10_5 : Int) (r10_6 : ByteArray) (r111 : Int), v = (.tuple #[.agg #[.int .i64 r10_0, .int .i64 r10_1, .int .i64 r10_2, .int .i64 r10_3, .int .i64 r10_4, .int .i64 r10_5, .string r10_6], .int .i64 r111]) ∧ L' = [(B3, .cells ⟨cs1⟩ 5 (lo1, hi1))] ∧
        ∀ B4 : Nat,
        ((up1 = true) →
          ((changed1 = true) →
            ((r111 = (200 : Int)) →
              Fin R [(B3, .cells ⟨cs1⟩ 5 (lo1, hi1)), (B4, .cells #[.int .i64 r10_0, .int .i64 r10_1, .int .i64 r10_2, .int .i64 r10_3, .int .i64 r10_4, .int .i64 r10_5, .string r10_6] 23)] [] w0 (.bool true)) ∧
             ((¬ (r111 = (200 : Int))) →
              Fin R [(B3, .cells ⟨cs1⟩ 5 (lo1, hi1)), (B4, .cells #[.int .i64 r10_0, .int .i64 r10_1, .int .i64 r10_2, .int .i64 r10_3, .int .i64 r10_4, .int .i64 r10_5, .string r10_6] 23)] [] w0 (.bool false))) ∧
           ((changed1 = false) →
            Fin R [(B3, .cells ⟨cs1⟩ 5 (lo1, hi1)), (B4, .cells #[.int .i64 r10_0, .int .i64 r10_1, .int .i64 r10_2, .int .i64 r10_3, .int .i64 r10_4, .int .i64 r10_5, .string r10_6] 23)] [] w0 (.bool (decide (r111 = (0 : Int)))))) ∧
         ((up1 = false) →
          Fin R [(B3, .cells ⟨cs1⟩ 5 (lo1, hi1)), (B4, .cells #[.int .i64 r10_0, .int .i64 r10_1, .int .i64 r10_2, .int .i64 r10_3, .int .i64 r10_4, .int .i64 r10_5, .string r10_6] 23)] [] w0 (.bool false)))) :
    LChanged_c1 B3 up1 b1_l b1_c changed1 lo1 hi1 cs1 w0 R := by
  unfold LChanged_c1
  refine AtE.run 3 (fun W => by kernel_rfl) ?_
  obtain ⟨bs, hb, H⟩ := H
  refine AtE.toString 0 (E := 5) (o := 0) (len := b1_l) (cap := b1_c) (c := cs1) (l := bs) (by kernel_rfl) hb ?_
  refine AtE.call 16 ⟨[.string (⟨bs.toArray⟩)]⟩ (fun W => by kernel_rfl) (by kernel_rfl) H ?_
  clear H
  rintro _ _ ⟨r10_0, r10_1, r10_2, r10_3, r10_4, r10_5, r10_6, r111, rfl, rfl, H⟩
  refine AtE.run 3 (fun W => by kernel_rfl) ?_
  refine AtE.new (fun B => .pointer (some ⟨B, 0, none⟩)) (.cells #[.int .i64 (0 : Int), .int .i64 (0 : Int), .int .i64 (0 : Int), .int .i64 (0 : Int), .int .i64 (0 : Int), .int .i64 (0 : Int), .string (⟨#[]⟩)] 23) (fun W => by kernel_rfl) (by kernel_rfl) (fun B4 => ?_)
  replace H := H B4
  refine AtE.store 1 0 (T := 23) (v := .agg #[.int .i64 r10_0, .int .i64 r10_1, .int .i64 r10_2, .int .i64 r10_3, .int .i64 r10_4, .int .i64 r10_5, .string r10_6]) (by kernel_rfl) ?_
  refine AtE.run 6 (fun W => by kernel_rfl) ?_
  refine AtE.split 100 (b := up1) (by kernel_rfl) (fun h8' => ?_) (fun h8' => ?_)
  · replace H := H.1 h8'
    refine AtE.run 2 (fun W => by kernel_rfl) ?_
    refine AtE.split 102 (b := changed1) (by kernel_rfl) (fun h9' => ?_) (fun h9' => ?_)
    · replace H := H.1 h9'
      refine AtE.run 4 (fun W => by kernel_rfl) ?_
      refine AtE.splitP 106 (p := r111 = (200 : Int)) (by kernel_rfl) (fun h10' => ?_) (fun h10' => ?_)
      · replace H := H.1 h10'
        refine AtE.norm (k' := [.inRegion (regOps [.code (sub (Eng.body Tryd.f8) [1, 1, 1, 1, 1, 1, 1, 1, 1, 1, 1, 0])]) [8, 9, 10, 11, 12, 13, 14, 15, 16], .code (sub (Eng.body Tryd.f8) [1, 1, 1, 1, 1, 1, 1, 1, 1, 1, 1, 1])]) (e' := [(15, .bool changed1), (18, .int .i64 r111), (100, .bool true), (106, .bool true)]) (L' := [(B3, .cells ⟨cs1⟩ 5 (lo1, hi1)), (B4, .cells #[.int .i64 r10_0, .int .i64 r10_1, .int .i64 r10_2, .int .i64 r10_3, .int .i64 r10_4, .int .i64 r10_5, .string r10_6] 23)]) ?_ (by kernel_rfl)
        refine AtE.run 10 (fun W => by kernel_rfl) ?_
        exact AtE.ret Tryd.func8 (by kernel_rfl) H
      · replace H := H.2 h10'
        refine AtE.norm (k' := [.inRegion (regOps [.code (sub (Eng.body Tryd.f8) [1, 1, 1, 1, 1, 1, 1, 1, 1, 1, 1, 0])]) [8, 9, 10, 11, 12, 13, 14, 15, 16], .code (sub (Eng.body Tryd.f8) [1, 1, 1, 1, 1, 1, 1, 1, 1, 1, 1, 1])]) (e' := [(15, .bool changed1), (18, .int .i64 r111), (100, .bool true), (106, .bool false)]) (L' := [(B3, .cells ⟨cs1⟩ 5 (lo1, hi1)), (B4, .cells #[.int .i64 r10_0, .int .i64 r10_1, .int .i64 r10_2, .int .i64 r10_3, .int .i64 r10_4, .int .i64 r10_5, .string r10_6] 23)]) ?_ (by kernel_rfl)
        refine AtE.run 1 (fun W => by kernel_rfl) ?_
        refine AtE.split 107 (b := changed1) (by kernel_rfl) (fun h11' => ?_) (fun h11' => ?_)
        · skip
          refine AtE.run 9 (fun W => by kernel_rfl) ?_
          exact AtE.ret Tryd.func8 (by kernel_rfl) H
        · first | exact absurd h9' h11' | exact absurd h11' h9' | simp_all
    · replace H := H.2 h9'
      refine AtE.run 5 (fun W => by kernel_rfl) ?_
      refine AtE.split 107 (b := changed1) (by kernel_rfl) (fun h12' => ?_) (fun h12' => ?_)
      · first | exact absurd h9' h12' | exact absurd h12' h9' | simp_all
      · skip
        refine AtE.norm (k' := [.inRegion (regOps [.code (sub (Eng.body Tryd.f8) [1, 1, 1, 1, 1, 1, 1, 1, 1, 1, 1, 0])]) [9, 10, 11, 12, 13, 14, 15, 16], .code (sub (Eng.body Tryd.f8) [1, 1, 1, 1, 1, 1, 1, 1, 1, 1, 1, 1])]) (e' := [(18, .int .i64 r111), (100, .bool true), (106, .bool false), (107, .bool false)]) (L' := [(B3, .cells ⟨cs1⟩ 5 (lo1, hi1)), (B4, .cells #[.int .i64 r10_0, .int .i64 r10_1, .int .i64 r10_2, .int .i64 r10_3, .int .i64 r10_4, .int .i64 r10_5, .string r10_6] 23)]) ?_ (by kernel_rfl)
        refine AtE.run 9 (fun W => by kernel_rfl) ?_
        exact AtE.ret Tryd.func8 (by kernel_rfl) H
  · replace H := H.2 h8'
    refine AtE.run 16 (fun W => by kernel_rfl) ?_
    exact AtE.ret Tryd.func8 (by kernel_rfl) H

theorem LChanged_vc (mk : Int) (mp : Int) (mq : Int) (mt : Int) (mb : Int) (mv : Int) (md : ByteArray) (atv : Int) (x : ByteArray) {R : Ending → World → Prop} {w0 W : World} (hm : Mem [] [] w0 W)
    (H :
      ∀ B : Nat,
      CallH Tryd.prog 10 ⟨[]⟩ [(B, .cells #[.int .i64 mk, .int .i64 mp, .int .i64 mq, .int .i64 mt, .int .i64 mb, .int .i64 mv, .string md] 23)] [] w0 (fun v L' => ∃ (r1 : Bool), v = (.bool r1) ∧ L' = [(B, .cells #[.int .i64 mk, .int .i64 mp, .int .i64 mq, .int .i64 mt, .int .i64 mb, .int .i64 mv, .string md] 23)] ∧
        CallH Tryd.prog 11 ⟨[.agg #[.int .i64 mk, .int .i64 mp, .int .i64 mq, .int .i64 mt, .int .i64 mb, .int .i64 mv, .string md]]⟩ [(B, .cells #[.int .i64 mk, .int .i64 mp, .int .i64 mq, .int .i64 mt, .int .i64 mb, .int .i64 mv, .string md] 23)] [] w0 (fun v L' => ∃ (r2_0 : Int) (r2_1 : Int) (r2_2 : Int) (r2_3 : Int) (r2_4 : Int) (r2_5 : Int) (r2_6 : ByteArray), v = (.agg #[.int .i64 r2_0, .int .i64 r2_1, .int .i64 r2_2, .int .i64 r2_3, .int .i64 r2_4, .int .i64 r2_5, .string r2_6]) ∧ L' = [(B, .cells #[.int .i64 mk, .int .i64 mp, .int .i64 mq, .int .i64 mt, .int .i64 mb, .int .i64 mv, .string md] 23)] ∧
          CallH Tryd.prog 12 ⟨[.agg #[.int .i64 r2_0, .int .i64 r2_1, .int .i64 r2_2, .int .i64 r2_3, .int .i64 r2_4, .int .i64 r2_5, .string r2_6]]⟩ [(B, .cells #[.int .i64 mk, .int .i64 mp, .int .i64 mq, .int .i64 mt, .int .i64 mb, .int .i64 mv, .string md] 23)] [] w0 (fun v L' => ∃ (r31 : ByteArray) (r41 : Int), v = (.tuple #[.string r31, .int .i64 r41]) ∧ L' = [(B, .cells #[.int .i64 mk, .int .i64 mp, .int .i64 mq, .int .i64 mt, .int .i64 mb, .int .i64 mv, .string md] 23)] ∧
            ((¬ (r41 = (0 : Int))) →
              Fin R [(B, .cells #[.int .i64 mk, .int .i64 mp, .int .i64 mq, .int .i64 mt, .int .i64 mb, .int .i64 mv, .string md] 23)] [] w0 (.bool r1)) ∧
             ((r41 = (0 : Int)) →
              CallH Tryd.prog 20 ⟨[.string r31, .int .i64 (0 : Int)]⟩ [(B, .cells #[.int .i64 mk, .int .i64 mp, .int .i64 mq, .int .i64 mt, .int .i64 mb, .int .i64 mv, .string md] 23)] [] w0 (fun v L' => ∃ (r51 : Int) (r61 : Int) (r71 : Int), v = (.tuple #[.int .i64 r51, .int .i64 r61, .int .i64 r71]) ∧ L' = [(B, .cells #[.int .i64 mk, .int .i64 mp, .int .i64 mq, .int .i64 mt, .int .i64 mb, .int .i64 mv, .string md] 23)] ∧
                ((¬ (r71 = (0 : Int))) →
                  Fin R [(B, .cells #[.int .i64 mk, .int .i64 mp, .int .i64 mq, .int .i64 mt, .int .i64 mb, .int .i64 mv, .string md] 23)] [] w0 (.bool false)) ∧
                 ((r71 = (0 : Int)) →
                  (((r31.size : Int) ≤ r61) →
                    Fin R [(B, .cells #[.int .i64 mk, .int .i64 mp, .int .i64 mq, .int .i64 mt, .int .i64 mb, .int .i64 mv, .string md] 23)] [] w0 (.bool false)) ∧
                   ((¬ ((r31.size : Int) ≤ r61)) →
                    ∀ B1 r8 : Nat,
                    CallH Tryd.prog 21 ⟨[.int .i64 atv, .int .i64 (IntKind.i64.wrap ((r31.size : Int) - r61))]⟩ [(B, .cells #[.int .i64 mk, .int .i64 mp, .int .i64 mq, .int .i64 mt, .int .i64 mb, .int .i64 mv, .string md] 23), (B1, .cells ⟨(bytesL r31.data.toList ++ List.replicate r8 (.int .u8 0))⟩ 5 (r31.size + r8, r31.size + r8 + 1))] [] w0 (fun v L' => ∃ (r91 : Int), v = (.int .i64 r91) ∧ L' = [(B, .cells #[.int .i64 mk, .int .i64 mp, .int .i64 mq, .int .i64 mt, .int .i64 mb, .int .i64 mv, .string md] 23), (B1, .cells ⟨(bytesL r31.data.toList ++ List.replicate r8 (.int .u8 0))⟩ 5 (r31.size + r8, r31.size + r8 + 1))] ∧
                      ∀ kv : Int, kv = (IntKind.i64.wrap (r61 + r91)) →
                      LChanged_c0 B1 x r1 r31.size (r31.size + r8) kv false (0 : Int) (r31.size + r8) (r31.size + r8 + 1) (bytesL r31.data.toList ++ List.replicate r8 (.int .u8 0)) w0 R))))))))) :
    Calls Tryd.prog 8 ⟨[.agg #[.int .i64 mk, .int .i64 mp, .int .i64 mq, .int .i64 mt, .int .i64 mb, .int .i64 mv, .string md], .int .i64 atv, .string x]⟩ W R := by
  refine AtE.calls (nt := 115) Tryd.func8 (by kernel_rfl) hm ?_
  refine AtE.run 2 (fun W => by kernel_rfl) ?_
  refine AtE.new (fun B => .pointer (some ⟨B, 0, none⟩)) (.cells #[.int .i64 mk, .int .i64 mp, .int .i64 mq, .int .i64 mt, .int .i64 mb, .int .i64 mv, .string md] 23) (fun W => by kernel_rfl) (by kernel_rfl) (fun B => ?_)
  replace H := H B
  refine AtE.run 4 (fun W => by kernel_rfl) ?_
  refine AtE.call 10 ⟨[]⟩ (fun W => by kernel_rfl) (by kernel_rfl) H ?_
  clear H
  rintro _ _ ⟨r1, rfl, rfl, H⟩
  refine AtE.run 4 (fun W => by kernel_rfl) ?_
  refine AtE.load 0 0 (T := 23) (v := .agg #[.int .i64 mk, .int .i64 mp, .int .i64 mq, .int .i64 mt, .int .i64 mb, .int .i64 mv, .string md]) (by kernel_rfl) ?_
  refine AtE.call 11 ⟨[.agg #[.int .i64 mk, .int .i64 mp, .int .i64 mq, .int .i64 mt, .int .i64 mb, .int .i64 mv, .string md]]⟩ (fun W => by kernel_rfl) (by kernel_rfl) H ?_
  clear H
  rintro _ _ ⟨r2_0, r2_1, r2_2, r2_3, r2_4, r2_5, r2_6, rfl, rfl, H⟩
  refine AtE.call 12 ⟨[.agg #[.int .i64 r2_0, .int .i64 r2_1, .int .i64 r2_2, .int .i64 r2_3, .int .i64 r2_4, .int .i64 r2_5, .string r2_6]]⟩ (fun W => by kernel_rfl) (by kernel_rfl) H ?_
  clear H
  rintro _ _ ⟨r31, r41, rfl, rfl, H⟩
  refine AtE.run 12 (fun W => by kernel_rfl) ?_
  refine AtE.splitN 27 (p := r41 = (0 : Int)) (by kernel_rfl) (fun h1' => ?_) (fun h1' => ?_)
  · replace H := H.1 h1'
    refine AtE.run 6 (fun W => by kernel_rfl) ?_
    exact AtE.ret Tryd.func8 (by kernel_rfl) H
  · replace H := H.2 h1'
    refine AtE.run 5 (fun W => by kernel_rfl) ?_
    refine AtE.call 20 ⟨[.string r31, .int .i64 (0 : Int)]⟩ (fun W => by kernel_rfl) (by kernel_rfl) H ?_
    clear H
    rintro _ _ ⟨r51, r61, r71, rfl, rfl, H⟩
    refine AtE.norm (k' := [.inRegion (regOps [.code (sub (Eng.body Tryd.f8) [1, 1, 1, 1, 0])]) [2, 3, 4, 5, 6, 7, 8], .code (sub (Eng.body Tryd.f8) [1, 1, 1, 1, 1])]) (e' := [(1, .int .i64 atv), (2, .string x), (7, .bool r1), (8, .string r31), (31, .tuple #[.int .i64 r51, .int .i64 r61, .int .i64 r71])]) (L' := [(B, .cells #[.int .i64 mk, .int .i64 mp, .int .i64 mq, .int .i64 mt, .int .i64 mb, .int .i64 mv, .string md] 23)]) ?_ (by kernel_rfl)
    refine AtE.run 14 (fun W => by kernel_rfl) ?_
    refine AtE.splitN 37 (p := r71 = (0 : Int)) (by kernel_rfl) (fun h2' => ?_) (fun h2' => ?_)
    · replace H := H.1 h2'
      refine AtE.run 11 (fun W => by kernel_rfl) ?_
      exact AtE.ret Tryd.func8 (by kernel_rfl) H
    · replace H := H.2 h2'
      refine AtE.run 6 (fun W => by kernel_rfl) ?_
      refine AtE.splitP 42 (p := (r31.size : Int) ≤ r61) (by kernel_rfl) (fun h3' => ?_) (fun h3' => ?_)
      · replace H := H.1 h3'
        refine AtE.run 5 (fun W => by kernel_rfl) ?_
        exact AtE.ret Tryd.func8 (by kernel_rfl) H
      · replace H := H.2 h3'
        refine AtE.run 5 (fun W => by kernel_rfl) ?_
        refine AtE.toBytes (E := 5) (s := r31) (by kernel_rfl) (fun B1 r8 => ?_)
        replace H := H B1 r8
        refine AtE.run 10 (fun W => by kernel_rfl) ?_
        refine AtE.call 21 ⟨[.int .i64 atv, .int .i64 (IntKind.i64.wrap ((r31.size : Int) - r61))]⟩ (fun W => by kernel_rfl) (by kernel_rfl) H ?_
        clear H
        rintro _ _ ⟨r91, rfl, rfl, H⟩
        refine AtE.run 2 (fun W => by kernel_rfl) ?_
        refine AtE.letI 14 (kd := .i64) (n := (IntKind.i64.wrap (r61 + r91))) (by kernel_rfl) (fun kv hkv => ?_)
        replace H := H kv hkv
        refine AtE.run 12 (fun W => by kernel_rfl) ?_
        exact AtE.cut [1] H (by kernel_rfl)

end Go.Eng
