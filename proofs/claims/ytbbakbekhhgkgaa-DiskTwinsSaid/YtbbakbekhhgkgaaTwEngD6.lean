/- Verification conditions of the functions, written by a program of the prover, checked here. -/
import Derived.Test.YtbbakbekhhgkgaaTwEngInl

import Derived.Test.YtbbakbekhhgkgaaTwEngFreeRules

import Derived.Test.YtbbakbekhhgkgaaChecked

namespace Go.Eng

open Go Go.RowKit Go.Proofs

set_option linter.unusedVariables false

set_option maxRecDepth 100000

def CrashBytes_c0 (B1 : Nat) (size2 : Int) (l1_p : Option Addr) (l1_l : Nat) (l1_c : Nat) (keep1_p : Option Addr) (keep1_l : Nat) (keep1_c : Nat) (torn1 : Int) (up : Bool) (d : Option Addr) (want_l : Nat) (want_c : Nat) (i : Int) (cs : List Value) (F2 : SHeap) (w0 : World) (R : Ending → World → Prop) : Prop :=
  AtE Try.prog 7 158 [.code (sub (Eng.body Try.f7) [1, 1, 1, 1, 1, 1, 0, 1, 0, 0]), .inLoop (sub (Eng.body Try.f7) [1, 1, 1, 1, 1, 1, 0, 1, 0, 0]), .inBlock 0, .code (sub (Eng.body Try.f7) [1, 1, 1, 1, 1, 1, 1])] [(0, .int .i64 size2), (1, .slice l1_p l1_l l1_c), (2, .slice keep1_p keep1_l keep1_c), (3, .int .i64 torn1), (9, .bool up), (10, .pointer d), (12, .slice (some ⟨B1, 0, none⟩) want_l want_c), (13, .int .i64 i)] ((B1, .cells ⟨cs⟩ 5) :: F2) [] w0 (nrm R)

def CrashBytes_c1 (B2 : Nat) (size3 : Int) (l2_p : Option Addr) (l2_l : Nat) (l2_c : Nat) (keep2_p : Option Addr) (keep2_l : Nat) (keep2_c : Nat) (torn2 : Int) (up1 : Bool) (d1 : Option Addr) (want1_l : Nat) (want1_c : Nat) (cs1 : List Value) (F3 : SHeap) (w0 : World) (R : Ending → World → Prop) : Prop :=
  AtE Try.prog 7 158 [.code (sub (Eng.body Try.f7) [1, 1, 1, 1, 1, 1, 1])] [(0, .int .i64 size3), (1, .slice l2_p l2_l l2_c), (2, .slice keep2_p keep2_l keep2_c), (3, .int .i64 torn2), (9, .bool up1), (10, .pointer d1), (12, .slice (some ⟨B2, 0, none⟩) want1_l want1_c)] ((B2, .cells ⟨cs1⟩ 5) :: F3) [] w0 (nrm R)

def CrashBytes_c2 (B3 : Nat) (size4 : Int) (l3_p : Option Addr) (l3_l : Nat) (l3_c : Nat) (keep3_p : Option Addr) (keep3_l : Nat) (keep3_c : Nat) (torn3 : Int) (up2 : Bool) (d2 : Option Addr) (want2_l : Nat) (want2_c : Nat) (last : Int) (i2 : Int) (cs2 : List Value) (F6 : SHeap) (w0 : World) (R : Ending → World → Prop) : Prop :=
  AtE Try.prog 7 158 [.code (sub (Eng.body Try.f7) [1, 1, 1, 1, 1, 1, 1, 1, 1, 0, 1, 0, 0]), .inLoop (sub (Eng.body Try.f7) [1, 1, 1, 1, 1, 1, 1, 1, 1, 0, 1, 0, 0]), .inBlock 2, .code (sub (Eng.body Try.f7) [1, 1, 1, 1, 1, 1, 1, 1, 1, 1])] [(0, .int .i64 size4), (1, .slice l3_p l3_l l3_c), (2, .slice keep3_p keep3_l keep3_c), (3, .int .i64 torn3), (9, .bool up2), (10, .pointer d2), (12, .slice (some ⟨B3, 0, none⟩) want2_l want2_c), (14, .int .i64 last), (15, .int .i64 i2)] ((B3, .cells ⟨cs2⟩ 5) :: F6) [] w0 (nrm R)

def CrashBytes_c3 (B4 : Nat) (size5 : Int) (l4_p : Option Addr) (l4_l : Nat) (l4_c : Nat) (keep4_p : Option Addr) (keep4_l : Nat) (keep4_c : Nat) (torn4 : Int) (up3 : Bool) (d3 : Option Addr) (want3_l : Nat) (want3_c : Nat) (last1 : Int) (cs3 : List Value) (F7 : SHeap) (w0 : World) (R : Ending → World → Prop) : Prop :=
  AtE Try.prog 7 158 [.code (sub (Eng.body Try.f7) [1, 1, 1, 1, 1, 1, 1, 1, 1, 1])] [(0, .int .i64 size5), (1, .slice l4_p l4_l l4_c), (2, .slice keep4_p keep4_l keep4_c), (3, .int .i64 torn4), (9, .bool up3), (10, .pointer d3), (12, .slice (some ⟨B4, 0, none⟩) want3_l want3_c), (14, .int .i64 last1)] ((B4, .cells ⟨cs3⟩ 5) :: F7) [] w0 (nrm R)

def CrashBytes_c4 (B5 : Nat) (size6 : Int) (l5_p : Option Addr) (l5_l : Nat) (l5_c : Nat) (keep5_p : Option Addr) (keep5_l : Nat) (keep5_c : Nat) (torn5 : Int) (up4 : Bool) (d4 : Option Addr) (want4_l : Nat) (want4_c : Nat) (last2 : Int) (i6 : Int) (cs4 : List Value) (F8 : SHeap) (w0 : World) (R : Ending → World → Prop) : Prop :=
  AtE Try.prog 7 158 [.code (sub (Eng.body Try.f7) [1, 1, 1, 1, 1, 1, 1, 1, 1, 1, 1, 0, 1, 0, 0]), .inLoop (sub (Eng.body Try.f7) [1, 1, 1, 1, 1, 1, 1, 1, 1, 1, 1, 0, 1, 0, 0]), .inBlock 4, .code (sub (Eng.body Try.f7) [1, 1, 1, 1, 1, 1, 1, 1, 1, 1, 1, 1])] [(0, .int .i64 size6), (1, .slice l5_p l5_l l5_c), (2, .slice keep5_p keep5_l keep5_c), (3, .int .i64 torn5), (9, .bool up4), (10, .pointer d4), (12, .slice (some ⟨B5, 0, none⟩) want4_l want4_c), (14, .int .i64 last2), (16, .slice none 0 0), (17, .int .i64 i6)] ((B5, .cells ⟨cs4⟩ 5) :: F8) [] w0 (nrm R)

def CrashBytes_c5 (B8 : Nat) (B9 : Nat) (size7 : Int) (l6_p : Option Addr) (l6_l : Nat) (l6_c : Nat) (keep6_p : Option Addr) (keep6_l : Nat) (keep6_c : Nat) (torn6 : Int) (up5 : Bool) (d5 : Option Addr) (want5_l : Nat) (want5_c : Nat) (last3 : Int) (numbers_l : Nat) (numbers_c : Nat) (i8 : Int) (cs5 : List Value) (cs6 : List Value) (F10 : SHeap) (w0 : World) (R : Ending → World → Prop) : Prop :=
  AtE Try.prog 7 158 [.code (sub (Eng.body Try.f7) [1, 1, 1, 1, 1, 1, 1, 1, 1, 1, 1, 0, 1, 0, 0]), .inLoop (sub (Eng.body Try.f7) [1, 1, 1, 1, 1, 1, 1, 1, 1, 1, 1, 0, 1, 0, 0]), .inBlock 4, .code (sub (Eng.body Try.f7) [1, 1, 1, 1, 1, 1, 1, 1, 1, 1, 1, 1])] [(0, .int .i64 size7), (1, .slice l6_p l6_l l6_c), (2, .slice keep6_p keep6_l keep6_c), (3, .int .i64 torn6), (9, .bool up5), (10, .pointer d5), (12, .slice (some ⟨B8, 0, none⟩) want5_l want5_c), (14, .int .i64 last3), (16, .slice (some ⟨B9, 0, none⟩) numbers_l numbers_c), (17, .int .i64 i8)] ((B8, .cells ⟨cs5⟩ 5) :: (B9, .cells ⟨cs6⟩ 3) :: F10) [] w0 (nrm R)

def CrashBytes_c6 (B10 : Nat) (size8 : Int) (torn7 : Int) (up6 : Bool) (d6 : Option Addr) (want6_l : Nat) (want6_c : Nat) (cs7 : List Value) (F11 : SHeap) (w0 : World) (R : Ending → World → Prop) : Prop :=
  AtE Try.prog 7 158 [.code (sub (Eng.body Try.f7) [1, 1, 1, 1, 1, 1, 1, 1, 1, 1, 1, 1])] [(0, .int .i64 size8), (3, .int .i64 torn7), (9, .bool up6), (10, .pointer d6), (12, .slice (some ⟨B10, 0, none⟩) want6_l want6_c), (16, .slice none 0 0)] ((B10, .cells ⟨cs7⟩ 5) :: F11) [] w0 (nrm R)

def CrashBytes_c7 (B14 : Nat) (B15 : Nat) (size9 : Int) (torn8 : Int) (up7 : Bool) (d7 : Option Addr) (want7_l : Nat) (want7_c : Nat) (numbers1_l : Nat) (numbers1_c : Nat) (cs8 : List Value) (cs9 : List Value) (F13 : SHeap) (w0 : World) (R : Ending → World → Prop) : Prop :=
  AtE Try.prog 7 158 [.code (sub (Eng.body Try.f7) [1, 1, 1, 1, 1, 1, 1, 1, 1, 1, 1, 1])] [(0, .int .i64 size9), (3, .int .i64 torn8), (9, .bool up7), (10, .pointer d7), (12, .slice (some ⟨B14, 0, none⟩) want7_l want7_c), (16, .slice (some ⟨B15, 0, none⟩) numbers1_l numbers1_c)] ((B14, .cells ⟨cs8⟩ 5) :: (B15, .cells ⟨cs9⟩ 3) :: F13) [] w0 (nrm R)

theorem CrashBytes_c0_vc (B1 : Nat) (size2 : Int) (l1_p : Option Addr) (l1_l : Nat) (l1_c : Nat) (keep1_p : Option Addr) (keep1_l : Nat) (keep1_c : Nat) (torn1 : Int) (up : Bool) (d : Option Addr) (want_l : Nat) (want_c : Nat) (i : Int) (cs : List Value) (F2 : SHeap) {R : Ending → World → Prop} {w0 : World}
    (H :
      ((i < size2) →
        (0 ≤ i ∧ i < want_l) ∧
        ((Int.toNat i) < (cs).length) ∧
        ∀ i1 : Int, i1 = (IntKind.i64.wrap (i + (1 : Int))) →
        CrashBytes_c0 B1 size2 l1_p l1_l l1_c keep1_p keep1_l keep1_c torn1 up d want_l want_c i1 ((cs).set (Int.toNat i) (.int .u8 (IntKind.u8.wrap (IntKind.i64.wrap ((48 : Int) + (i.tmod (10 : Int))))))) F2 w0 R) ∧
       ((¬ (i < size2)) →
        CrashBytes_c1 B1 size2 l1_p l1_l l1_c keep1_p keep1_l keep1_c torn1 up d want_l want_c cs F2 w0 R)) :
    CrashBytes_c0 B1 size2 l1_p l1_l l1_c keep1_p keep1_l keep1_c torn1 up d want_l want_c i cs F2 w0 R := by
  unfold CrashBytes_c0
  refine AtE.run 7 (fun W => by kernel_rfl) ?_
  refine AtE.splitP 38 (p := i < size2) (by kernel_rfl) (fun h2' => ?_) (fun h2' => ?_)
  · replace H := H.1 h2'
    refine AtE.run 11 (fun W => by kernel_rfl) ?_
    refine AtE.indexAddrL (E := 5) (b := B1) (o := 0) (len := want_l) (cap := want_c) (sz := 1) (o' := (Int.toNat i)) (kd := .i64) (i := i) (by kernel_rfl) H.1 (by omega) ?_
    replace H := H.2
    refine AtE.storeS 0 (off := (Int.toNat i)) (lo := 0) (hi := 0) (T := 5) (v := .int .u8 (IntKind.u8.wrap (IntKind.i64.wrap ((48 : Int) + (i.tmod (10 : Int)))))) (c := cs) (by kernel_rfl) H.1 (.inr (Nat.zero_le _)) ?_
    replace H := H.2
    refine AtE.run 6 (fun W => by kernel_rfl) ?_
    refine AtE.letI 13 (kd := .i64) (n := (IntKind.i64.wrap (i + (1 : Int)))) (by kernel_rfl) (fun i1 hi1 => ?_)
    replace H := H i1 hi1
    refine AtE.run 2 (fun W => by kernel_rfl) ?_
    exact AtE.cutT [0] 1 H (by kernel_rfl)
  · replace H := H.2 h2'
    refine AtE.run 2 (fun W => by kernel_rfl) ?_
    exact AtE.cutT [0] 1 H (by kernel_rfl)

theorem CrashBytes_c1_vc (B2 : Nat) (size3 : Int) (l2_p : Option Addr) (l2_l : Nat) (l2_c : Nat) (keep2_p : Option Addr) (keep2_l : Nat) (keep2_c : Nat) (torn2 : Int) (up1 : Bool) (d1 : Option Addr) (want1_l : Nat) (want1_c : Nat) (cs1 : List Value) (F3 : SHeap) {R : Ending → World → Prop} {w0 : World}
    (H :
      ∃ bs : List UInt8, (((cs1).drop 0).take want1_l = bytesL bs ∧ bs.length = want1_l) ∧
      CallH Try.prog 17 ⟨[.pointer d1, .int .i64 (0 : Int), .string (⟨bs.toArray⟩)]⟩ ((B2, .cells ⟨cs1⟩ 5) :: F3) [] w0 (fun v L' => ∃ (r51 : Int) (F4 : SHeap), v = (.int .i64 r51) ∧ L' = ((B2, .cells ⟨cs1⟩ 5) :: F4) ∧
        ((¬ (r51 = (0 : Int))) →
          Fin R ((B2, .cells ⟨cs1⟩ 5) :: F4) [] w0 (.bool false)) ∧
         ((r51 = (0 : Int)) →
          CallH Try.prog 19 ⟨[.pointer d1]⟩ ((B2, .cells ⟨cs1⟩ 5) :: F4) [] w0 (fun v L' => ∃ (r61 : Int) (F5 : SHeap), v = (.int .i64 r61) ∧ L' = ((B2, .cells ⟨cs1⟩ 5) :: F5) ∧
            ((¬ (r61 = (0 : Int))) →
              Fin R ((B2, .cells ⟨cs1⟩ 5) :: F5) [] w0 (.bool false)) ∧
             ((r61 = (0 : Int)) →
              CrashBytes_c2 B2 size3 l2_p l2_l l2_c keep2_p keep2_l keep2_c torn2 up1 d1 want1_l want1_c (-1 : Int) (0 : Int) cs1 F5 w0 R))))) :
    CrashBytes_c1 B2 size3 l2_p l2_l l2_c keep2_p keep2_l keep2_c torn2 up1 d1 want1_l want1_c cs1 F3 w0 R := by
  unfold CrashBytes_c1
  refine AtE.run 5 (fun W => by kernel_rfl) ?_
  obtain ⟨bs, hb, H⟩ := H
  refine AtE.toString 0 (E := 5) (o := 0) (len := want1_l) (cap := want1_c) (c := cs1) (l := bs) (by kernel_rfl) hb ?_
  refine AtE.call 17 ⟨[.pointer d1, .int .i64 (0 : Int), .string (⟨bs.toArray⟩)]⟩ (fun W => by kernel_rfl) (by kernel_rfl) H ?_
  clear H
  rintro _ _ ⟨r51, F4, rfl, rfl, H⟩
  refine AtE.run 2 (fun W => by kernel_rfl) ?_
  refine AtE.splitN 53 (p := r51 = (0 : Int)) (by kernel_rfl) (fun h3' => ?_) (fun h3' => ?_)
  · replace H := H.1 h3'
    refine AtE.run 10 (fun W => by kernel_rfl) ?_
    exact AtE.ret Try.func7 (by kernel_rfl) H
  · replace H := H.2 h3'
    refine AtE.run 1 (fun W => by kernel_rfl) ?_
    refine AtE.call 19 ⟨[.pointer d1]⟩ (fun W => by kernel_rfl) (by kernel_rfl) H ?_
    clear H
    rintro _ _ ⟨r61, F5, rfl, rfl, H⟩
    refine AtE.run 3 (fun W => by kernel_rfl) ?_
    refine AtE.splitN 57 (p := r61 = (0 : Int)) (by kernel_rfl) (fun h4' => ?_) (fun h4' => ?_)
    · replace H := H.1 h4'
      refine AtE.run 5 (fun W => by kernel_rfl) ?_
      exact AtE.ret Try.func7 (by kernel_rfl) H
    · replace H := H.2 h4'
      refine AtE.run 13 (fun W => by kernel_rfl) ?_
      exact AtE.cutT [0] 1 H (by kernel_rfl)

theorem CrashBytes_c2_vc (B3 : Nat) (size4 : Int) (l3_p : Option Addr) (l3_l : Nat) (l3_c : Nat) (keep3_p : Option Addr) (keep3_l : Nat) (keep3_c : Nat) (torn3 : Int) (up2 : Bool) (d2 : Option Addr) (want2_l : Nat) (want2_c : Nat) (last : Int) (i2 : Int) (cs2 : List Value) (F6 : SHeap) {R : Ending → World → Prop} {w0 : World}
    (H :
      ((i2 < (l3_l : Int)) →
        ((i2 < (20 : Int)) →
          ((i2 < (keep3_l : Int)) →
            ∃ keep3_pb keep3_po : Nat, keep3_p = some ⟨keep3_pb, keep3_po, none⟩ ∧
            (0 ≤ i2 ∧ i2 < keep3_l) ∧
            ∃ (cw : List Value) (m1 : Bool), blkW w0 keep3_pb = some cw ∧ cw[(keep3_po + (Int.toNat i2))]? = some (.bool m1) ∧
            ((m1 = true) →
              ∀ i3 : Int, i3 = (IntKind.i64.wrap (i2 + (1 : Int))) →
              CrashBytes_c2 B3 size4 l3_p l3_l l3_c (some ⟨keep3_pb, keep3_po, none⟩) keep3_l keep3_c torn3 up2 d2 want2_l want2_c i2 i3 cs2 F6 w0 R) ∧
             ((m1 = false) →
              ∀ i4 : Int, i4 = (IntKind.i64.wrap (i2 + (1 : Int))) →
              CrashBytes_c2 B3 size4 l3_p l3_l l3_c (some ⟨keep3_pb, keep3_po, none⟩) keep3_l keep3_c torn3 up2 d2 want2_l want2_c last i4 cs2 F6 w0 R)) ∧
           ((¬ (i2 < (keep3_l : Int))) →
            ∀ i5 : Int, i5 = (IntKind.i64.wrap (i2 + (1 : Int))) →
            CrashBytes_c2 B3 size4 l3_p l3_l l3_c keep3_p keep3_l keep3_c torn3 up2 d2 want2_l want2_c last i5 cs2 F6 w0 R)) ∧
         ((¬ (i2 < (20 : Int))) →
          CrashBytes_c3 B3 size4 l3_p l3_l l3_c keep3_p keep3_l keep3_c torn3 up2 d2 want2_l want2_c last cs2 F6 w0 R)) ∧
       ((¬ (i2 < (l3_l : Int))) →
        CrashBytes_c3 B3 size4 l3_p l3_l l3_c keep3_p keep3_l keep3_c torn3 up2 d2 want2_l want2_c last cs2 F6 w0 R)) :
    CrashBytes_c2 B3 size4 l3_p l3_l l3_c keep3_p keep3_l keep3_c torn3 up2 d2 want2_l want2_c last i2 cs2 F6 w0 R := by
  unfold CrashBytes_c2
  refine AtE.run 8 (fun W => by kernel_rfl) ?_
  refine AtE.splitP 62 (p := i2 < (l3_l : Int)) (by kernel_rfl) (fun h5' => ?_) (fun h5' => ?_)
  · replace H := H.1 h5'
    refine AtE.run 4 (fun W => by kernel_rfl) ?_
    refine AtE.splitP 65 (p := i2 < (20 : Int)) (by kernel_rfl) (fun h6' => ?_) (fun h6' => ?_)
    · replace H := H.1 h6'
      refine AtE.run 11 (fun W => by kernel_rfl) ?_
      refine AtE.splitP 72 (p := i2 < (keep3_l : Int)) (by kernel_rfl) (fun h7' => ?_) (fun h7' => ?_)
      · replace H := H.1 h7'
        refine AtE.run 2 (fun W => by kernel_rfl) ?_
        obtain ⟨keep3_pb, keep3_po, rfl, H⟩ := H
        refine AtE.indexAddrL (E := 4) (b := keep3_pb) (o := keep3_po) (len := keep3_l) (cap := keep3_c) (sz := 1) (o' := (keep3_po + (Int.toNat i2))) (kd := .i64) (i := i2) (by kernel_rfl) H.1 (by omega) ?_
        replace H := H.2
        obtain ⟨cw, m1, hw, hx, H⟩ := H
        refine AtE.loadW (b := keep3_pb) (off := (keep3_po + (Int.toNat i2))) (T := 4) (v := .bool m1) (by kernel_rfl) List.not_mem_nil hw (valAt_one hx (by kernel_rfl)) ?_
        refine AtE.run 2 (fun W => by kernel_rfl) ?_
        refine AtE.split 77 (b := m1) (by kernel_rfl) (fun h8' => ?_) (fun h8' => ?_)
        · replace H := H.1 h8'
          refine AtE.norm (k' := [.code (sub (Eng.body Try.f7) [1, 1, 1, 1, 1, 1, 1, 1, 1, 0, 1, 0, 0, 1, 0, 0, 1]), .inBlock 3, .code (sub (Eng.body Try.f7) [1, 1, 1, 1, 1, 1, 1, 1, 1, 0, 1, 0, 0, 1, 1]), .inLoop (sub (Eng.body Try.f7) [1, 1, 1, 1, 1, 1, 1, 1, 1, 0, 1, 0, 0]), .inBlock 2, .code (sub (Eng.body Try.f7) [1, 1, 1, 1, 1, 1, 1, 1, 1, 1])]) (e' := [(0, .int .i64 size4), (1, .slice l3_p l3_l l3_c), (2, .slice (some ⟨keep3_pb, keep3_po, none⟩) keep3_l keep3_c), (3, .int .i64 torn3), (9, .bool up2), (10, .pointer d2), (12, .slice (some ⟨B3, 0, none⟩) want2_l want2_c), (14, .int .i64 last), (15, .int .i64 i2), (77, .bool true)]) (L' := ((B3, .cells ⟨cs2⟩ 5) :: F6)) ?_ (by kernel_rfl)
          refine AtE.run 10 (fun W => by kernel_rfl) ?_
          refine AtE.letI 15 (kd := .i64) (n := (IntKind.i64.wrap (i2 + (1 : Int)))) (by kernel_rfl) (fun i3 hi3 => ?_)
          replace H := H i3 hi3
          refine AtE.run 2 (fun W => by kernel_rfl) ?_
          exact AtE.cutT [0] 1 H (by kernel_rfl)
        · replace H := H.2 h8'
          refine AtE.norm (k' := [.code (sub (Eng.body Try.f7) [1, 1, 1, 1, 1, 1, 1, 1, 1, 0, 1, 0, 0, 1, 0, 0, 1]), .inBlock 3, .code (sub (Eng.body Try.f7) [1, 1, 1, 1, 1, 1, 1, 1, 1, 0, 1, 0, 0, 1, 1]), .inLoop (sub (Eng.body Try.f7) [1, 1, 1, 1, 1, 1, 1, 1, 1, 0, 1, 0, 0]), .inBlock 2, .code (sub (Eng.body Try.f7) [1, 1, 1, 1, 1, 1, 1, 1, 1, 1])]) (e' := [(0, .int .i64 size4), (1, .slice l3_p l3_l l3_c), (2, .slice (some ⟨keep3_pb, keep3_po, none⟩) keep3_l keep3_c), (3, .int .i64 torn3), (9, .bool up2), (10, .pointer d2), (12, .slice (some ⟨B3, 0, none⟩) want2_l want2_c), (14, .int .i64 last), (15, .int .i64 i2), (77, .bool false)]) (L' := ((B3, .cells ⟨cs2⟩ 5) :: F6)) ?_ (by kernel_rfl)
          refine AtE.run 7 (fun W => by kernel_rfl) ?_
          refine AtE.letI 15 (kd := .i64) (n := (IntKind.i64.wrap (i2 + (1 : Int)))) (by kernel_rfl) (fun i4 hi4 => ?_)
          replace H := H i4 hi4
          refine AtE.run 2 (fun W => by kernel_rfl) ?_
          exact AtE.cutT [0] 1 H (by kernel_rfl)
      · replace H := H.2 h7'
        refine AtE.run 13 (fun W => by kernel_rfl) ?_
        refine AtE.letI 15 (kd := .i64) (n := (IntKind.i64.wrap (i2 + (1 : Int)))) (by kernel_rfl) (fun i5 hi5 => ?_)
        replace H := H i5 hi5
        refine AtE.run 2 (fun W => by kernel_rfl) ?_
        exact AtE.cutT [0] 1 H (by kernel_rfl)
    · replace H := H.2 h6'
      refine AtE.run 2 (fun W => by kernel_rfl) ?_
      exact AtE.cutT [0] 1 H (by kernel_rfl)
  · replace H := H.2 h5'
    refine AtE.run 6 (fun W => by kernel_rfl) ?_
    exact AtE.cutT [0] 1 H (by kernel_rfl)

theorem CrashBytes_c3_vc (B4 : Nat) (size5 : Int) (l4_p : Option Addr) (l4_l : Nat) (l4_c : Nat) (keep4_p : Option Addr) (keep4_l : Nat) (keep4_c : Nat) (torn4 : Int) (up3 : Bool) (d3 : Option Addr) (want3_l : Nat) (want3_c : Nat) (last1 : Int) (cs3 : List Value) (F7 : SHeap) {R : Ending → World → Prop} {w0 : World}
    (H :
      CrashBytes_c4 B4 size5 l4_p l4_l l4_c keep4_p keep4_l keep4_c torn4 up3 d3 want3_l want3_c last1 (0 : Int) cs3 F7 w0 R) :
    CrashBytes_c3 B4 size5 l4_p l4_l l4_c keep4_p keep4_l keep4_c torn4 up3 d3 want3_l want3_c last1 cs3 F7 w0 R := by
  unfold CrashBytes_c3
  refine AtE.run 11 (fun W => by kernel_rfl) ?_
  exact AtE.cutT [0] 1 H (by kernel_rfl)

theorem CrashBytes_c4_vc (B5 : Nat) (size6 : Int) (l5_p : Option Addr) (l5_l : Nat) (l5_c : Nat) (keep5_p : Option Addr) (keep5_l : Nat) (keep5_c : Nat) (torn5 : Int) (up4 : Bool) (d4 : Option Addr) (want4_l : Nat) (want4_c : Nat) (last2 : Int) (i6 : Int) (cs4 : List Value) (F8 : SHeap) {R : Ending → World → Prop} {w0 : World}
    (H :
      ((i6 < (l5_l : Int)) →
        ((i6 < (20 : Int)) →
          ∃ l5_pb l5_po : Nat, l5_p = some ⟨l5_pb, l5_po, none⟩ ∧
          (0 ≤ i6 ∧ i6 < l5_l) ∧
          ∃ (cw1 : List Value) (m2_0 : Int) (m2_1 : ByteArray) (m2_2 : Bool), blkW w0 l5_pb = some cw1 ∧ ((cw1.drop (l5_po + ((Int.toNat i6) * 3))).take 3 = [.int .i64 m2_0, .string m2_1, .bool m2_2] ∧ (l5_po + ((Int.toNat i6) * 3)) + 3 ≤ cw1.length) ∧
          CallH Try.prog 22 ⟨[.agg #[.int .i64 m2_0, .string m2_1, .bool m2_2], .int .i64 size6]⟩ ((B5, .cells ⟨cs4⟩ 5) :: F8) [] w0 (fun v L' => ∃ (r7_0 : Int) (r7_1 : ByteArray) (r7_2 : Bool), v = (.agg #[.int .i64 r7_0, .string r7_1, .bool r7_2]) ∧ L' = ((B5, .cells ⟨cs4⟩ 5) :: F8) ∧
            ∀ B6 : Nat,
            CallH Try.prog 17 ⟨[.pointer d4, .int .i64 r7_0, .string r7_1]⟩ ((B6, .cells #[.int .i64 r7_0, .string r7_1, .bool r7_2] 42) :: (B5, .cells ⟨cs4⟩ 5) :: F8) [] w0 (fun v L' => ∃ (r81 : Int) (F9 : SHeap), v = (.int .i64 r81) ∧ L' = ((B6, .cells #[.int .i64 r7_0, .string r7_1, .bool r7_2] 42) :: (B5, .cells ⟨cs4⟩ 5) :: F9) ∧
              ((¬ (r81 = (0 : Int))) →
                Fin R ((B6, .cells #[.int .i64 r7_0, .string r7_1, .bool r7_2] 42) :: (B5, .cells ⟨cs4⟩ 5) :: F9) [] w0 (.bool false)) ∧
               ((r81 = (0 : Int)) →
                ((i6 < (keep5_l : Int)) →
                  ∃ keep5_pb keep5_po : Nat, keep5_p = some ⟨keep5_pb, keep5_po, none⟩ ∧
                  (0 ≤ i6 ∧ i6 < keep5_l) ∧
                  ∃ (cw2 : List Value) (m31 : Bool), blkW w0 keep5_pb = some cw2 ∧ cw2[(keep5_po + (Int.toNat i6))]? = some (.bool m31) ∧
                  ((m31 = true) →
                    ∀ B7 : Nat,
                    ((i6 = last2) →
                      (((0 : Int) ≤ torn5) →
                        CallH Try.prog 18 ⟨[.string r7_1, .int .i64 torn5]⟩ ((B7, .cells #[.int .i64 i6] 3) :: (B6, .cells #[.int .i64 r7_0, .string r7_1, .bool r7_2] 42) :: (B5, .cells ⟨cs4⟩ 5) :: F9) [] w0 (fun v L' => ∃ (r91 : ByteArray), v = (.string r91) ∧ L' = ((B7, .cells #[.int .i64 i6] 3) :: (B6, .cells #[.int .i64 r7_0, .string r7_1, .bool r7_2] 42) :: (B5, .cells ⟨cs4⟩ 5) :: F9) ∧
                          CallH Try.prog 23 ⟨[.slice (some ⟨B5, 0, none⟩) want4_l want4_c, .int .i64 r7_0, .string r91]⟩ ((B7, .cells #[.int .i64 i6] 3) :: (B6, .cells #[.int .i64 r7_0, .string r7_1, .bool r7_2] 42) :: (B5, .cells ⟨cs4⟩ 5) :: F9) [] w0 (fun v L' => ∃ (b : List Value), v = (.tuple #[]) ∧ L' = ((B7, .cells #[.int .i64 i6] 3) :: (B6, .cells #[.int .i64 r7_0, .string r7_1, .bool r7_2] 42) :: (B5, .cells ⟨b⟩ 5) :: F9) ∧
                            ∀ i7 : Int, i7 = (IntKind.i64.wrap (i6 + (1 : Int))) →
                            CrashBytes_c5 B5 B7 size6 (some ⟨l5_pb, l5_po, none⟩) l5_l l5_c (some ⟨keep5_pb, keep5_po, none⟩) keep5_l keep5_c torn5 up4 d4 want4_l want4_c last2 1 1 i7 b ([.int .i64 i6]) F9 w0 R))) ∧
                       ((¬ ((0 : Int) ≤ torn5)) →
                        CallH Try.prog 23 ⟨[.slice (some ⟨B5, 0, none⟩) want4_l want4_c, .int .i64 r7_0, .string r7_1]⟩ ((B7, .cells #[.int .i64 i6] 3) :: (B6, .cells #[.int .i64 r7_0, .string r7_1, .bool r7_2] 42) :: (B5, .cells ⟨cs4⟩ 5) :: F9) [] w0 (fun v L' => ∃ (b1 : List Value), v = (.tuple #[]) ∧ L' = ((B7, .cells #[.int .i64 i6] 3) :: (B6, .cells #[.int .i64 r7_0, .string r7_1, .bool r7_2] 42) :: (B5, .cells ⟨b1⟩ 5) :: F9) ∧
                          ∀ i9 : Int, i9 = (IntKind.i64.wrap (i6 + (1 : Int))) →
                          CrashBytes_c5 B5 B7 size6 (some ⟨l5_pb, l5_po, none⟩) l5_l l5_c (some ⟨keep5_pb, keep5_po, none⟩) keep5_l keep5_c torn5 up4 d4 want4_l want4_c last2 1 1 i9 b1 ([.int .i64 i6]) F9 w0 R))) ∧
                     ((¬ (i6 = last2)) →
                      CallH Try.prog 23 ⟨[.slice (some ⟨B5, 0, none⟩) want4_l want4_c, .int .i64 r7_0, .string r7_1]⟩ ((B7, .cells #[.int .i64 i6] 3) :: (B6, .cells #[.int .i64 r7_0, .string r7_1, .bool r7_2] 42) :: (B5, .cells ⟨cs4⟩ 5) :: F9) [] w0 (fun v L' => ∃ (b2 : List Value), v = (.tuple #[]) ∧ L' = ((B7, .cells #[.int .i64 i6] 3) :: (B6, .cells #[.int .i64 r7_0, .string r7_1, .bool r7_2] 42) :: (B5, .cells ⟨b2⟩ 5) :: F9) ∧
                        ∀ i10 : Int, i10 = (IntKind.i64.wrap (i6 + (1 : Int))) →
                        CrashBytes_c5 B5 B7 size6 (some ⟨l5_pb, l5_po, none⟩) l5_l l5_c (some ⟨keep5_pb, keep5_po, none⟩) keep5_l keep5_c torn5 up4 d4 want4_l want4_c last2 1 1 i10 b2 ([.int .i64 i6]) F9 w0 R))) ∧
                   ((m31 = false) →
                    ∀ i11 : Int, i11 = (IntKind.i64.wrap (i6 + (1 : Int))) →
                    CrashBytes_c4 B5 size6 (some ⟨l5_pb, l5_po, none⟩) l5_l l5_c (some ⟨keep5_pb, keep5_po, none⟩) keep5_l keep5_c torn5 up4 d4 want4_l want4_c last2 i11 cs4 F9 w0 R)) ∧
                 ((¬ (i6 < (keep5_l : Int))) →
                  ∀ i12 : Int, i12 = (IntKind.i64.wrap (i6 + (1 : Int))) →
                  CrashBytes_c4 B5 size6 (some ⟨l5_pb, l5_po, none⟩) l5_l l5_c keep5_p keep5_l keep5_c torn5 up4 d4 want4_l want4_c last2 i12 cs4 F9 w0 R))))) ∧
         ((¬ (i6 < (20 : Int))) →
          CrashBytes_c6 B5 size6 torn5 up4 d4 want4_l want4_c cs4 F8 w0 R)) ∧
       ((¬ (i6 < (l5_l : Int))) →
        CrashBytes_c6 B5 size6 torn5 up4 d4 want4_l want4_c cs4 F8 w0 R)) :
    CrashBytes_c4 B5 size6 l5_p l5_l l5_c keep5_p keep5_l keep5_c torn5 up4 d4 want4_l want4_c last2 i6 cs4 F8 w0 R := by
  unfold CrashBytes_c4
  refine AtE.run 8 (fun W => by kernel_rfl) ?_
  refine AtE.splitP 83 (p := i6 < (l5_l : Int)) (by kernel_rfl) (fun h9' => ?_) (fun h9' => ?_)
  · replace H := H.1 h9'
    refine AtE.run 4 (fun W => by kernel_rfl) ?_
    refine AtE.splitP 86 (p := i6 < (20 : Int)) (by kernel_rfl) (fun h10' => ?_) (fun h10' => ?_)
    · replace H := H.1 h10'
      refine AtE.run 8 (fun W => by kernel_rfl) ?_
      obtain ⟨l5_pb, l5_po, rfl, H⟩ := H
      refine AtE.indexAddrL (E := 42) (b := l5_pb) (o := l5_po) (len := l5_l) (cap := l5_c) (sz := 3) (o' := (l5_po + ((Int.toNat i6) * 3))) (kd := .i64) (i := i6) (by kernel_rfl) H.1 (by omega) ?_
      replace H := H.2
      obtain ⟨cw1, m2_0, m2_1, m2_2, hw, hx, H⟩ := H
      refine AtE.loadW (b := l5_pb) (off := (l5_po + ((Int.toNat i6) * 3))) (T := 42) (v := .agg #[.int .i64 m2_0, .string m2_1, .bool m2_2]) (by kernel_rfl) List.not_mem_nil hw (valAt_agg hx.1 hx.2 (by kernel_rfl) (by kernel_rfl)) ?_
      refine AtE.run 1 (fun W => by kernel_rfl) ?_
      refine AtE.call 22 ⟨[.agg #[.int .i64 m2_0, .string m2_1, .bool m2_2], .int .i64 size6]⟩ (fun W => by kernel_rfl) (by kernel_rfl) H ?_
      clear H
      rintro _ _ ⟨r7_0, r7_1, r7_2, rfl, rfl, H⟩
      refine AtE.new (fun B => .pointer (some ⟨B, 0, none⟩)) (.cells #[.int .i64 (0 : Int), .string (⟨#[]⟩), .bool false] 42) (fun W => by kernel_rfl) (by kernel_rfl) (fun B6 => ?_)
      replace H := H B6
      refine AtE.front ?_
      refine AtE.norm (k' := [.inRegion (regOps [.code (sub (Eng.body Try.f7) [1, 1, 1, 1, 1, 1, 1, 1, 1, 1, 1, 0, 1, 0, 0, 1, 0, 0, 0])]) [7], .code (sub (Eng.body Try.f7) [1, 1, 1, 1, 1, 1, 1, 1, 1, 1, 1, 0, 1, 0, 0, 1, 0, 0, 1]), .inBlock 5, .code (sub (Eng.body Try.f7) [1, 1, 1, 1, 1, 1, 1, 1, 1, 1, 1, 0, 1, 0, 0, 1, 1]), .inLoop (sub (Eng.body Try.f7) [1, 1, 1, 1, 1, 1, 1, 1, 1, 1, 1, 0, 1, 0, 0]), .inBlock 4, .code (sub (Eng.body Try.f7) [1, 1, 1, 1, 1, 1, 1, 1, 1, 1, 1, 1])]) (e' := [(0, .int .i64 size6), (1, .slice (some ⟨l5_pb, l5_po, none⟩) l5_l l5_c), (2, .slice keep5_p keep5_l keep5_c), (3, .int .i64 torn5), (9, .bool up4), (10, .pointer d4), (12, .slice (some ⟨B5, 0, none⟩) want4_l want4_c), (14, .int .i64 last2), (16, .slice none 0 0), (17, .int .i64 i6), (18, .pointer (some ⟨B6, 0, none⟩)), (94, .agg #[.int .i64 r7_0, .string r7_1, .bool r7_2])]) (L' := ((B6, .cells #[.int .i64 (0 : Int), .string (⟨#[]⟩), .bool false] 42) :: (B5, .cells ⟨cs4⟩ 5) :: F8)) ?_ (by kernel_rfl)
      refine AtE.store 0 0 (T := 42) (v := .agg #[.int .i64 r7_0, .string r7_1, .bool r7_2]) (by kernel_rfl) ?_
      refine AtE.run 6 (fun W => by kernel_rfl) ?_
      refine AtE.load 0 0 (T := 3) (v := .int .i64 r7_0) (by kernel_rfl) ?_
      refine AtE.run 1 (fun W => by kernel_rfl) ?_
      refine AtE.load 0 1 (T := 9) (v := .string r7_1) (by kernel_rfl) ?_
      refine AtE.call 17 ⟨[.pointer d4, .int .i64 r7_0, .string r7_1]⟩ (fun W => by kernel_rfl) (by kernel_rfl) H ?_
      clear H
      rintro _ _ ⟨r81, F9, rfl, rfl, H⟩
      refine AtE.run 2 (fun W => by kernel_rfl) ?_
      refine AtE.splitN 101 (p := r81 = (0 : Int)) (by kernel_rfl) (fun h11' => ?_) (fun h11' => ?_)
      · replace H := H.1 h11'
        refine AtE.run 5 (fun W => by kernel_rfl) ?_
        exact AtE.ret Try.func7 (by kernel_rfl) H
      · replace H := H.2 h11'
        refine AtE.run 9 (fun W => by kernel_rfl) ?_
        refine AtE.splitP 106 (p := i6 < (keep5_l : Int)) (by kernel_rfl) (fun h12' => ?_) (fun h12' => ?_)
        · replace H := H.1 h12'
          refine AtE.run 2 (fun W => by kernel_rfl) ?_
          obtain ⟨keep5_pb, keep5_po, rfl, H⟩ := H
          refine AtE.norm (k' := [.inRegion (regOps [.code (sub (Eng.body Try.f7) [1, 1, 1, 1, 1, 1, 1, 1, 1, 1, 1, 0, 1, 0, 0, 1, 0, 0, 1, 1, 0])]) [7, 8, 9], .code (sub (Eng.body Try.f7) [1, 1, 1, 1, 1, 1, 1, 1, 1, 1, 1, 0, 1, 0, 0, 1, 0, 0, 1, 1, 1]), .inBlock 5, .code (sub (Eng.body Try.f7) [1, 1, 1, 1, 1, 1, 1, 1, 1, 1, 1, 0, 1, 0, 0, 1, 1]), .inLoop (sub (Eng.body Try.f7) [1, 1, 1, 1, 1, 1, 1, 1, 1, 1, 1, 0, 1, 0, 0]), .inBlock 4, .code (sub (Eng.body Try.f7) [1, 1, 1, 1, 1, 1, 1, 1, 1, 1, 1, 1])]) (e' := [(0, .int .i64 size6), (1, .slice (some ⟨l5_pb, l5_po, none⟩) l5_l l5_c), (2, .slice (some ⟨keep5_pb, keep5_po, none⟩) keep5_l keep5_c), (3, .int .i64 torn5), (9, .bool up4), (10, .pointer d4), (12, .slice (some ⟨B5, 0, none⟩) want4_l want4_c), (14, .int .i64 last2), (16, .slice none 0 0), (17, .int .i64 i6), (18, .pointer (some ⟨B6, 0, none⟩)), (106, .bool true), (107, .slice (some ⟨keep5_pb, keep5_po, none⟩) keep5_l keep5_c), (108, .int .i64 i6)]) (L' := ((B6, .cells #[.int .i64 r7_0, .string r7_1, .bool r7_2] 42) :: (B5, .cells ⟨cs4⟩ 5) :: F9)) ?_ (by kernel_rfl)
          refine AtE.indexAddrL (E := 4) (b := keep5_pb) (o := keep5_po) (len := keep5_l) (cap := keep5_c) (sz := 1) (o' := (keep5_po + (Int.toNat i6))) (kd := .i64) (i := i6) (by kernel_rfl) H.1 (by omega) ?_
          replace H := H.2
          obtain ⟨cw2, m31, hw, hx, H⟩ := H
          refine AtE.loadW (b := keep5_pb) (off := (keep5_po + (Int.toNat i6))) (T := 4) (v := .bool m31) (by kernel_rfl) List.not_mem_nil hw (valAt_one hx (by kernel_rfl)) ?_
          refine AtE.run 2 (fun W => by kernel_rfl) ?_
          refine AtE.split 111 (b := m31) (by kernel_rfl) (fun h13' => ?_) (fun h13' => ?_)
          · replace H := H.1 h13'
            refine AtE.run 4 (fun W => by kernel_rfl) ?_
            refine AtE.new (fun B => .slice (some ⟨B, 0, none⟩) 1 1) (.cells #[.int .i64 i6] 3) (fun W => by kernel_rfl) (by kernel_rfl) (fun B7 => ?_)
            replace H := H B7
            refine AtE.front ?_
            refine AtE.run 7 (fun W => by kernel_rfl) ?_
            refine AtE.load 1 1 (T := 9) (v := .string r7_1) (by kernel_rfl) ?_
            refine AtE.run 9 (fun W => by kernel_rfl) ?_
            refine AtE.splitP 121 (p := i6 = last2) (by kernel_rfl) (fun h14' => ?_) (fun h14' => ?_)
            · replace H := H.1 h14'
              refine AtE.run 4 (fun W => by kernel_rfl) ?_
              refine AtE.splitP 124 (p := (0 : Int) ≤ torn5) (by kernel_rfl) (fun h15' => ?_) (fun h15' => ?_)
              · replace H := H.1 h15'
                refine AtE.norm (k' := [.code (sub (Eng.body Try.f7) [1, 1, 1, 1, 1, 1, 1, 1, 1, 1, 1, 0, 1, 0, 0, 1, 0, 0, 1, 1, 1, 0, 1, 1, 0, 1]), .code (sub (Eng.body Try.f7) [1, 1, 1, 1, 1, 1, 1, 1, 1, 1, 1, 0, 1, 0, 0, 1, 0, 0, 1, 1, 1, 0, 1, 1, 1]), .inBlock 5, .code (sub (Eng.body Try.f7) [1, 1, 1, 1, 1, 1, 1, 1, 1, 1, 1, 0, 1, 0, 0, 1, 1]), .inLoop (sub (Eng.body Try.f7) [1, 1, 1, 1, 1, 1, 1, 1, 1, 1, 1, 0, 1, 0, 0]), .inBlock 4, .code (sub (Eng.body Try.f7) [1, 1, 1, 1, 1, 1, 1, 1, 1, 1, 1, 1])]) (e' := [(0, .int .i64 size6), (1, .slice (some ⟨l5_pb, l5_po, none⟩) l5_l l5_c), (2, .slice (some ⟨keep5_pb, keep5_po, none⟩) keep5_l keep5_c), (3, .int .i64 torn5), (9, .bool up4), (10, .pointer d4), (12, .slice (some ⟨B5, 0, none⟩) want4_l want4_c), (14, .int .i64 last2), (16, .slice (some ⟨B7, 0, none⟩) 1 1), (17, .int .i64 i6), (18, .pointer (some ⟨B6, 0, none⟩)), (19, .string r7_1), (124, .bool true)]) (L' := ((B7, .cells #[.int .i64 i6] 3) :: (B6, .cells #[.int .i64 r7_0, .string r7_1, .bool r7_2] 42) :: (B5, .cells ⟨cs4⟩ 5) :: F9)) ?_ (by kernel_rfl)
                refine AtE.run 4 (fun W => by kernel_rfl) ?_
                refine AtE.call 18 ⟨[.string r7_1, .int .i64 torn5]⟩ (fun W => by kernel_rfl) (by kernel_rfl) H ?_
                clear H
                rintro _ _ ⟨r91, rfl, rfl, H⟩
                refine AtE.run 5 (fun W => by kernel_rfl) ?_
                refine AtE.load 1 0 (T := 3) (v := .int .i64 r7_0) (by kernel_rfl) ?_
                refine AtE.run 1 (fun W => by kernel_rfl) ?_
                refine AtE.call 23 ⟨[.slice (some ⟨B5, 0, none⟩) want4_l want4_c, .int .i64 r7_0, .string r91]⟩ (fun W => by kernel_rfl) (by kernel_rfl) H ?_
                clear H
                rintro _ _ ⟨b, rfl, rfl, H⟩
                refine AtE.run 6 (fun W => by kernel_rfl) ?_
                refine AtE.letI 17 (kd := .i64) (n := (IntKind.i64.wrap (i6 + (1 : Int)))) (by kernel_rfl) (fun i7 hi7 => ?_)
                replace H := H i7 hi7
                refine AtE.run 2 (fun W => by kernel_rfl) ?_
                exact AtE.cutT [2, 0] 3 H (by kernel_rfl)
              · replace H := H.2 h15'
                refine AtE.norm (k' := [.code (sub (Eng.body Try.f7) [1, 1, 1, 1, 1, 1, 1, 1, 1, 1, 1, 0, 1, 0, 0, 1, 0, 0, 1, 1, 1, 0, 1, 1, 0, 1]), .code (sub (Eng.body Try.f7) [1, 1, 1, 1, 1, 1, 1, 1, 1, 1, 1, 0, 1, 0, 0, 1, 0, 0, 1, 1, 1, 0, 1, 1, 1]), .inBlock 5, .code (sub (Eng.body Try.f7) [1, 1, 1, 1, 1, 1, 1, 1, 1, 1, 1, 0, 1, 0, 0, 1, 1]), .inLoop (sub (Eng.body Try.f7) [1, 1, 1, 1, 1, 1, 1, 1, 1, 1, 1, 0, 1, 0, 0]), .inBlock 4, .code (sub (Eng.body Try.f7) [1, 1, 1, 1, 1, 1, 1, 1, 1, 1, 1, 1])]) (e' := [(0, .int .i64 size6), (1, .slice (some ⟨l5_pb, l5_po, none⟩) l5_l l5_c), (2, .slice (some ⟨keep5_pb, keep5_po, none⟩) keep5_l keep5_c), (3, .int .i64 torn5), (9, .bool up4), (10, .pointer d4), (12, .slice (some ⟨B5, 0, none⟩) want4_l want4_c), (14, .int .i64 last2), (16, .slice (some ⟨B7, 0, none⟩) 1 1), (17, .int .i64 i6), (18, .pointer (some ⟨B6, 0, none⟩)), (19, .string r7_1), (124, .bool false)]) (L' := ((B7, .cells #[.int .i64 i6] 3) :: (B6, .cells #[.int .i64 r7_0, .string r7_1, .bool r7_2] 42) :: (B5, .cells ⟨cs4⟩ 5) :: F9)) ?_ (by kernel_rfl)
                refine AtE.run 5 (fun W => by kernel_rfl) ?_
                refine AtE.load 1 0 (T := 3) (v := .int .i64 r7_0) (by kernel_rfl) ?_
                refine AtE.run 1 (fun W => by kernel_rfl) ?_
                refine AtE.call 23 ⟨[.slice (some ⟨B5, 0, none⟩) want4_l want4_c, .int .i64 r7_0, .string r7_1]⟩ (fun W => by kernel_rfl) (by kernel_rfl) H ?_
                clear H
                rintro _ _ ⟨b1, rfl, rfl, H⟩
                refine AtE.run 6 (fun W => by kernel_rfl) ?_
                refine AtE.letI 17 (kd := .i64) (n := (IntKind.i64.wrap (i6 + (1 : Int)))) (by kernel_rfl) (fun i9 hi9 => ?_)
                replace H := H i9 hi9
                refine AtE.run 2 (fun W => by kernel_rfl) ?_
                exact AtE.cutT [2, 0] 3 H (by kernel_rfl)
            · replace H := H.2 h14'
              refine AtE.run 9 (fun W => by kernel_rfl) ?_
              refine AtE.load 1 0 (T := 3) (v := .int .i64 r7_0) (by kernel_rfl) ?_
              refine AtE.norm (k' := [.inRegion (regOps [.code (sub (Eng.body Try.f7) [1, 1, 1, 1, 1, 1, 1, 1, 1, 1, 1, 0, 1, 0, 0, 1, 0, 0, 1, 1, 1, 0, 1, 1, 1])]) [3, 4], .inBlock 5, .code (sub (Eng.body Try.f7) [1, 1, 1, 1, 1, 1, 1, 1, 1, 1, 1, 0, 1, 0, 0, 1, 1]), .inLoop (sub (Eng.body Try.f7) [1, 1, 1, 1, 1, 1, 1, 1, 1, 1, 1, 0, 1, 0, 0]), .inBlock 4, .code (sub (Eng.body Try.f7) [1, 1, 1, 1, 1, 1, 1, 1, 1, 1, 1, 1])]) (e' := [(0, .int .i64 size6), (1, .slice (some ⟨l5_pb, l5_po, none⟩) l5_l l5_c), (2, .slice (some ⟨keep5_pb, keep5_po, none⟩) keep5_l keep5_c), (3, .int .i64 torn5), (9, .bool up4), (10, .pointer d4), (12, .slice (some ⟨B5, 0, none⟩) want4_l want4_c), (14, .int .i64 last2), (16, .slice (some ⟨B7, 0, none⟩) 1 1), (17, .int .i64 i6), (19, .string r7_1), (128, .slice (some ⟨B5, 0, none⟩) want4_l want4_c), (130, .int .i64 r7_0)]) (L' := ((B7, .cells #[.int .i64 i6] 3) :: (B6, .cells #[.int .i64 r7_0, .string r7_1, .bool r7_2] 42) :: (B5, .cells ⟨cs4⟩ 5) :: F9)) ?_ (by kernel_rfl)
              refine AtE.run 1 (fun W => by kernel_rfl) ?_
              refine AtE.call 23 ⟨[.slice (some ⟨B5, 0, none⟩) want4_l want4_c, .int .i64 r7_0, .string r7_1]⟩ (fun W => by kernel_rfl) (by kernel_rfl) H ?_
              clear H
              rintro _ _ ⟨b2, rfl, rfl, H⟩
              refine AtE.run 6 (fun W => by kernel_rfl) ?_
              refine AtE.letI 17 (kd := .i64) (n := (IntKind.i64.wrap (i6 + (1 : Int)))) (by kernel_rfl) (fun i10 hi10 => ?_)
              replace H := H i10 hi10
              refine AtE.run 2 (fun W => by kernel_rfl) ?_
              exact AtE.cutT [2, 0] 3 H (by kernel_rfl)
          · replace H := H.2 h13'
            refine AtE.run 7 (fun W => by kernel_rfl) ?_
            refine AtE.letI 17 (kd := .i64) (n := (IntKind.i64.wrap (i6 + (1 : Int)))) (by kernel_rfl) (fun i11 hi11 => ?_)
            replace H := H i11 hi11
            refine AtE.run 2 (fun W => by kernel_rfl) ?_
            exact AtE.cutT [1] 2 H (by kernel_rfl)
        · replace H := H.2 h12'
          refine AtE.run 13 (fun W => by kernel_rfl) ?_
          refine AtE.letI 17 (kd := .i64) (n := (IntKind.i64.wrap (i6 + (1 : Int)))) (by kernel_rfl) (fun i12 hi12 => ?_)
          replace H := H i12 hi12
          refine AtE.norm (k' := [.inRegion (regOps [.code (sub (Eng.body Try.f7) [1, 1, 1, 1, 1, 1, 1, 1, 1, 1, 1, 0, 1, 0, 0, 1, 1])]) [], .inLoop (sub (Eng.body Try.f7) [1, 1, 1, 1, 1, 1, 1, 1, 1, 1, 1, 0, 1, 0, 0]), .inBlock 4, .code (sub (Eng.body Try.f7) [1, 1, 1, 1, 1, 1, 1, 1, 1, 1, 1, 1])]) (e' := [(0, .int .i64 size6), (1, .slice (some ⟨l5_pb, l5_po, none⟩) l5_l l5_c), (2, .slice keep5_p keep5_l keep5_c), (3, .int .i64 torn5), (9, .bool up4), (10, .pointer d4), (12, .slice (some ⟨B5, 0, none⟩) want4_l want4_c), (14, .int .i64 last2), (16, .slice none 0 0), (17, .int .i64 i12)]) (L' := ((B6, .cells #[.int .i64 r7_0, .string r7_1, .bool r7_2] 42) :: (B5, .cells ⟨cs4⟩ 5) :: F9)) ?_ (by kernel_rfl)
          refine AtE.run 2 (fun W => by kernel_rfl) ?_
          exact AtE.cutT [1] 2 H (by kernel_rfl)
    · replace H := H.2 h10'
      refine AtE.run 2 (fun W => by kernel_rfl) ?_
      exact AtE.cutT [0] 1 H (by kernel_rfl)
  · replace H := H.2 h9'
    refine AtE.run 6 (fun W => by kernel_rfl) ?_
    exact AtE.cutT [0] 1 H (by kernel_rfl)

theorem CrashBytes_c5_vc (B8 : Nat) (B9 : Nat) (size7 : Int) (l6_p : Option Addr) (l6_l : Nat) (l6_c : Nat) (keep6_p : Option Addr) (keep6_l : Nat) (keep6_c : Nat) (torn6 : Int) (up5 : Bool) (d5 : Option Addr) (want5_l : Nat) (want5_c : Nat) (last3 : Int) (numbers_l : Nat) (numbers_c : Nat) (i8 : Int) (cs5 : List Value) (cs6 : List Value) (F10 : SHeap) {R : Ending → World → Prop} {w0 : World}
    (H :
      ((i8 < (l6_l : Int)) →
        ((i8 < (20 : Int)) →
          ∃ l6_pb l6_po : Nat, l6_p = some ⟨l6_pb, l6_po, none⟩ ∧
          (0 ≤ i8 ∧ i8 < l6_l) ∧
          ∃ (cw3 : List Value) (m4_0 : Int) (m4_1 : ByteArray) (m4_2 : Bool), blkW w0 l6_pb = some cw3 ∧ ((cw3.drop (l6_po + ((Int.toNat i8) * 3))).take 3 = [.int .i64 m4_0, .string m4_1, .bool m4_2] ∧ (l6_po + ((Int.toNat i8) * 3)) + 3 ≤ cw3.length) ∧
          CallH Try.prog 22 ⟨[.agg #[.int .i64 m4_0, .string m4_1, .bool m4_2], .int .i64 size7]⟩ ((B8, .cells ⟨cs5⟩ 5) :: (B9, .cells ⟨cs6⟩ 3) :: F10) [] w0 (fun v L' => ∃ (r10_0 : Int) (r10_1 : ByteArray) (r10_2 : Bool), v = (.agg #[.int .i64 r10_0, .string r10_1, .bool r10_2]) ∧ L' = ((B8, .cells ⟨cs5⟩ 5) :: (B9, .cells ⟨cs6⟩ 3) :: F10) ∧
            ∀ B11 : Nat,
            CallH Try.prog 17 ⟨[.pointer d5, .int .i64 r10_0, .string r10_1]⟩ ((B11, .cells #[.int .i64 r10_0, .string r10_1, .bool r10_2] 42) :: (B8, .cells ⟨cs5⟩ 5) :: (B9, .cells ⟨cs6⟩ 3) :: F10) [] w0 (fun v L' => ∃ (r111 : Int) (F12 : SHeap), v = (.int .i64 r111) ∧ L' = ((B11, .cells #[.int .i64 r10_0, .string r10_1, .bool r10_2] 42) :: (B8, .cells ⟨cs5⟩ 5) :: (B9, .cells ⟨cs6⟩ 3) :: F12) ∧
              ((¬ (r111 = (0 : Int))) →
                Fin R ((B11, .cells #[.int .i64 r10_0, .string r10_1, .bool r10_2] 42) :: (B8, .cells ⟨cs5⟩ 5) :: (B9, .cells ⟨cs6⟩ 3) :: F12) [] w0 (.bool false)) ∧
               ((r111 = (0 : Int)) →
                ((i8 < (keep6_l : Int)) →
                  ∃ keep6_pb keep6_po : Nat, keep6_p = some ⟨keep6_pb, keep6_po, none⟩ ∧
                  (0 ≤ i8 ∧ i8 < keep6_l) ∧
                  ∃ (cw4 : List Value) (m51 : Bool), blkW w0 keep6_pb = some cw4 ∧ cw4[(keep6_po + (Int.toNat i8))]? = some (.bool m51) ∧
                  ((m51 = true) →
                    ∀ B12 : Nat,
                    (∀ u ∈ (((cs6).drop 0).take numbers_l), u.oneCell' = true) ∧ ((((cs6).drop 0).take numbers_l).length = numbers_l * 1) ∧
                    (1 ≤ 1 ∧ (([.int .i64 i8] : List Value)).length = 1 * 1) ∧ ((1 + numbers_l) ≤ 9223372036854775807 ∧ (1 + numbers_l) * 8 ≤ 140737488355328) ∧
                    ∀ (B13 cap : Nat) (r12 : List Value), (1 + numbers_l) ≤ cap → ((([.int .i64 i8] : List Value)).take (1 * 1) ++ (((cs6).drop 0).take numbers_l) ++ r12).length = cap * 1 →
                    ((i8 = last3) →
                      (((0 : Int) ≤ torn6) →
                        CallH Try.prog 18 ⟨[.string r10_1, .int .i64 torn6]⟩ ((B13, .cells ⟨((([.int .i64 i8] : List Value)).take (1 * 1) ++ (((cs6).drop 0).take numbers_l) ++ r12)⟩ 3) :: (B11, .cells #[.int .i64 r10_0, .string r10_1, .bool r10_2] 42) :: (B8, .cells ⟨cs5⟩ 5) :: (B9, .cells ⟨cs6⟩ 3) :: F12) [] w0 (fun v L' => ∃ (r131 : ByteArray), v = (.string r131) ∧ L' = ((B13, .cells ⟨((([.int .i64 i8] : List Value)).take (1 * 1) ++ (((cs6).drop 0).take numbers_l) ++ r12)⟩ 3) :: (B11, .cells #[.int .i64 r10_0, .string r10_1, .bool r10_2] 42) :: (B8, .cells ⟨cs5⟩ 5) :: (B9, .cells ⟨cs6⟩ 3) :: F12) ∧
                          CallH Try.prog 23 ⟨[.slice (some ⟨B8, 0, none⟩) want5_l want5_c, .int .i64 r10_0, .string r131]⟩ ((B13, .cells ⟨((([.int .i64 i8] : List Value)).take (1 * 1) ++ (((cs6).drop 0).take numbers_l) ++ r12)⟩ 3) :: (B11, .cells #[.int .i64 r10_0, .string r10_1, .bool r10_2] 42) :: (B8, .cells ⟨cs5⟩ 5) :: (B9, .cells ⟨cs6⟩ 3) :: F12) [] w0 (fun v L' => ∃ (b3 : List Value), v = (.tuple #[]) ∧ L' = ((B13, .cells ⟨((([.int .i64 i8] : List Value)).take (1 * 1) ++ (((cs6).drop 0).take numbers_l) ++ r12)⟩ 3) :: (B11, .cells #[.int .i64 r10_0, .string r10_1, .bool r10_2] 42) :: (B8, .cells ⟨b3⟩ 5) :: (B9, .cells ⟨cs6⟩ 3) :: F12) ∧
                            ∀ i13 : Int, i13 = (IntKind.i64.wrap (i8 + (1 : Int))) →
                            CrashBytes_c5 B8 B13 size7 (some ⟨l6_pb, l6_po, none⟩) l6_l l6_c (some ⟨keep6_pb, keep6_po, none⟩) keep6_l keep6_c torn6 up5 d5 want5_l want5_c last3 (1 + numbers_l) cap i13 b3 ((([.int .i64 i8] : List Value)).take (1 * 1) ++ (((cs6).drop 0).take numbers_l) ++ r12) F12 w0 R))) ∧
                       ((¬ ((0 : Int) ≤ torn6)) →
                        CallH Try.prog 23 ⟨[.slice (some ⟨B8, 0, none⟩) want5_l want5_c, .int .i64 r10_0, .string r10_1]⟩ ((B13, .cells ⟨((([.int .i64 i8] : List Value)).take (1 * 1) ++ (((cs6).drop 0).take numbers_l) ++ r12)⟩ 3) :: (B11, .cells #[.int .i64 r10_0, .string r10_1, .bool r10_2] 42) :: (B8, .cells ⟨cs5⟩ 5) :: (B9, .cells ⟨cs6⟩ 3) :: F12) [] w0 (fun v L' => ∃ (b4 : List Value), v = (.tuple #[]) ∧ L' = ((B13, .cells ⟨((([.int .i64 i8] : List Value)).take (1 * 1) ++ (((cs6).drop 0).take numbers_l) ++ r12)⟩ 3) :: (B11, .cells #[.int .i64 r10_0, .string r10_1, .bool r10_2] 42) :: (B8, .cells ⟨b4⟩ 5) :: (B9, .cells ⟨cs6⟩ 3) :: F12) ∧
                          ∀ i14 : Int, i14 = (IntKind.i64.wrap (i8 + (1 : Int))) →
                          CrashBytes_c5 B8 B13 size7 (some ⟨l6_pb, l6_po, none⟩) l6_l l6_c (some ⟨keep6_pb, keep6_po, none⟩) keep6_l keep6_c torn6 up5 d5 want5_l want5_c last3 (1 + numbers_l) cap i14 b4 ((([.int .i64 i8] : List Value)).take (1 * 1) ++ (((cs6).drop 0).take numbers_l) ++ r12) F12 w0 R))) ∧
                     ((¬ (i8 = last3)) →
                      CallH Try.prog 23 ⟨[.slice (some ⟨B8, 0, none⟩) want5_l want5_c, .int .i64 r10_0, .string r10_1]⟩ ((B13, .cells ⟨((([.int .i64 i8] : List Value)).take (1 * 1) ++ (((cs6).drop 0).take numbers_l) ++ r12)⟩ 3) :: (B11, .cells #[.int .i64 r10_0, .string r10_1, .bool r10_2] 42) :: (B8, .cells ⟨cs5⟩ 5) :: (B9, .cells ⟨cs6⟩ 3) :: F12) [] w0 (fun v L' => ∃ (b5 : List Value), v = (.tuple #[]) ∧ L' = ((B13, .cells ⟨((([.int .i64 i8] : List Value)).take (1 * 1) ++ (((cs6).drop 0).take numbers_l) ++ r12)⟩ 3) :: (B11, .cells #[.int .i64 r10_0, .string r10_1, .bool r10_2] 42) :: (B8, .cells ⟨b5⟩ 5) :: (B9, .cells ⟨cs6⟩ 3) :: F12) ∧
                        ∀ i15 : Int, i15 = (IntKind.i64.wrap (i8 + (1 : Int))) →
                        CrashBytes_c5 B8 B13 size7 (some ⟨l6_pb, l6_po, none⟩) l6_l l6_c (some ⟨keep6_pb, keep6_po, none⟩) keep6_l keep6_c torn6 up5 d5 want5_l want5_c last3 (1 + numbers_l) cap i15 b5 ((([.int .i64 i8] : List Value)).take (1 * 1) ++ (((cs6).drop 0).take numbers_l) ++ r12) F12 w0 R))) ∧
                   ((m51 = false) →
                    ∀ i16 : Int, i16 = (IntKind.i64.wrap (i8 + (1 : Int))) →
                    CrashBytes_c5 B8 B9 size7 (some ⟨l6_pb, l6_po, none⟩) l6_l l6_c (some ⟨keep6_pb, keep6_po, none⟩) keep6_l keep6_c torn6 up5 d5 want5_l want5_c last3 numbers_l numbers_c i16 cs5 cs6 F12 w0 R)) ∧
                 ((¬ (i8 < (keep6_l : Int))) →
                  ∀ i17 : Int, i17 = (IntKind.i64.wrap (i8 + (1 : Int))) →
                  CrashBytes_c5 B8 B9 size7 (some ⟨l6_pb, l6_po, none⟩) l6_l l6_c keep6_p keep6_l keep6_c torn6 up5 d5 want5_l want5_c last3 numbers_l numbers_c i17 cs5 cs6 F12 w0 R))))) ∧
         ((¬ (i8 < (20 : Int))) →
          CrashBytes_c7 B8 B9 size7 torn6 up5 d5 want5_l want5_c numbers_l numbers_c cs5 cs6 F10 w0 R)) ∧
       ((¬ (i8 < (l6_l : Int))) →
        CrashBytes_c7 B8 B9 size7 torn6 up5 d5 want5_l want5_c numbers_l numbers_c cs5 cs6 F10 w0 R)) :
    CrashBytes_c5 B8 B9 size7 l6_p l6_l l6_c keep6_p keep6_l keep6_c torn6 up5 d5 want5_l want5_c last3 numbers_l numbers_c i8 cs5 cs6 F10 w0 R := by
  unfold CrashBytes_c5
  refine AtE.run 8 (fun W => by kernel_rfl) ?_
  refine AtE.splitP 83 (p := i8 < (l6_l : Int)) (by kernel_rfl) (fun h16' => ?_) (fun h16' => ?_)
  · replace H := H.1 h16'
    refine AtE.run 4 (fun W => by kernel_rfl) ?_
    refine AtE.splitP 86 (p := i8 < (20 : Int)) (by kernel_rfl) (fun h17' => ?_) (fun h17' => ?_)
    · replace H := H.1 h17'
      refine AtE.run 8 (fun W => by kernel_rfl) ?_
      obtain ⟨l6_pb, l6_po, rfl, H⟩ := H
      refine AtE.indexAddrL (E := 42) (b := l6_pb) (o := l6_po) (len := l6_l) (cap := l6_c) (sz := 3) (o' := (l6_po + ((Int.toNat i8) * 3))) (kd := .i64) (i := i8) (by kernel_rfl) H.1 (by omega) ?_
      replace H := H.2
      obtain ⟨cw3, m4_0, m4_1, m4_2, hw, hx, H⟩ := H
      refine AtE.loadW (b := l6_pb) (off := (l6_po + ((Int.toNat i8) * 3))) (T := 42) (v := .agg #[.int .i64 m4_0, .string m4_1, .bool m4_2]) (by kernel_rfl) List.not_mem_nil hw (valAt_agg hx.1 hx.2 (by kernel_rfl) (by kernel_rfl)) ?_
      refine AtE.run 1 (fun W => by kernel_rfl) ?_
      refine AtE.call 22 ⟨[.agg #[.int .i64 m4_0, .string m4_1, .bool m4_2], .int .i64 size7]⟩ (fun W => by kernel_rfl) (by kernel_rfl) H ?_
      clear H
      rintro _ _ ⟨r10_0, r10_1, r10_2, rfl, rfl, H⟩
      refine AtE.new (fun B => .pointer (some ⟨B, 0, none⟩)) (.cells #[.int .i64 (0 : Int), .string (⟨#[]⟩), .bool false] 42) (fun W => by kernel_rfl) (by kernel_rfl) (fun B11 => ?_)
      replace H := H B11
      refine AtE.front ?_
      refine AtE.norm (k' := [.inRegion (regOps [.code (sub (Eng.body Try.f7) [1, 1, 1, 1, 1, 1, 1, 1, 1, 1, 1, 0, 1, 0, 0, 1, 0, 0, 0])]) [7], .code (sub (Eng.body Try.f7) [1, 1, 1, 1, 1, 1, 1, 1, 1, 1, 1, 0, 1, 0, 0, 1, 0, 0, 1]), .inBlock 5, .code (sub (Eng.body Try.f7) [1, 1, 1, 1, 1, 1, 1, 1, 1, 1, 1, 0, 1, 0, 0, 1, 1]), .inLoop (sub (Eng.body Try.f7) [1, 1, 1, 1, 1, 1, 1, 1, 1, 1, 1, 0, 1, 0, 0]), .inBlock 4, .code (sub (Eng.body Try.f7) [1, 1, 1, 1, 1, 1, 1, 1, 1, 1, 1, 1])]) (e' := [(0, .int .i64 size7), (1, .slice (some ⟨l6_pb, l6_po, none⟩) l6_l l6_c), (2, .slice keep6_p keep6_l keep6_c), (3, .int .i64 torn6), (9, .bool up5), (10, .pointer d5), (12, .slice (some ⟨B8, 0, none⟩) want5_l want5_c), (14, .int .i64 last3), (16, .slice (some ⟨B9, 0, none⟩) numbers_l numbers_c), (17, .int .i64 i8), (18, .pointer (some ⟨B11, 0, none⟩)), (94, .agg #[.int .i64 r10_0, .string r10_1, .bool r10_2])]) (L' := ((B11, .cells #[.int .i64 (0 : Int), .string (⟨#[]⟩), .bool false] 42) :: (B8, .cells ⟨cs5⟩ 5) :: (B9, .cells ⟨cs6⟩ 3) :: F10)) ?_ (by kernel_rfl)
      refine AtE.store 0 0 (T := 42) (v := .agg #[.int .i64 r10_0, .string r10_1, .bool r10_2]) (by kernel_rfl) ?_
      refine AtE.run 6 (fun W => by kernel_rfl) ?_
      refine AtE.load 0 0 (T := 3) (v := .int .i64 r10_0) (by kernel_rfl) ?_
      refine AtE.run 1 (fun W => by kernel_rfl) ?_
      refine AtE.load 0 1 (T := 9) (v := .string r10_1) (by kernel_rfl) ?_
      refine AtE.call 17 ⟨[.pointer d5, .int .i64 r10_0, .string r10_1]⟩ (fun W => by kernel_rfl) (by kernel_rfl) H ?_
      clear H
      rintro _ _ ⟨r111, F12, rfl, rfl, H⟩
      refine AtE.run 2 (fun W => by kernel_rfl) ?_
      refine AtE.splitN 101 (p := r111 = (0 : Int)) (by kernel_rfl) (fun h18' => ?_) (fun h18' => ?_)
      · replace H := H.1 h18'
        refine AtE.run 5 (fun W => by kernel_rfl) ?_
        exact AtE.ret Try.func7 (by kernel_rfl) H
      · replace H := H.2 h18'
        refine AtE.run 9 (fun W => by kernel_rfl) ?_
        refine AtE.splitP 106 (p := i8 < (keep6_l : Int)) (by kernel_rfl) (fun h19' => ?_) (fun h19' => ?_)
        · replace H := H.1 h19'
          refine AtE.run 2 (fun W => by kernel_rfl) ?_
          obtain ⟨keep6_pb, keep6_po, rfl, H⟩ := H
          refine AtE.norm (k' := [.inRegion (regOps [.code (sub (Eng.body Try.f7) [1, 1, 1, 1, 1, 1, 1, 1, 1, 1, 1, 0, 1, 0, 0, 1, 0, 0, 1, 1, 0])]) [7, 8, 9], .code (sub (Eng.body Try.f7) [1, 1, 1, 1, 1, 1, 1, 1, 1, 1, 1, 0, 1, 0, 0, 1, 0, 0, 1, 1, 1]), .inBlock 5, .code (sub (Eng.body Try.f7) [1, 1, 1, 1, 1, 1, 1, 1, 1, 1, 1, 0, 1, 0, 0, 1, 1]), .inLoop (sub (Eng.body Try.f7) [1, 1, 1, 1, 1, 1, 1, 1, 1, 1, 1, 0, 1, 0, 0]), .inBlock 4, .code (sub (Eng.body Try.f7) [1, 1, 1, 1, 1, 1, 1, 1, 1, 1, 1, 1])]) (e' := [(0, .int .i64 size7), (1, .slice (some ⟨l6_pb, l6_po, none⟩) l6_l l6_c), (2, .slice (some ⟨keep6_pb, keep6_po, none⟩) keep6_l keep6_c), (3, .int .i64 torn6), (9, .bool up5), (10, .pointer d5), (12, .slice (some ⟨B8, 0, none⟩) want5_l want5_c), (14, .int .i64 last3), (16, .slice (some ⟨B9, 0, none⟩) numbers_l numbers_c), (17, .int .i64 i8), (18, .pointer (some ⟨B11, 0, none⟩)), (106, .bool true), (107, .slice (some ⟨keep6_pb, keep6_po, none⟩) keep6_l keep6_c), (108, .int .i64 i8)]) (L' := ((B11, .cells #[.int .i64 r10_0, .string r10_1, .bool r10_2] 42) :: (B8, .cells ⟨cs5⟩ 5) :: (B9, .cells ⟨cs6⟩ 3) :: F12)) ?_ (by kernel_rfl)
          refine AtE.indexAddrL (E := 4) (b := keep6_pb) (o := keep6_po) (len := keep6_l) (cap := keep6_c) (sz := 1) (o' := (keep6_po + (Int.toNat i8))) (kd := .i64) (i := i8) (by kernel_rfl) H.1 (by omega) ?_
          replace H := H.2
          obtain ⟨cw4, m51, hw, hx, H⟩ := H
          refine AtE.loadW (b := keep6_pb) (off := (keep6_po + (Int.toNat i8))) (T := 4) (v := .bool m51) (by kernel_rfl) List.not_mem_nil hw (valAt_one hx (by kernel_rfl)) ?_
          refine AtE.run 2 (fun W => by kernel_rfl) ?_
          refine AtE.split 111 (b := m51) (by kernel_rfl) (fun h20' => ?_) (fun h20' => ?_)
          · replace H := H.1 h20'
            refine AtE.run 4 (fun W => by kernel_rfl) ?_
            refine AtE.new (fun B => .slice (some ⟨B, 0, none⟩) 1 1) (.cells #[.int .i64 i8] 3) (fun W => by kernel_rfl) (by kernel_rfl) (fun B12 => ?_)
            replace H := H B12
            refine AtE.front ?_
            refine AtE.run 1 (fun W => by kernel_rfl) ?_
            refine AtE.appendO 0 (T := 32) (E := 3) (z := .int .i64 (0 : Int)) (sz := 1) (bytes := 8) (n := 1) (cap := 1) (a := ⟨B9, 0, none⟩) (m := numbers_l) (c := numbers_c) (cs := ([.int .i64 i8] : List Value)) (((cs6).drop 0).take numbers_l) (by kernel_rfl) (Src.own (j := 3) (o := 0) (n := numbers_l) (c := cs6) (by kernel_rfl)) H.2.1 H.1 H.2.2.1 H.2.2.2.1 (fun B13 cap r12 h1 h2 => ?_)
            replace H := H.2.2.2.2 B13 cap r12 h1 h2
            refine AtE.front ?_
            refine AtE.run 5 (fun W => by kernel_rfl) ?_
            refine AtE.load 1 1 (T := 9) (v := .string r10_1) (by kernel_rfl) ?_
            refine AtE.run 9 (fun W => by kernel_rfl) ?_
            refine AtE.splitP 121 (p := i8 = last3) (by kernel_rfl) (fun h21' => ?_) (fun h21' => ?_)
            · replace H := H.1 h21'
              refine AtE.norm (k' := [.inRegion (regOps [.code (sub (Eng.body Try.f7) [1, 1, 1, 1, 1, 1, 1, 1, 1, 1, 1, 0, 1, 0, 0, 1, 0, 0, 1, 1, 1, 0, 1, 1, 0, 0])]) [4, 5, 6], .code (sub (Eng.body Try.f7) [1, 1, 1, 1, 1, 1, 1, 1, 1, 1, 1, 0, 1, 0, 0, 1, 0, 0, 1, 1, 1, 0, 1, 1, 0, 1]), .code (sub (Eng.body Try.f7) [1, 1, 1, 1, 1, 1, 1, 1, 1, 1, 1, 0, 1, 0, 0, 1, 0, 0, 1, 1, 1, 0, 1, 1, 1]), .inBlock 5, .code (sub (Eng.body Try.f7) [1, 1, 1, 1, 1, 1, 1, 1, 1, 1, 1, 0, 1, 0, 0, 1, 1]), .inLoop (sub (Eng.body Try.f7) [1, 1, 1, 1, 1, 1, 1, 1, 1, 1, 1, 0, 1, 0, 0]), .inBlock 4, .code (sub (Eng.body Try.f7) [1, 1, 1, 1, 1, 1, 1, 1, 1, 1, 1, 1])]) (e' := [(0, .int .i64 size7), (1, .slice (some ⟨l6_pb, l6_po, none⟩) l6_l l6_c), (2, .slice (some ⟨keep6_pb, keep6_po, none⟩) keep6_l keep6_c), (3, .int .i64 torn6), (9, .bool up5), (10, .pointer d5), (12, .slice (some ⟨B8, 0, none⟩) want5_l want5_c), (14, .int .i64 last3), (16, .slice (some ⟨B13, 0, none⟩) (1 + numbers_l) cap), (17, .int .i64 i8), (18, .pointer (some ⟨B11, 0, none⟩)), (19, .string r10_1), (121, .bool true)]) (L' := ((B13, .cells ⟨((([.int .i64 i8] : List Value)).take (1 * 1) ++ (((cs6).drop 0).take numbers_l) ++ r12)⟩ 3) :: (B11, .cells #[.int .i64 r10_0, .string r10_1, .bool r10_2] 42) :: (B8, .cells ⟨cs5⟩ 5) :: (B9, .cells ⟨cs6⟩ 3) :: F12)) ?_ (by kernel_rfl)
              refine AtE.run 4 (fun W => by kernel_rfl) ?_
              refine AtE.splitP 124 (p := (0 : Int) ≤ torn6) (by kernel_rfl) (fun h22' => ?_) (fun h22' => ?_)
              · replace H := H.1 h22'
                refine AtE.run 4 (fun W => by kernel_rfl) ?_
                refine AtE.call 18 ⟨[.string r10_1, .int .i64 torn6]⟩ (fun W => by kernel_rfl) (by kernel_rfl) H ?_
                clear H
                rintro _ _ ⟨r131, rfl, rfl, H⟩
                refine AtE.run 5 (fun W => by kernel_rfl) ?_
                refine AtE.load 1 0 (T := 3) (v := .int .i64 r10_0) (by kernel_rfl) ?_
                refine AtE.run 1 (fun W => by kernel_rfl) ?_
                refine AtE.call 23 ⟨[.slice (some ⟨B8, 0, none⟩) want5_l want5_c, .int .i64 r10_0, .string r131]⟩ (fun W => by kernel_rfl) (by kernel_rfl) H ?_
                clear H
                rintro _ _ ⟨b3, rfl, rfl, H⟩
                refine AtE.run 6 (fun W => by kernel_rfl) ?_
                refine AtE.letI 17 (kd := .i64) (n := (IntKind.i64.wrap (i8 + (1 : Int)))) (by kernel_rfl) (fun i13 hi13 => ?_)
                replace H := H i13 hi13
                refine AtE.run 2 (fun W => by kernel_rfl) ?_
                exact AtE.cutT [2, 0] 4 H (by kernel_rfl)
              · replace H := H.2 h22'
                refine AtE.run 5 (fun W => by kernel_rfl) ?_
                refine AtE.load 1 0 (T := 3) (v := .int .i64 r10_0) (by kernel_rfl) ?_
                refine AtE.run 1 (fun W => by kernel_rfl) ?_
                refine AtE.call 23 ⟨[.slice (some ⟨B8, 0, none⟩) want5_l want5_c, .int .i64 r10_0, .string r10_1]⟩ (fun W => by kernel_rfl) (by kernel_rfl) H ?_
                clear H
                rintro _ _ ⟨b4, rfl, rfl, H⟩
                refine AtE.run 6 (fun W => by kernel_rfl) ?_
                refine AtE.letI 17 (kd := .i64) (n := (IntKind.i64.wrap (i8 + (1 : Int)))) (by kernel_rfl) (fun i14 hi14 => ?_)
                replace H := H i14 hi14
                refine AtE.run 2 (fun W => by kernel_rfl) ?_
                exact AtE.cutT [2, 0] 4 H (by kernel_rfl)
            · replace H := H.2 h21'
              refine AtE.norm (k' := [.inRegion (regOps [.code (sub (Eng.body Try.f7) [1, 1, 1, 1, 1, 1, 1, 1, 1, 1, 1, 0, 1, 0, 0, 1, 0, 0, 1, 1, 1, 0, 1, 1, 0, 0])]) [4, 5, 6], .code (sub (Eng.body Try.f7) [1, 1, 1, 1, 1, 1, 1, 1, 1, 1, 1, 0, 1, 0, 0, 1, 0, 0, 1, 1, 1, 0, 1, 1, 0, 1]), .code (sub (Eng.body Try.f7) [1, 1, 1, 1, 1, 1, 1, 1, 1, 1, 1, 0, 1, 0, 0, 1, 0, 0, 1, 1, 1, 0, 1, 1, 1]), .inBlock 5, .code (sub (Eng.body Try.f7) [1, 1, 1, 1, 1, 1, 1, 1, 1, 1, 1, 0, 1, 0, 0, 1, 1]), .inLoop (sub (Eng.body Try.f7) [1, 1, 1, 1, 1, 1, 1, 1, 1, 1, 1, 0, 1, 0, 0]), .inBlock 4, .code (sub (Eng.body Try.f7) [1, 1, 1, 1, 1, 1, 1, 1, 1, 1, 1, 1])]) (e' := [(0, .int .i64 size7), (1, .slice (some ⟨l6_pb, l6_po, none⟩) l6_l l6_c), (2, .slice (some ⟨keep6_pb, keep6_po, none⟩) keep6_l keep6_c), (3, .int .i64 torn6), (9, .bool up5), (10, .pointer d5), (12, .slice (some ⟨B8, 0, none⟩) want5_l want5_c), (14, .int .i64 last3), (16, .slice (some ⟨B13, 0, none⟩) (1 + numbers_l) cap), (17, .int .i64 i8), (18, .pointer (some ⟨B11, 0, none⟩)), (19, .string r10_1), (121, .bool false)]) (L' := ((B13, .cells ⟨((([.int .i64 i8] : List Value)).take (1 * 1) ++ (((cs6).drop 0).take numbers_l) ++ r12)⟩ 3) :: (B11, .cells #[.int .i64 r10_0, .string r10_1, .bool r10_2] 42) :: (B8, .cells ⟨cs5⟩ 5) :: (B9, .cells ⟨cs6⟩ 3) :: F12)) ?_ (by kernel_rfl)
              refine AtE.run 9 (fun W => by kernel_rfl) ?_
              refine AtE.load 1 0 (T := 3) (v := .int .i64 r10_0) (by kernel_rfl) ?_
              refine AtE.run 1 (fun W => by kernel_rfl) ?_
              refine AtE.call 23 ⟨[.slice (some ⟨B8, 0, none⟩) want5_l want5_c, .int .i64 r10_0, .string r10_1]⟩ (fun W => by kernel_rfl) (by kernel_rfl) H ?_
              clear H
              rintro _ _ ⟨b5, rfl, rfl, H⟩
              refine AtE.run 6 (fun W => by kernel_rfl) ?_
              refine AtE.letI 17 (kd := .i64) (n := (IntKind.i64.wrap (i8 + (1 : Int)))) (by kernel_rfl) (fun i15 hi15 => ?_)
              replace H := H i15 hi15
              refine AtE.run 2 (fun W => by kernel_rfl) ?_
              exact AtE.cutT [2, 0] 4 H (by kernel_rfl)
          · replace H := H.2 h20'
            refine AtE.run 7 (fun W => by kernel_rfl) ?_
            refine AtE.letI 17 (kd := .i64) (n := (IntKind.i64.wrap (i8 + (1 : Int)))) (by kernel_rfl) (fun i16 hi16 => ?_)
            replace H := H i16 hi16
            refine AtE.run 2 (fun W => by kernel_rfl) ?_
            exact AtE.cutT [1, 2] 3 H (by kernel_rfl)
        · replace H := H.2 h19'
          refine AtE.run 13 (fun W => by kernel_rfl) ?_
          refine AtE.letI 17 (kd := .i64) (n := (IntKind.i64.wrap (i8 + (1 : Int)))) (by kernel_rfl) (fun i17 hi17 => ?_)
          replace H := H i17 hi17
          refine AtE.norm (k' := [.inRegion (regOps [.code (sub (Eng.body Try.f7) [1, 1, 1, 1, 1, 1, 1, 1, 1, 1, 1, 0, 1, 0, 0, 1, 1])]) [], .inLoop (sub (Eng.body Try.f7) [1, 1, 1, 1, 1, 1, 1, 1, 1, 1, 1, 0, 1, 0, 0]), .inBlock 4, .code (sub (Eng.body Try.f7) [1, 1, 1, 1, 1, 1, 1, 1, 1, 1, 1, 1])]) (e' := [(0, .int .i64 size7), (1, .slice (some ⟨l6_pb, l6_po, none⟩) l6_l l6_c), (2, .slice keep6_p keep6_l keep6_c), (3, .int .i64 torn6), (9, .bool up5), (10, .pointer d5), (12, .slice (some ⟨B8, 0, none⟩) want5_l want5_c), (14, .int .i64 last3), (16, .slice (some ⟨B9, 0, none⟩) numbers_l numbers_c), (17, .int .i64 i17)]) (L' := ((B11, .cells #[.int .i64 r10_0, .string r10_1, .bool r10_2] 42) :: (B8, .cells ⟨cs5⟩ 5) :: (B9, .cells ⟨cs6⟩ 3) :: F12)) ?_ (by kernel_rfl)
          refine AtE.run 2 (fun W => by kernel_rfl) ?_
          exact AtE.cutT [1, 2] 3 H (by kernel_rfl)
    · replace H := H.2 h17'
      refine AtE.run 2 (fun W => by kernel_rfl) ?_
      exact AtE.cutT [0, 1] 2 H (by kernel_rfl)
  · replace H := H.2 h16'
    refine AtE.run 6 (fun W => by kernel_rfl) ?_
    exact AtE.cutT [0, 1] 2 H (by kernel_rfl)

theorem CrashBytes_c6_vc (B10 : Nat) (size8 : Int) (torn7 : Int) (up6 : Bool) (d6 : Option Addr) (want6_l : Nat) (want6_c : Nat) (cs7 : List Value) (F11 : SHeap) {R : Ending → World → Prop} {w0 : World}
    (H :
      CallH Try.prog 21 ⟨[.pointer d6, .slice none 0 0, .int .i64 torn7]⟩ ((B10, .cells ⟨cs7⟩ 5) :: F11) [] w0 (fun v L' => ∃ (r141 : Int) (F14 : SHeap), v = (.int .i64 r141) ∧ L' = ((B10, .cells ⟨cs7⟩ 5) :: F14) ∧
        CallH Try.prog 13 ⟨[.pointer d6, .int .i64 (0 : Int), .int .i64 size8]⟩ ((B10, .cells ⟨cs7⟩ 5) :: F14) [] w0 (fun v L' => ∃ (r151 : ByteArray) (r161 : Int) (F15 : SHeap), v = (.tuple #[.string r151, .int .i64 r161]) ∧ L' = ((B10, .cells ⟨cs7⟩ 5) :: F15) ∧
          ((up6 = true) →
            ((r141 = (0 : Int)) →
              ((r161 = (0 : Int)) →
                ∃ bs1 : List UInt8, (((cs7).drop 0).take want6_l = bytesL bs1 ∧ bs1.length = want6_l) ∧
                Fin R ((B10, .cells ⟨cs7⟩ 5) :: F15) [] w0 (.bool (r151.toList == (⟨bs1.toArray⟩ : ByteArray).toList))) ∧
               ((¬ (r161 = (0 : Int))) →
                Fin R ((B10, .cells ⟨cs7⟩ 5) :: F15) [] w0 (.bool false))) ∧
             ((¬ (r141 = (0 : Int))) →
              Fin R ((B10, .cells ⟨cs7⟩ 5) :: F15) [] w0 (.bool false))) ∧
           ((up6 = false) →
            Fin R ((B10, .cells ⟨cs7⟩ 5) :: F15) [] w0 (.bool false))))) :
    CrashBytes_c6 B10 size8 torn7 up6 d6 want6_l want6_c cs7 F11 w0 R := by
  unfold CrashBytes_c6
  refine AtE.run 5 (fun W => by kernel_rfl) ?_
  refine AtE.call 21 ⟨[.pointer d6, .slice none 0 0, .int .i64 torn7]⟩ (fun W => by kernel_rfl) (by kernel_rfl) H ?_
  clear H
  rintro _ _ ⟨r141, F14, rfl, rfl, H⟩
  refine AtE.run 6 (fun W => by kernel_rfl) ?_
  refine AtE.call 13 ⟨[.pointer d6, .int .i64 (0 : Int), .int .i64 size8]⟩ (fun W => by kernel_rfl) (by kernel_rfl) H ?_
  clear H
  rintro _ _ ⟨r151, r161, F15, rfl, rfl, H⟩
  refine AtE.run 10 (fun W => by kernel_rfl) ?_
  refine AtE.split 144 (b := up6) (by kernel_rfl) (fun h23' => ?_) (fun h23' => ?_)
  · replace H := H.1 h23'
    refine AtE.run 4 (fun W => by kernel_rfl) ?_
    refine AtE.splitP 148 (p := r141 = (0 : Int)) (by kernel_rfl) (fun h24' => ?_) (fun h24' => ?_)
    · replace H := H.1 h24'
      refine AtE.run 4 (fun W => by kernel_rfl) ?_
      refine AtE.splitP 152 (p := r161 = (0 : Int)) (by kernel_rfl) (fun h25' => ?_) (fun h25' => ?_)
      · replace H := H.1 h25'
        refine AtE.run 2 (fun W => by kernel_rfl) ?_
        obtain ⟨bs1, hb, H⟩ := H
        refine AtE.toString 0 (E := 5) (o := 0) (len := want6_l) (cap := want6_c) (c := cs7) (l := bs1) (by kernel_rfl) hb ?_
        refine AtE.run 4 (fun W => by kernel_rfl) ?_
        exact AtE.ret Try.func7 (by kernel_rfl) H
      · replace H := H.2 h25'
        refine AtE.run 7 (fun W => by kernel_rfl) ?_
        exact AtE.ret Try.func7 (by kernel_rfl) H
    · replace H := H.2 h24'
      refine AtE.run 11 (fun W => by kernel_rfl) ?_
      exact AtE.ret Try.func7 (by kernel_rfl) H
  · replace H := H.2 h23'
    refine AtE.run 15 (fun W => by kernel_rfl) ?_
    exact AtE.ret Try.func7 (by kernel_rfl) H

theorem CrashBytes_c7_vc (B14 : Nat) (B15 : Nat) (size9 : Int) (torn8 : Int) (up7 : Bool) (d7 : Option Addr) (want7_l : Nat) (want7_c : Nat) (numbers1_l : Nat) (numbers1_c : Nat) (cs8 : List Value) (cs9 : List Value) (F13 : SHeap) {R : Ending → World → Prop} {w0 : World}
    (H :
      CallH Try.prog 21 ⟨[.pointer d7, .slice (some ⟨B15, 0, none⟩) numbers1_l numbers1_c, .int .i64 torn8]⟩ ((B14, .cells ⟨cs8⟩ 5) :: (B15, .cells ⟨cs9⟩ 3) :: F13) [] w0 (fun v L' => ∃ (r171 : Int) (F16 : SHeap), v = (.int .i64 r171) ∧ L' = ((B14, .cells ⟨cs8⟩ 5) :: (B15, .cells ⟨cs9⟩ 3) :: F16) ∧
        CallH Try.prog 13 ⟨[.pointer d7, .int .i64 (0 : Int), .int .i64 size9]⟩ ((B14, .cells ⟨cs8⟩ 5) :: (B15, .cells ⟨cs9⟩ 3) :: F16) [] w0 (fun v L' => ∃ (r181 : ByteArray) (r191 : Int) (F17 : SHeap), v = (.tuple #[.string r181, .int .i64 r191]) ∧ L' = ((B14, .cells ⟨cs8⟩ 5) :: (B15, .cells ⟨cs9⟩ 3) :: F17) ∧
          ((up7 = true) →
            ((r171 = (0 : Int)) →
              ((r191 = (0 : Int)) →
                ∃ bs2 : List UInt8, (((cs8).drop 0).take want7_l = bytesL bs2 ∧ bs2.length = want7_l) ∧
                Fin R ((B14, .cells ⟨cs8⟩ 5) :: (B15, .cells ⟨cs9⟩ 3) :: F17) [] w0 (.bool (r181.toList == (⟨bs2.toArray⟩ : ByteArray).toList))) ∧
               ((¬ (r191 = (0 : Int))) →
                Fin R ((B14, .cells ⟨cs8⟩ 5) :: (B15, .cells ⟨cs9⟩ 3) :: F17) [] w0 (.bool false))) ∧
             ((¬ (r171 = (0 : Int))) →
              Fin R ((B14, .cells ⟨cs8⟩ 5) :: (B15, .cells ⟨cs9⟩ 3) :: F17) [] w0 (.bool false))) ∧
           ((up7 = false) →
            Fin R ((B14, .cells ⟨cs8⟩ 5) :: (B15, .cells ⟨cs9⟩ 3) :: F17) [] w0 (.bool false))))) :
    CrashBytes_c7 B14 B15 size9 torn8 up7 d7 want7_l want7_c numbers1_l numbers1_c cs8 cs9 F13 w0 R := by
  unfold CrashBytes_c7
  refine AtE.run 5 (fun W => by kernel_rfl) ?_
  refine AtE.call 21 ⟨[.pointer d7, .slice (some ⟨B15, 0, none⟩) numbers1_l numbers1_c, .int .i64 torn8]⟩ (fun W => by kernel_rfl) (by kernel_rfl) H ?_
  clear H
  rintro _ _ ⟨r171, F16, rfl, rfl, H⟩
  refine AtE.run 6 (fun W => by kernel_rfl) ?_
  refine AtE.call 13 ⟨[.pointer d7, .int .i64 (0 : Int), .int .i64 size9]⟩ (fun W => by kernel_rfl) (by kernel_rfl) H ?_
  clear H
  rintro _ _ ⟨r181, r191, F17, rfl, rfl, H⟩
  refine AtE.run 10 (fun W => by kernel_rfl) ?_
  refine AtE.split 144 (b := up7) (by kernel_rfl) (fun h26' => ?_) (fun h26' => ?_)
  · replace H := H.1 h26'
    refine AtE.run 4 (fun W => by kernel_rfl) ?_
    refine AtE.splitP 148 (p := r171 = (0 : Int)) (by kernel_rfl) (fun h27' => ?_) (fun h27' => ?_)
    · replace H := H.1 h27'
      refine AtE.run 4 (fun W => by kernel_rfl) ?_
      refine AtE.splitP 152 (p := r191 = (0 : Int)) (by kernel_rfl) (fun h28' => ?_) (fun h28' => ?_)
      · replace H := H.1 h28'
        refine AtE.run 2 (fun W => by kernel_rfl) ?_
        obtain ⟨bs2, hb, H⟩ := H
        refine AtE.toString 0 (E := 5) (o := 0) (len := want7_l) (cap := want7_c) (c := cs8) (l := bs2) (by kernel_rfl) hb ?_
        refine AtE.run 4 (fun W => by kernel_rfl) ?_
        exact AtE.ret Try.func7 (by kernel_rfl) H
      · replace H := H.2 h28'
        refine AtE.run 7 (fun W => by kernel_rfl) ?_
        exact AtE.ret Try.func7 (by kernel_rfl) H
    · replace H := H.2 h27'
      refine AtE.run 11 (fun W => by kernel_rfl) ?_
      exact AtE.ret Try.func7 (by kernel_rfl) H
  · replace H := H.2 h26'
    refine AtE.run 15 (fun W => by kernel_rfl) ?_
    exact AtE.ret Try.func7 (by kernel_rfl) H

theorem CrashBytes_vc (size : Int) (l_p : Option Addr) (l_l : Nat) (l_c : Nat) (keep_p : Option Addr) (keep_l : Nat) (keep_c : Nat) (torn : Int) (F : SHeap) {R : Ending → World → Prop} {w0 W : World} (hm : Mem (F) [] w0 W)
    (H :
      CallH Try.prog 11 ⟨[]⟩ (F) [] w0 (fun v L' => ∃ (r1 : Bool), v = (.bool r1) ∧ L' = (F) ∧
        CallH Try.prog 14 ⟨[.int .i64 size, .int .i64 (100 : Int)]⟩ (F) [] w0 (fun v L' => ∃ (r21 : Int), v = (.int .i64 r21) ∧ L' = (F) ∧
          ∀ size1 : Int, size1 = (IntKind.i64.wrap ((1 : Int) + r21)) →
          CallH Try.prog 12 ⟨[.int .i64 size1]⟩ (F) [] w0 (fun v L' => ∃ (r31 : Option Addr) (r41 : Int) (F1 : SHeap), v = (.tuple #[.pointer r31, .int .i64 r41]) ∧ L' = (F1) ∧
            ((¬ (r41 = (0 : Int))) →
              Fin R (F1) [] w0 (.bool false)) ∧
             ((r41 = (0 : Int)) →
              (0 ≤ size1 ∧ size1 ≤ size1 ∧ 1 * size1 ≤ 281474976710656 ∧ size1 ≤ 9223372036854775807) ∧
              ∀ B : Nat,
              CrashBytes_c0 B size1 l_p l_l l_c keep_p keep_l keep_c torn r1 r31 (Int.toNat size1) (Int.toNat size1) (0 : Int) (List.replicate (Int.toNat size1) (.int .u8 (0 : Int))) F1 w0 R))))) :
    Calls Try.prog 7 ⟨[.int .i64 size, .slice l_p l_l l_c, .slice keep_p keep_l keep_c, .int .i64 torn]⟩ W R := by
  refine AtE.calls (nt := 158) Try.func7 (by kernel_rfl) hm ?_
  refine AtE.run 6 (fun W => by kernel_rfl) ?_
  refine AtE.call 11 ⟨[]⟩ (fun W => by kernel_rfl) (by kernel_rfl) H ?_
  clear H
  rintro _ F ⟨r1, rfl, rfl, H⟩
  refine AtE.run 5 (fun W => by kernel_rfl) ?_
  refine AtE.call 14 ⟨[.int .i64 size, .int .i64 (100 : Int)]⟩ (fun W => by kernel_rfl) (by kernel_rfl) H ?_
  clear H
  rintro _ F ⟨r21, rfl, rfl, H⟩
  refine AtE.run 2 (fun W => by kernel_rfl) ?_
  refine AtE.letI 0 (kd := .i64) (n := (IntKind.i64.wrap ((1 : Int) + r21))) (by kernel_rfl) (fun size1 hsize1 => ?_)
  replace H := H size1 hsize1
  refine AtE.run 4 (fun W => by kernel_rfl) ?_
  refine AtE.call 12 ⟨[.int .i64 size1]⟩ (fun W => by kernel_rfl) (by kernel_rfl) H ?_
  clear H
  rintro _ F1 ⟨r31, r41, _, rfl, rfl, H⟩
  refine AtE.run 12 (fun W => by kernel_rfl) ?_
  refine AtE.splitN 33 (p := r41 = (0 : Int)) (by kernel_rfl) (fun h1' => ?_) (fun h1' => ?_)
  · replace H := H.1 h1'
    refine AtE.run 5 (fun W => by kernel_rfl) ?_
    exact AtE.ret Try.func7 (by kernel_rfl) H
  · replace H := H.2 h1'
    refine AtE.run 5 (fun W => by kernel_rfl) ?_
    refine AtE.make (E := 5) (kl := .i64) (kc := .i64) (n := size1) (m := size1) (z := .int .u8 (0 : Int)) (bytes := 1) (by kernel_rfl) H.1 (fun B => ?_)
    replace H := H.2 B
    refine AtE.front ?_
    refine AtE.run 9 (fun W => by kernel_rfl) ?_
    exact AtE.cutT [0] 1 H (by kernel_rfl)

def AllSurvive_c0 (size2 : Int) (l1_p : Option Addr) (l1_l : Nat) (l1_c : Nat) (up : Bool) (d : Option Addr) (i : Int) (F2 : SHeap) (w0 : World) (R : Ending → World → Prop) : Prop :=
  AtE Try.prog 8 127 [.code (sub (Eng.body Try.f8) [1, 1, 1, 1, 1, 0, 1, 0, 0]), .inLoop (sub (Eng.body Try.f8) [1, 1, 1, 1, 1, 0, 1, 0, 0]), .inBlock 0, .code (sub (Eng.body Try.f8) [1, 1, 1, 1, 1, 1])] [(0, .int .i64 size2), (1, .slice l1_p l1_l l1_c), (5, .bool up), (6, .pointer d), (8, .int .i64 i)] (F2) [] w0 (nrm R)

def AllSurvive_c1 (size3 : Int) (up1 : Bool) (d1 : Option Addr) (s : ByteArray) (fv : Int) (i3 : Int) (F6 : SHeap) (w0 : World) (R : Ending → World → Prop) : Prop :=
  AtE Try.prog 8 127 [.code (sub (Eng.body Try.f8) [1, 1, 1, 1, 1, 1, 1, 1, 0, 1, 0, 0]), .inLoop (sub (Eng.body Try.f8) [1, 1, 1, 1, 1, 1, 1, 1, 0, 1, 0, 0]), .inBlock 2, .code (sub (Eng.body Try.f8) [1, 1, 1, 1, 1, 1, 1, 1, 1])] [(0, .int .i64 size3), (5, .bool up1), (6, .pointer d1), (10, .string s), (11, .int .i64 fv), (12, .slice none 0 0), (13, .int .i64 i3)] (F6) [] w0 (nrm R)

def AllSurvive_c2 (B3 : Nat) (size4 : Int) (up2 : Bool) (d2 : Option Addr) (s1 : ByteArray) (fv1 : Int) (all_l : Nat) (all_c : Nat) (i5 : Int) (cs : List Value) (F9 : SHeap) (w0 : World) (R : Ending → World → Prop) : Prop :=
  AtE Try.prog 8 127 [.code (sub (Eng.body Try.f8) [1, 1, 1, 1, 1, 1, 1, 1, 0, 1, 0, 0]), .inLoop (sub (Eng.body Try.f8) [1, 1, 1, 1, 1, 1, 1, 1, 0, 1, 0, 0]), .inBlock 2, .code (sub (Eng.body Try.f8) [1, 1, 1, 1, 1, 1, 1, 1, 1])] [(0, .int .i64 size4), (5, .bool up2), (6, .pointer d2), (10, .string s1), (11, .int .i64 fv1), (12, .slice (some ⟨B3, 0, none⟩) all_l all_c), (13, .int .i64 i5)] ((B3, .cells ⟨cs⟩ 3) :: F9) [] w0 (nrm R)

theorem AllSurvive_c0_vc (size2 : Int) (l1_p : Option Addr) (l1_l : Nat) (l1_c : Nat) (up : Bool) (d : Option Addr) (i : Int) (F2 : SHeap) {R : Ending → World → Prop} {w0 : World}
    (H :
      ((i < (l1_l : Int)) →
        ((i < (60 : Int)) →
          ∃ l1_pb l1_po : Nat, l1_p = some ⟨l1_pb, l1_po, none⟩ ∧
          (0 ≤ i ∧ i < l1_l) ∧
          ∃ (cw : List Value) (m_0 : Int) (m_1 : ByteArray) (m_2 : Bool), blkW w0 l1_pb = some cw ∧ ((cw.drop (l1_po + ((Int.toNat i) * 3))).take 3 = [.int .i64 m_0, .string m_1, .bool m_2] ∧ (l1_po + ((Int.toNat i) * 3)) + 3 ≤ cw.length) ∧
          CallH Try.prog 22 ⟨[.agg #[.int .i64 m_0, .string m_1, .bool m_2], .int .i64 size2]⟩ (F2) [] w0 (fun v L' => ∃ (r5_0 : Int) (r5_1 : ByteArray) (r5_2 : Bool), v = (.agg #[.int .i64 r5_0, .string r5_1, .bool r5_2]) ∧ L' = (F2) ∧
            ∀ B : Nat,
            CallH Try.prog 17 ⟨[.pointer d, .int .i64 r5_0, .string r5_1]⟩ ((B, .cells #[.int .i64 r5_0, .string r5_1, .bool r5_2] 42) :: F2) [] w0 (fun v L' => ∃ (r61 : Int) (F3 : SHeap), v = (.int .i64 r61) ∧ L' = ((B, .cells #[.int .i64 r5_0, .string r5_1, .bool r5_2] 42) :: F3) ∧
              ((¬ (r61 = (0 : Int))) →
                Fin R ((B, .cells #[.int .i64 r5_0, .string r5_1, .bool r5_2] 42) :: F3) [] w0 (.bool false)) ∧
               ((r61 = (0 : Int)) →
                ((r5_2 = true) →
                  CallH Try.prog 19 ⟨[.pointer d]⟩ ((B, .cells #[.int .i64 r5_0, .string r5_1, .bool r5_2] 42) :: F3) [] w0 (fun v L' => ∃ (r71 : Int) (F4 : SHeap), v = (.int .i64 r71) ∧ L' = ((B, .cells #[.int .i64 r5_0, .string r5_1, .bool r5_2] 42) :: F4) ∧
                    ((¬ (r71 = (0 : Int))) →
                      Fin R ((B, .cells #[.int .i64 r5_0, .string r5_1, .bool r5_2] 42) :: F4) [] w0 (.bool false)) ∧
                     ((r71 = (0 : Int)) →
                      ∀ i1 : Int, i1 = (IntKind.i64.wrap (i + (1 : Int))) →
                      AllSurvive_c0 size2 (some ⟨l1_pb, l1_po, none⟩) l1_l l1_c up d i1 F4 w0 R))) ∧
                 ((r5_2 = false) →
                  ∀ i2 : Int, i2 = (IntKind.i64.wrap (i + (1 : Int))) →
                  AllSurvive_c0 size2 (some ⟨l1_pb, l1_po, none⟩) l1_l l1_c up d i2 F3 w0 R))))) ∧
         ((¬ (i < (60 : Int))) →
          CallH Try.prog 13 ⟨[.pointer d, .int .i64 (0 : Int), .int .i64 size2]⟩ (F2) [] w0 (fun v L' => ∃ (r81 : ByteArray) (r91 : Int) (F5 : SHeap), v = (.tuple #[.string r81, .int .i64 r91]) ∧ L' = (F5) ∧
            AllSurvive_c1 size2 up d r81 r91 (0 : Int) F5 w0 R))) ∧
       ((¬ (i < (l1_l : Int))) →
        CallH Try.prog 13 ⟨[.pointer d, .int .i64 (0 : Int), .int .i64 size2]⟩ (F2) [] w0 (fun v L' => ∃ (r101 : ByteArray) (r111 : Int) (F7 : SHeap), v = (.tuple #[.string r101, .int .i64 r111]) ∧ L' = (F7) ∧
          AllSurvive_c1 size2 up d r101 r111 (0 : Int) F7 w0 R))) :
    AllSurvive_c0 size2 l1_p l1_l l1_c up d i F2 w0 R := by
  unfold AllSurvive_c0
  refine AtE.run 8 (fun W => by kernel_rfl) ?_
  refine AtE.splitP 35 (p := i < (l1_l : Int)) (by kernel_rfl) (fun h2' => ?_) (fun h2' => ?_)
  · replace H := H.1 h2'
    refine AtE.run 4 (fun W => by kernel_rfl) ?_
    refine AtE.splitP 38 (p := i < (60 : Int)) (by kernel_rfl) (fun h3' => ?_) (fun h3' => ?_)
    · replace H := H.1 h3'
      refine AtE.run 8 (fun W => by kernel_rfl) ?_
      obtain ⟨l1_pb, l1_po, rfl, H⟩ := H
      refine AtE.indexAddrL (E := 42) (b := l1_pb) (o := l1_po) (len := l1_l) (cap := l1_c) (sz := 3) (o' := (l1_po + ((Int.toNat i) * 3))) (kd := .i64) (i := i) (by kernel_rfl) H.1 (by omega) ?_
      replace H := H.2
      obtain ⟨cw, m_0, m_1, m_2, hw, hx, H⟩ := H
      refine AtE.loadW (b := l1_pb) (off := (l1_po + ((Int.toNat i) * 3))) (T := 42) (v := .agg #[.int .i64 m_0, .string m_1, .bool m_2]) (by kernel_rfl) List.not_mem_nil hw (valAt_agg hx.1 hx.2 (by kernel_rfl) (by kernel_rfl)) ?_
      refine AtE.run 1 (fun W => by kernel_rfl) ?_
      refine AtE.call 22 ⟨[.agg #[.int .i64 m_0, .string m_1, .bool m_2], .int .i64 size2]⟩ (fun W => by kernel_rfl) (by kernel_rfl) H ?_
      clear H
      rintro _ F2 ⟨r5_0, r5_1, r5_2, rfl, rfl, H⟩
      refine AtE.new (fun B => .pointer (some ⟨B, 0, none⟩)) (.cells #[.int .i64 (0 : Int), .string (⟨#[]⟩), .bool false] 42) (fun W => by kernel_rfl) (by kernel_rfl) (fun B => ?_)
      replace H := H B
      refine AtE.front ?_
      refine AtE.norm (k' := [.inRegion (regOps [.code (sub (Eng.body Try.f8) [1, 1, 1, 1, 1, 0, 1, 0, 0, 1, 0, 0, 0])]) [7], .code (sub (Eng.body Try.f8) [1, 1, 1, 1, 1, 0, 1, 0, 0, 1, 0, 0, 1]), .inBlock 1, .code (sub (Eng.body Try.f8) [1, 1, 1, 1, 1, 0, 1, 0, 0, 1, 1]), .inLoop (sub (Eng.body Try.f8) [1, 1, 1, 1, 1, 0, 1, 0, 0]), .inBlock 0, .code (sub (Eng.body Try.f8) [1, 1, 1, 1, 1, 1])]) (e' := [(0, .int .i64 size2), (1, .slice (some ⟨l1_pb, l1_po, none⟩) l1_l l1_c), (5, .bool up), (6, .pointer d), (8, .int .i64 i), (9, .pointer (some ⟨B, 0, none⟩)), (46, .agg #[.int .i64 r5_0, .string r5_1, .bool r5_2])]) (L' := ((B, .cells #[.int .i64 (0 : Int), .string (⟨#[]⟩), .bool false] 42) :: F2)) ?_ (by kernel_rfl)
      refine AtE.store 0 0 (T := 42) (v := .agg #[.int .i64 r5_0, .string r5_1, .bool r5_2]) (by kernel_rfl) ?_
      refine AtE.run 5 (fun W => by kernel_rfl) ?_
      refine AtE.load 0 0 (T := 3) (v := .int .i64 r5_0) (by kernel_rfl) ?_
      refine AtE.run 1 (fun W => by kernel_rfl) ?_
      refine AtE.load 0 1 (T := 9) (v := .string r5_1) (by kernel_rfl) ?_
      refine AtE.call 17 ⟨[.pointer d, .int .i64 r5_0, .string r5_1]⟩ (fun W => by kernel_rfl) (by kernel_rfl) H ?_
      clear H
      rintro _ _ ⟨r61, F3, rfl, rfl, H⟩
      refine AtE.run 2 (fun W => by kernel_rfl) ?_
      refine AtE.splitN 54 (p := r61 = (0 : Int)) (by kernel_rfl) (fun h4' => ?_) (fun h4' => ?_)
      · replace H := H.1 h4'
        refine AtE.run 14 (fun W => by kernel_rfl) ?_
        exact AtE.ret Try.func8 (by kernel_rfl) H
      · replace H := H.2 h4'
        refine AtE.run 1 (fun W => by kernel_rfl) ?_
        refine AtE.load 0 2 (T := 4) (v := .bool r5_2) (by kernel_rfl) ?_
        refine AtE.run 1 (fun W => by kernel_rfl) ?_
        refine AtE.split 57 (b := r5_2) (by kernel_rfl) (fun h5' => ?_) (fun h5' => ?_)
        · replace H := H.1 h5'
          refine AtE.norm (k' := [.inRegion (regOps [.code (sub (Eng.body Try.f8) [1, 1, 1, 1, 1, 0, 1, 0, 0, 1, 0, 0, 1, 0])]) [11, 12, 13, 14, 15], .code (sub (Eng.body Try.f8) [1, 1, 1, 1, 1, 0, 1, 0, 0, 1, 0, 0, 1, 1]), .inBlock 1, .code (sub (Eng.body Try.f8) [1, 1, 1, 1, 1, 0, 1, 0, 0, 1, 1]), .inLoop (sub (Eng.body Try.f8) [1, 1, 1, 1, 1, 0, 1, 0, 0]), .inBlock 0, .code (sub (Eng.body Try.f8) [1, 1, 1, 1, 1, 1])]) (e' := [(0, .int .i64 size2), (1, .slice (some ⟨l1_pb, l1_po, none⟩) l1_l l1_c), (5, .bool up), (6, .pointer d), (8, .int .i64 i), (54, .bool false), (57, .bool true)]) (L' := ((B, .cells #[.int .i64 r5_0, .string r5_1, .bool r5_2] 42) :: F3)) ?_ (by kernel_rfl)
          refine AtE.run 1 (fun W => by kernel_rfl) ?_
          refine AtE.call 19 ⟨[.pointer d]⟩ (fun W => by kernel_rfl) (by kernel_rfl) H ?_
          clear H
          rintro _ _ ⟨r71, F4, rfl, rfl, H⟩
          refine AtE.run 4 (fun W => by kernel_rfl) ?_
          refine AtE.splitN 62 (p := r71 = (0 : Int)) (by kernel_rfl) (fun h6' => ?_) (fun h6' => ?_)
          · replace H := H.1 h6'
            refine AtE.run 5 (fun W => by kernel_rfl) ?_
            exact AtE.ret Try.func8 (by kernel_rfl) H
          · replace H := H.2 h6'
            refine AtE.run 7 (fun W => by kernel_rfl) ?_
            refine AtE.letI 8 (kd := .i64) (n := (IntKind.i64.wrap (i + (1 : Int)))) (by kernel_rfl) (fun i1 hi1 => ?_)
            replace H := H i1 hi1
            refine AtE.run 2 (fun W => by kernel_rfl) ?_
            exact AtE.cutT [] 1 H (by kernel_rfl)
        · replace H := H.2 h5'
          refine AtE.norm (k' := [.inRegion (regOps [.code (sub (Eng.body Try.f8) [1, 1, 1, 1, 1, 0, 1, 0, 0, 1, 0, 0, 1, 0])]) [11, 12, 13, 14, 15], .code (sub (Eng.body Try.f8) [1, 1, 1, 1, 1, 0, 1, 0, 0, 1, 0, 0, 1, 1]), .inBlock 1, .code (sub (Eng.body Try.f8) [1, 1, 1, 1, 1, 0, 1, 0, 0, 1, 1]), .inLoop (sub (Eng.body Try.f8) [1, 1, 1, 1, 1, 0, 1, 0, 0]), .inBlock 0, .code (sub (Eng.body Try.f8) [1, 1, 1, 1, 1, 1])]) (e' := [(0, .int .i64 size2), (1, .slice (some ⟨l1_pb, l1_po, none⟩) l1_l l1_c), (5, .bool up), (6, .pointer d), (8, .int .i64 i), (54, .bool false), (57, .bool false)]) (L' := ((B, .cells #[.int .i64 r5_0, .string r5_1, .bool r5_2] 42) :: F3)) ?_ (by kernel_rfl)
          refine AtE.run 13 (fun W => by kernel_rfl) ?_
          refine AtE.letI 8 (kd := .i64) (n := (IntKind.i64.wrap (i + (1 : Int)))) (by kernel_rfl) (fun i2 hi2 => ?_)
          replace H := H i2 hi2
          refine AtE.run 2 (fun W => by kernel_rfl) ?_
          exact AtE.cutT [] 1 H (by kernel_rfl)
    · replace H := H.2 h3'
      refine AtE.run 6 (fun W => by kernel_rfl) ?_
      refine AtE.call 13 ⟨[.pointer d, .int .i64 (0 : Int), .int .i64 size2]⟩ (fun W => by kernel_rfl) (by kernel_rfl) H ?_
      clear H
      rintro _ F5 ⟨r81, r91, _, rfl, rfl, H⟩
      refine AtE.run 17 (fun W => by kernel_rfl) ?_
      exact AtE.cutT [] 0 H (by kernel_rfl)
  · replace H := H.2 h2'
    refine AtE.run 10 (fun W => by kernel_rfl) ?_
    refine AtE.call 13 ⟨[.pointer d, .int .i64 (0 : Int), .int .i64 size2]⟩ (fun W => by kernel_rfl) (by kernel_rfl) H ?_
    clear H
    rintro _ F7 ⟨r101, r111, _, rfl, rfl, H⟩
    refine AtE.run 17 (fun W => by kernel_rfl) ?_
    exact AtE.cutT [] 0 H (by kernel_rfl)

theorem AllSurvive_c1_vc (size3 : Int) (up1 : Bool) (d1 : Option Addr) (s : ByteArray) (fv : Int) (i3 : Int) (F6 : SHeap) {R : Ending → World → Prop} {w0 : World}
    (H :
      CallH Try.prog 16 ⟨[.pointer d1]⟩ (F6) [] w0 (fun v L' => ∃ (r121 : Int) (F8 : SHeap), v = (.int .i64 r121) ∧ L' = (F8) ∧
        ((i3 < r121) →
          ∀ B1 : Nat,
          ∀ (B2 cap : Nat) (r13 : List Value), 1 ≤ cap → (([.int .i64 i3] : List Value) ++ r13).length = cap * 1 →
          ∀ i4 : Int, i4 = (IntKind.i64.wrap (i3 + (1 : Int))) →
          AllSurvive_c2 B2 size3 up1 d1 s fv 1 cap i4 (([.int .i64 i3] : List Value) ++ r13) F8 w0 R) ∧
         ((¬ (i3 < r121)) →
          CallH Try.prog 21 ⟨[.pointer d1, .slice none 0 0, .int .i64 (-1 : Int)]⟩ (F8) [] w0 (fun v L' => ∃ (r141 : Int) (F10 : SHeap), v = (.int .i64 r141) ∧ L' = (F10) ∧
            CallH Try.prog 13 ⟨[.pointer d1, .int .i64 (0 : Int), .int .i64 size3]⟩ (F10) [] w0 (fun v L' => ∃ (r151 : ByteArray) (r161 : Int) (F11 : SHeap), v = (.tuple #[.string r151, .int .i64 r161]) ∧ L' = (F11) ∧
              CallH Try.prog 21 ⟨[.pointer d1, .slice none 0 0, .int .i64 (0 : Int)]⟩ (F11) [] w0 (fun v L' => ∃ (r171 : Int) (F12 : SHeap), v = (.int .i64 r171) ∧ L' = (F12) ∧
                CallH Try.prog 13 ⟨[.pointer d1, .int .i64 (0 : Int), .int .i64 size3]⟩ (F12) [] w0 (fun v L' => ∃ (r181 : ByteArray) (r191 : Int) (F13 : SHeap), v = (.tuple #[.string r181, .int .i64 r191]) ∧ L' = (F13) ∧
                  ((up1 = true) →
                    ((fv = (0 : Int)) →
                      ((r141 = (0 : Int)) →
                        ((r161 = (0 : Int)) →
                          ((r171 = (0 : Int)) →
                            ((r191 = (0 : Int)) →
                              ((s = r151) →
                                Fin R (F13) [] w0 (.bool (s.toList == r181.toList))) ∧
                               ((¬ s = r151) →
                                Fin R (F13) [] w0 (.bool false))) ∧
                             ((¬ (r191 = (0 : Int))) →
                              Fin R (F13) [] w0 (.bool false))) ∧
                           ((¬ (r171 = (0 : Int))) →
                            Fin R (F13) [] w0 (.bool false))) ∧
                         ((¬ (r161 = (0 : Int))) →
                          Fin R (F13) [] w0 (.bool false))) ∧
                       ((¬ (r141 = (0 : Int))) →
                        Fin R (F13) [] w0 (.bool false))) ∧
                     ((¬ (fv = (0 : Int))) →
                      Fin R (F13) [] w0 (.bool false))) ∧
                   ((up1 = false) →
                    Fin R (F13) [] w0 (.bool false))))))))) :
    AllSurvive_c1 size3 up1 d1 s fv i3 F6 w0 R := by
  unfold AllSurvive_c1
  refine AtE.run 5 (fun W => by kernel_rfl) ?_
  refine AtE.call 16 ⟨[.pointer d1]⟩ (fun W => by kernel_rfl) (by kernel_rfl) H ?_
  clear H
  rintro _ F8 ⟨r121, _, rfl, rfl, H⟩
  refine AtE.run 2 (fun W => by kernel_rfl) ?_
  refine AtE.splitP 72 (p := i3 < r121) (by kernel_rfl) (fun h7' => ?_) (fun h7' => ?_)
  · replace H := H.1 h7'
    refine AtE.run 7 (fun W => by kernel_rfl) ?_
    refine AtE.new (fun B => .slice (some ⟨B, 0, none⟩) 1 1) (.cells #[.int .i64 i3] 3) (fun W => by kernel_rfl) (by kernel_rfl) (fun B1 => ?_)
    replace H := H B1
    refine AtE.front ?_
    refine AtE.appendN (T := 32) (E := 3) (z := .int .i64 (0 : Int)) (sz := 1) (bytes := 8) (a := ⟨B1, 0, none⟩) (m := 1) (c := 1) ([.int .i64 i3] : List Value) (by kernel_rfl) (show Src _ _ _ _ ([.int .i64 i3] : List Value) from Src.own (j := 0) (o := 0) (n := 1) (c := ([.int .i64 i3] : List Value)) (by kernel_rfl)) (by simp) (by omega) (by omega) (fun B2 cap r13 h1 h2 => ?_)
    replace H := H B2 cap r13 h1 h2
    refine AtE.front ?_
    refine AtE.run 7 (fun W => by kernel_rfl) ?_
    refine AtE.letI 13 (kd := .i64) (n := (IntKind.i64.wrap (i3 + (1 : Int)))) (by kernel_rfl) (fun i4 hi4 => ?_)
    replace H := H i4 hi4
    refine AtE.run 2 (fun W => by kernel_rfl) ?_
    exact AtE.cutT [0] 2 H (by kernel_rfl)
  · replace H := H.2 h7'
    refine AtE.run 6 (fun W => by kernel_rfl) ?_
    refine AtE.call 21 ⟨[.pointer d1, .slice none 0 0, .int .i64 (-1 : Int)]⟩ (fun W => by kernel_rfl) (by kernel_rfl) H ?_
    clear H
    rintro _ F10 ⟨r141, _, rfl, rfl, H⟩
    refine AtE.run 6 (fun W => by kernel_rfl) ?_
    refine AtE.call 13 ⟨[.pointer d1, .int .i64 (0 : Int), .int .i64 size3]⟩ (fun W => by kernel_rfl) (by kernel_rfl) H ?_
    clear H
    rintro _ F11 ⟨r151, r161, _, rfl, rfl, H⟩
    refine AtE.run 9 (fun W => by kernel_rfl) ?_
    refine AtE.call 21 ⟨[.pointer d1, .slice none 0 0, .int .i64 (0 : Int)]⟩ (fun W => by kernel_rfl) (by kernel_rfl) H ?_
    clear H
    rintro _ F12 ⟨r171, _, rfl, rfl, H⟩
    refine AtE.run 6 (fun W => by kernel_rfl) ?_
    refine AtE.call 13 ⟨[.pointer d1, .int .i64 (0 : Int), .int .i64 size3]⟩ (fun W => by kernel_rfl) (by kernel_rfl) H ?_
    clear H
    rintro _ F13 ⟨r181, r191, _, rfl, rfl, H⟩
    refine AtE.run 10 (fun W => by kernel_rfl) ?_
    refine AtE.split 97 (b := up1) (by kernel_rfl) (fun h8' => ?_) (fun h8' => ?_)
    · replace H := H.1 h8'
      refine AtE.norm (k' := [.inRegion (regOps [.code (sub (Eng.body Try.f8) [1, 1, 1, 1, 1, 1, 1, 1, 1, 1, 1, 1, 1, 0])]) [2, 3, 4, 5, 6, 7, 8, 9, 10, 11, 12, 13, 14, 15, 16, 17, 18, 19, 20, 21, 22, 23, 24, 25, 26, 27, 28, 29, 30, 31], .code (sub (Eng.body Try.f8) [1, 1, 1, 1, 1, 1, 1, 1, 1, 1, 1, 1, 1, 1])]) (e' := [(10, .string s), (11, .int .i64 fv), (14, .int .i64 r141), (15, .string r151), (16, .int .i64 r161), (17, .int .i64 r171), (18, .string r181), (19, .int .i64 r191), (97, .bool true)]) (L' := (F13)) ?_ (by kernel_rfl)
      refine AtE.run 4 (fun W => by kernel_rfl) ?_
      refine AtE.splitP 101 (p := fv = (0 : Int)) (by kernel_rfl) (fun h9' => ?_) (fun h9' => ?_)
      · replace H := H.1 h9'
        refine AtE.run 4 (fun W => by kernel_rfl) ?_
        refine AtE.splitP 105 (p := r141 = (0 : Int)) (by kernel_rfl) (fun h10' => ?_) (fun h10' => ?_)
        · replace H := H.1 h10'
          refine AtE.run 4 (fun W => by kernel_rfl) ?_
          refine AtE.splitP 109 (p := r161 = (0 : Int)) (by kernel_rfl) (fun h11' => ?_) (fun h11' => ?_)
          · replace H := H.1 h11'
            refine AtE.run 4 (fun W => by kernel_rfl) ?_
            refine AtE.splitP 113 (p := r171 = (0 : Int)) (by kernel_rfl) (fun h12' => ?_) (fun h12' => ?_)
            · replace H := H.1 h12'
              refine AtE.run 4 (fun W => by kernel_rfl) ?_
              refine AtE.splitP 117 (p := r191 = (0 : Int)) (by kernel_rfl) (fun h13' => ?_) (fun h13' => ?_)
              · replace H := H.1 h13'
                refine AtE.run 5 (fun W => by kernel_rfl) ?_
                refine AtE.splitS 122 (x := s) (y := r151) (by kernel_rfl) (fun h14' => ?_) (fun h14' => ?_)
                · replace H := H.1 h14'
                  refine AtE.run 6 (fun W => by kernel_rfl) ?_
                  exact AtE.ret Try.func8 (by kernel_rfl) H
                · replace H := H.2 h14'
                  refine AtE.run 6 (fun W => by kernel_rfl) ?_
                  exact AtE.ret Try.func8 (by kernel_rfl) H
              · replace H := H.2 h13'
                refine AtE.run 11 (fun W => by kernel_rfl) ?_
                exact AtE.ret Try.func8 (by kernel_rfl) H
            · replace H := H.2 h12'
              refine AtE.run 15 (fun W => by kernel_rfl) ?_
              exact AtE.ret Try.func8 (by kernel_rfl) H
          · replace H := H.2 h11'
            refine AtE.run 19 (fun W => by kernel_rfl) ?_
            exact AtE.ret Try.func8 (by kernel_rfl) H
        · replace H := H.2 h10'
          refine AtE.run 23 (fun W => by kernel_rfl) ?_
          exact AtE.ret Try.func8 (by kernel_rfl) H
      · replace H := H.2 h9'
        refine AtE.run 27 (fun W => by kernel_rfl) ?_
        exact AtE.ret Try.func8 (by kernel_rfl) H
    · replace H := H.2 h8'
      refine AtE.norm (k' := [.inRegion (regOps [.code (sub (Eng.body Try.f8) [1, 1, 1, 1, 1, 1, 1, 1, 1, 1, 1, 1, 1, 0])]) [2, 3, 4, 5, 6, 7, 8, 9, 10, 11, 12, 13, 14, 15, 16, 17, 18, 19, 20, 21, 22, 23, 24, 25, 26, 27, 28, 29, 30, 31], .code (sub (Eng.body Try.f8) [1, 1, 1, 1, 1, 1, 1, 1, 1, 1, 1, 1, 1, 1])]) (e' := [(10, .string s), (11, .int .i64 fv), (14, .int .i64 r141), (15, .string r151), (16, .int .i64 r161), (17, .int .i64 r171), (18, .string r181), (19, .int .i64 r191), (97, .bool false)]) (L' := (F13)) ?_ (by kernel_rfl)
      refine AtE.run 31 (fun W => by kernel_rfl) ?_
      exact AtE.ret Try.func8 (by kernel_rfl) H

theorem AllSurvive_c2_vc (B3 : Nat) (size4 : Int) (up2 : Bool) (d2 : Option Addr) (s1 : ByteArray) (fv1 : Int) (all_l : Nat) (all_c : Nat) (i5 : Int) (cs : List Value) (F9 : SHeap) {R : Ending → World → Prop} {w0 : World}
    (H :
      CallH Try.prog 16 ⟨[.pointer d2]⟩ ((B3, .cells ⟨cs⟩ 3) :: F9) [] w0 (fun v L' => ∃ (r201 : Int) (F14 : SHeap), v = (.int .i64 r201) ∧ L' = ((B3, .cells ⟨cs⟩ 3) :: F14) ∧
        ((i5 < r201) →
          ∀ B4 : Nat,
          (all_l ≤ all_c ∧ (cs).length = all_c * 1) ∧ ((all_l + 1) ≤ 9223372036854775807 ∧ (all_l + 1) * 8 ≤ 140737488355328) ∧
          ∀ (B5 cap1 : Nat) (r22 : List Value), (all_l + 1) ≤ cap1 → ((cs).take (all_l * 1) ++ ([.int .i64 i5] : List Value) ++ r22).length = cap1 * 1 →
          ∀ i6 : Int, i6 = (IntKind.i64.wrap (i5 + (1 : Int))) →
          AllSurvive_c2 B5 size4 up2 d2 s1 fv1 (all_l + 1) cap1 i6 ((cs).take (all_l * 1) ++ ([.int .i64 i5] : List Value) ++ r22) F14 w0 R) ∧
         ((¬ (i5 < r201)) →
          CallH Try.prog 21 ⟨[.pointer d2, .slice (some ⟨B3, 0, none⟩) all_l all_c, .int .i64 (-1 : Int)]⟩ ((B3, .cells ⟨cs⟩ 3) :: F14) [] w0 (fun v L' => ∃ (r231 : Int) (F15 : SHeap), v = (.int .i64 r231) ∧ L' = ((B3, .cells ⟨cs⟩ 3) :: F15) ∧
            CallH Try.prog 13 ⟨[.pointer d2, .int .i64 (0 : Int), .int .i64 size4]⟩ ((B3, .cells ⟨cs⟩ 3) :: F15) [] w0 (fun v L' => ∃ (r241 : ByteArray) (r251 : Int) (F16 : SHeap), v = (.tuple #[.string r241, .int .i64 r251]) ∧ L' = ((B3, .cells ⟨cs⟩ 3) :: F16) ∧
              CallH Try.prog 21 ⟨[.pointer d2, .slice none 0 0, .int .i64 (0 : Int)]⟩ ((B3, .cells ⟨cs⟩ 3) :: F16) [] w0 (fun v L' => ∃ (r261 : Int) (F17 : SHeap), v = (.int .i64 r261) ∧ L' = ((B3, .cells ⟨cs⟩ 3) :: F17) ∧
                CallH Try.prog 13 ⟨[.pointer d2, .int .i64 (0 : Int), .int .i64 size4]⟩ ((B3, .cells ⟨cs⟩ 3) :: F17) [] w0 (fun v L' => ∃ (r271 : ByteArray) (r281 : Int) (F18 : SHeap), v = (.tuple #[.string r271, .int .i64 r281]) ∧ L' = ((B3, .cells ⟨cs⟩ 3) :: F18) ∧
                  ((up2 = true) →
                    ((fv1 = (0 : Int)) →
                      ((r231 = (0 : Int)) →
                        ((r251 = (0 : Int)) →
                          ((r261 = (0 : Int)) →
                            ((r281 = (0 : Int)) →
                              ((s1 = r241) →
                                Fin R ((B3, .cells ⟨cs⟩ 3) :: F18) [] w0 (.bool (s1.toList == r271.toList))) ∧
                               ((¬ s1 = r241) →
                                Fin R ((B3, .cells ⟨cs⟩ 3) :: F18) [] w0 (.bool false))) ∧
                             ((¬ (r281 = (0 : Int))) →
                              Fin R ((B3, .cells ⟨cs⟩ 3) :: F18) [] w0 (.bool false))) ∧
                           ((¬ (r261 = (0 : Int))) →
                            Fin R ((B3, .cells ⟨cs⟩ 3) :: F18) [] w0 (.bool false))) ∧
                         ((¬ (r251 = (0 : Int))) →
                          Fin R ((B3, .cells ⟨cs⟩ 3) :: F18) [] w0 (.bool false))) ∧
                       ((¬ (r231 = (0 : Int))) →
                        Fin R ((B3, .cells ⟨cs⟩ 3) :: F18) [] w0 (.bool false))) ∧
                     ((¬ (fv1 = (0 : Int))) →
                      Fin R ((B3, .cells ⟨cs⟩ 3) :: F18) [] w0 (.bool false))) ∧
                   ((up2 = false) →
                    Fin R ((B3, .cells ⟨cs⟩ 3) :: F18) [] w0 (.bool false))))))))) :
    AllSurvive_c2 B3 size4 up2 d2 s1 fv1 all_l all_c i5 cs F9 w0 R := by
  unfold AllSurvive_c2
  refine AtE.run 5 (fun W => by kernel_rfl) ?_
  refine AtE.call 16 ⟨[.pointer d2]⟩ (fun W => by kernel_rfl) (by kernel_rfl) H ?_
  clear H
  rintro _ _ ⟨r201, F14, rfl, rfl, H⟩
  refine AtE.run 2 (fun W => by kernel_rfl) ?_
  refine AtE.splitP 72 (p := i5 < r201) (by kernel_rfl) (fun h15' => ?_) (fun h15' => ?_)
  · replace H := H.1 h15'
    refine AtE.run 7 (fun W => by kernel_rfl) ?_
    refine AtE.new (fun B => .slice (some ⟨B, 0, none⟩) 1 1) (.cells #[.int .i64 i5] 3) (fun W => by kernel_rfl) (by kernel_rfl) (fun B4 => ?_)
    replace H := H B4
    refine AtE.front ?_
    refine AtE.appendO 1 (T := 32) (E := 3) (z := .int .i64 (0 : Int)) (sz := 1) (bytes := 8) (n := all_l) (cap := all_c) (a := ⟨B4, 0, none⟩) (m := 1) (c := 1) (cs := cs) ([.int .i64 i5] : List Value) (by kernel_rfl) (show Src _ _ _ _ ([.int .i64 i5] : List Value) from Src.own (j := 0) (o := 0) (n := 1) (c := ([.int .i64 i5] : List Value)) (by kernel_rfl)) (by simp) (by simp [Value.oneCell']) H.1 H.2.1 (fun B5 cap1 r22 h1 h2 => ?_)
    replace H := H.2.2 B5 cap1 r22 h1 h2
    refine AtE.front ?_
    refine AtE.run 7 (fun W => by kernel_rfl) ?_
    refine AtE.letI 13 (kd := .i64) (n := (IntKind.i64.wrap (i5 + (1 : Int)))) (by kernel_rfl) (fun i6 hi6 => ?_)
    replace H := H i6 hi6
    refine AtE.run 2 (fun W => by kernel_rfl) ?_
    exact AtE.cutT [0] 2 H (by kernel_rfl)
  · replace H := H.2 h15'
    refine AtE.run 6 (fun W => by kernel_rfl) ?_
    refine AtE.call 21 ⟨[.pointer d2, .slice (some ⟨B3, 0, none⟩) all_l all_c, .int .i64 (-1 : Int)]⟩ (fun W => by kernel_rfl) (by kernel_rfl) H ?_
    clear H
    rintro _ _ ⟨r231, F15, rfl, rfl, H⟩
    refine AtE.run 6 (fun W => by kernel_rfl) ?_
    refine AtE.call 13 ⟨[.pointer d2, .int .i64 (0 : Int), .int .i64 size4]⟩ (fun W => by kernel_rfl) (by kernel_rfl) H ?_
    clear H
    rintro _ _ ⟨r241, r251, F16, rfl, rfl, H⟩
    refine AtE.run 9 (fun W => by kernel_rfl) ?_
    refine AtE.call 21 ⟨[.pointer d2, .slice none 0 0, .int .i64 (0 : Int)]⟩ (fun W => by kernel_rfl) (by kernel_rfl) H ?_
    clear H
    rintro _ _ ⟨r261, F17, rfl, rfl, H⟩
    refine AtE.run 6 (fun W => by kernel_rfl) ?_
    refine AtE.call 13 ⟨[.pointer d2, .int .i64 (0 : Int), .int .i64 size4]⟩ (fun W => by kernel_rfl) (by kernel_rfl) H ?_
    clear H
    rintro _ _ ⟨r271, r281, F18, rfl, rfl, H⟩
    refine AtE.run 10 (fun W => by kernel_rfl) ?_
    refine AtE.split 97 (b := up2) (by kernel_rfl) (fun h16' => ?_) (fun h16' => ?_)
    · replace H := H.1 h16'
      refine AtE.norm (k' := [.inRegion (regOps [.code (sub (Eng.body Try.f8) [1, 1, 1, 1, 1, 1, 1, 1, 1, 1, 1, 1, 1, 0])]) [2, 3, 4, 5, 6, 7, 8, 9, 10, 11, 12, 13, 14, 15, 16, 17, 18, 19, 20, 21, 22, 23, 24, 25, 26, 27, 28, 29, 30, 31], .code (sub (Eng.body Try.f8) [1, 1, 1, 1, 1, 1, 1, 1, 1, 1, 1, 1, 1, 1])]) (e' := [(10, .string s1), (11, .int .i64 fv1), (14, .int .i64 r231), (15, .string r241), (16, .int .i64 r251), (17, .int .i64 r261), (18, .string r271), (19, .int .i64 r281), (97, .bool true)]) (L' := ((B3, .cells ⟨cs⟩ 3) :: F18)) ?_ (by kernel_rfl)
      refine AtE.run 4 (fun W => by kernel_rfl) ?_
      refine AtE.splitP 101 (p := fv1 = (0 : Int)) (by kernel_rfl) (fun h17' => ?_) (fun h17' => ?_)
      · replace H := H.1 h17'
        refine AtE.run 4 (fun W => by kernel_rfl) ?_
        refine AtE.splitP 105 (p := r231 = (0 : Int)) (by kernel_rfl) (fun h18' => ?_) (fun h18' => ?_)
        · replace H := H.1 h18'
          refine AtE.run 4 (fun W => by kernel_rfl) ?_
          refine AtE.splitP 109 (p := r251 = (0 : Int)) (by kernel_rfl) (fun h19' => ?_) (fun h19' => ?_)
          · replace H := H.1 h19'
            refine AtE.run 4 (fun W => by kernel_rfl) ?_
            refine AtE.splitP 113 (p := r261 = (0 : Int)) (by kernel_rfl) (fun h20' => ?_) (fun h20' => ?_)
            · replace H := H.1 h20'
              refine AtE.run 4 (fun W => by kernel_rfl) ?_
              refine AtE.splitP 117 (p := r281 = (0 : Int)) (by kernel_rfl) (fun h21' => ?_) (fun h21' => ?_)
              · replace H := H.1 h21'
                refine AtE.run 5 (fun W => by kernel_rfl) ?_
                refine AtE.splitS 122 (x := s1) (y := r241) (by kernel_rfl) (fun h22' => ?_) (fun h22' => ?_)
                · replace H := H.1 h22'
                  refine AtE.run 6 (fun W => by kernel_rfl) ?_
                  exact AtE.ret Try.func8 (by kernel_rfl) H
                · replace H := H.2 h22'
                  refine AtE.run 6 (fun W => by kernel_rfl) ?_
                  exact AtE.ret Try.func8 (by kernel_rfl) H
              · replace H := H.2 h21'
                refine AtE.run 11 (fun W => by kernel_rfl) ?_
                exact AtE.ret Try.func8 (by kernel_rfl) H
            · replace H := H.2 h20'
              refine AtE.run 15 (fun W => by kernel_rfl) ?_
              exact AtE.ret Try.func8 (by kernel_rfl) H
          · replace H := H.2 h19'
            refine AtE.run 19 (fun W => by kernel_rfl) ?_
            exact AtE.ret Try.func8 (by kernel_rfl) H
        · replace H := H.2 h18'
          refine AtE.run 23 (fun W => by kernel_rfl) ?_
          exact AtE.ret Try.func8 (by kernel_rfl) H
      · replace H := H.2 h17'
        refine AtE.run 27 (fun W => by kernel_rfl) ?_
        exact AtE.ret Try.func8 (by kernel_rfl) H
    · replace H := H.2 h16'
      refine AtE.norm (k' := [.inRegion (regOps [.code (sub (Eng.body Try.f8) [1, 1, 1, 1, 1, 1, 1, 1, 1, 1, 1, 1, 1, 0])]) [2, 3, 4, 5, 6, 7, 8, 9, 10, 11, 12, 13, 14, 15, 16, 17, 18, 19, 20, 21, 22, 23, 24, 25, 26, 27, 28, 29, 30, 31], .code (sub (Eng.body Try.f8) [1, 1, 1, 1, 1, 1, 1, 1, 1, 1, 1, 1, 1, 1])]) (e' := [(10, .string s1), (11, .int .i64 fv1), (14, .int .i64 r231), (15, .string r241), (16, .int .i64 r251), (17, .int .i64 r261), (18, .string r271), (19, .int .i64 r281), (97, .bool false)]) (L' := ((B3, .cells ⟨cs⟩ 3) :: F18)) ?_ (by kernel_rfl)
      refine AtE.run 31 (fun W => by kernel_rfl) ?_
      exact AtE.ret Try.func8 (by kernel_rfl) H

theorem AllSurvive_vc (size : Int) (l_p : Option Addr) (l_l : Nat) (l_c : Nat) (F : SHeap) {R : Ending → World → Prop} {w0 W : World} (hm : Mem (F) [] w0 W)
    (H :
      CallH Try.prog 11 ⟨[]⟩ (F) [] w0 (fun v L' => ∃ (r1 : Bool), v = (.bool r1) ∧ L' = (F) ∧
        CallH Try.prog 14 ⟨[.int .i64 size, .int .i64 (300 : Int)]⟩ (F) [] w0 (fun v L' => ∃ (r21 : Int), v = (.int .i64 r21) ∧ L' = (F) ∧
          ∀ size1 : Int, size1 = (IntKind.i64.wrap ((1 : Int) + r21)) →
          CallH Try.prog 12 ⟨[.int .i64 size1]⟩ (F) [] w0 (fun v L' => ∃ (r31 : Option Addr) (r41 : Int) (F1 : SHeap), v = (.tuple #[.pointer r31, .int .i64 r41]) ∧ L' = (F1) ∧
            ((¬ (r41 = (0 : Int))) →
              Fin R (F1) [] w0 (.bool false)) ∧
             ((r41 = (0 : Int)) →
              AllSurvive_c0 size1 l_p l_l l_c r1 r31 (0 : Int) F1 w0 R))))) :
    Calls Try.prog 8 ⟨[.int .i64 size, .slice l_p l_l l_c]⟩ W R := by
  refine AtE.calls (nt := 127) Try.func8 (by kernel_rfl) hm ?_
  refine AtE.run 6 (fun W => by kernel_rfl) ?_
  refine AtE.call 11 ⟨[]⟩ (fun W => by kernel_rfl) (by kernel_rfl) H ?_
  clear H
  rintro _ F ⟨r1, rfl, rfl, H⟩
  refine AtE.run 5 (fun W => by kernel_rfl) ?_
  refine AtE.call 14 ⟨[.int .i64 size, .int .i64 (300 : Int)]⟩ (fun W => by kernel_rfl) (by kernel_rfl) H ?_
  clear H
  rintro _ F ⟨r21, rfl, rfl, H⟩
  refine AtE.run 2 (fun W => by kernel_rfl) ?_
  refine AtE.letI 0 (kd := .i64) (n := (IntKind.i64.wrap ((1 : Int) + r21))) (by kernel_rfl) (fun size1 hsize1 => ?_)
  replace H := H size1 hsize1
  refine AtE.run 4 (fun W => by kernel_rfl) ?_
  refine AtE.call 12 ⟨[.int .i64 size1]⟩ (fun W => by kernel_rfl) (by kernel_rfl) H ?_
  clear H
  rintro _ F1 ⟨r31, r41, _, rfl, rfl, H⟩
  refine AtE.run 12 (fun W => by kernel_rfl) ?_
  refine AtE.splitN 30 (p := r41 = (0 : Int)) (by kernel_rfl) (fun h1' => ?_) (fun h1' => ?_)
  · replace H := H.1 h1'
    refine AtE.run 5 (fun W => by kernel_rfl) ?_
    exact AtE.ret Try.func8 (by kernel_rfl) H
  · replace H := H.2 h1'
    refine AtE.run 9 (fun W => by kernel_rfl) ?_
    exact AtE.cutT [] 0 H (by kernel_rfl)

end Go.Eng
