/- A part of the proof: the engine by which functions are walked, verification conditions that a program of the prover wrote, contracts and plain laws; no claim of its own. -/
import Derived.Test.YtobhboeiheeghaaDoorChecked
import Derived.Test.YtobhboeiheeghaaDoorDecC
namespace Go.Eng
open Go Go.RowKit Go.Proofs
set_option linter.unusedVariables false
set_option maxRecDepth 100000
noncomputable abbrev EngB8s27 := sub (Eng.body Tryd.f27)
noncomputable abbrev EngB8s34 := sub (Eng.body Tryd.f34)
noncomputable abbrev EngB8s48 := sub (Eng.body Tryd.f48)
abbrev EngB8m0 : Obj := .map #[{ key := .int .i64 (1 : Int), val := .agg #[.func (.func 64) #[] #[], .bool false, .func (.func 66) #[] #[]], born := 0 }, { key := .int .i64 (2 : Int), val := .agg #[.func (.func 64) #[] #[], .bool false, .func (.func 67) #[] #[]], born := 1 }, { key := .int .i64 (3 : Int), val := .agg #[.func (.func 65) #[] #[], .bool true, .func (.func 69) #[] #[]], born := 2 }, { key := .int .i64 (4 : Int), val := .agg #[.func (.func 64) #[] #[], .bool false, .func (.func 70) #[] #[]], born := 3 }, { key := .int .i64 (5 : Int), val := .agg #[.func (.func 71) #[] #[], .bool false, .func (.func 72) #[] #[]], born := 4 }] 5
def putInts_c0 (out_b : Nat) (t8_p : Option Addr) (t8_l : Nat) (t8_c : Nat) (t9 : Int) (t10 : Int) (F1 : SHeap) (S : List Nat) (w0 : World) (R : Ending → World → Prop) : Prop :=
 AtE Tryd.prog 48 23 [.code (EngB8s48 [1,0,0]), .inLoop (EngB8s48 [1,0,0]), .inBlock 0] [(0, .pointer (some ⟨out_b, 0, none⟩)), (8, .slice t8_p t8_l t8_c), (9, .int .i64 t9), (10, .int .i64 t10)] (F1) S w0 (nrm R)
theorem putInts_c0_vc (out_b : Nat) (t8_p : Option Addr) (t8_l : Nat) (t8_c : Nat) (t9 : Int) (t10 : Int) (F1 : SHeap) {R : Ending → World → Prop} {S : List Nat} {w0 : World}
  (H :
   ((t10 < t9) →
    ∃ t8_pb t8_po : Nat, t8_p = some ⟨t8_pb, t8_po, none⟩ ∧
    (0 ≤ t10 ∧ t10 < t8_l) ∧
    ∃ (cw : List Value) (m1 : Int), t8_pb ∉ S ∧ blkW w0 t8_pb = some cw ∧ cw[(t8_po + (Int.toNat t10))]? = some (.int .i64 m1) ∧
    CallH Tryd.prog 74 ⟨[.int .i64 m1]⟩ (F1) S w0 (fun v L' => ∃ (r1 : ByteArray) (r21 : Int), v = (.tuple #[.string r1, .int .i64 r21]) ∧ L' = (F1) ∧
     CallH Tryd.prog 50 ⟨[.pointer (some ⟨out_b, 0, none⟩), .string r1]⟩ (F1) S w0 (fun v L' => ∃ (r31 : Int) (r41 : Value) (F2 : SHeap), v = (.tuple #[.int .i64 r31, r41]) ∧ L' = (F2) ∧
      putInts_c0 out_b (some ⟨t8_pb, t8_po, none⟩) t8_l t8_c t9 (IntKind.i64.wrap (t10 + (1 : Int))) F2 S w0 R))) ∧
    ((¬ (t10 < t9)) →
    Fin R (F1) S w0 (.tuple #[]))) :
  putInts_c0 out_b t8_p t8_l t8_c t9 t10 F1 S w0 R := by
 unfold putInts_c0
 refine AtE.run 5 (fun W => by kernel_rfl) ?_
 refine AtE.splitP 11 (p := t10 < t9) (by kernel_rfl) (fun h1' => ?_) (fun h1' => ?_)
 ·replace H := H.1 h1'
  refine AtE.run 6 (fun W => by kernel_rfl) ?_
  obtain ⟨t8_pb, t8_po, rfl, H⟩ := H
  refine AtE.indexAddrL (E := 3) (b := t8_pb) (o := t8_po) (len := t8_l) (cap := t8_c) (sz := 1) (o' := (t8_po + (Int.toNat t10))) (kd := .i64) (i := t10) (by kernel_rfl) H.1 (by omega) ?_
  replace H := H.2
  obtain ⟨cw, m1, hs, hw, hx, H⟩ := H
  refine AtE.loadW (b := t8_pb) (off := (t8_po + (Int.toNat t10))) (T := 3) (v := .int .i64 m1) (by kernel_rfl) hs hw (valAt_one hx (by kernel_rfl)) ?_
  refine AtE.run 5 (fun W => by kernel_rfl) ?_
  refine AtE.call 74 ⟨[.int .i64 m1]⟩ (fun W => by kernel_rfl) (by kernel_rfl) H ?_
  clear H
  rintro _ F1 ⟨r1, r21, rfl, rfl, H⟩
  refine AtE.run 9 (fun W => by kernel_rfl) ?_
  refine AtE.call 50 ⟨[.pointer (some ⟨out_b, 0, none⟩), .string r1]⟩ (fun W => by kernel_rfl) (by kernel_rfl) H ?_
  clear H
  rintro _ F2 ⟨r31, r41, _, rfl, rfl, H⟩
  refine AtE.run 7 (fun W => by kernel_rfl) ?_
  exact AtE.cutT [] 0 H (by kernel_rfl)
 ·replace H := H.2 h1'
  refine AtE.run 2 (fun W => by kernel_rfl) ?_
  exact AtE.ret Tryd.func48 (by kernel_rfl) H
theorem putInts_vc (B : Nat) (numbers_p : Option Addr) (numbers_l : Nat) (numbers_c : Nat) (F : SHeap) {R : Ending → World → Prop} {S : List Nat} {w0 W : World} (hm : Mem (F) S w0 W)
  (H :
   putInts_c0 B numbers_p numbers_l numbers_c (numbers_l : Int) (0 : Int) F S w0 R) :
  Calls Tryd.prog 48 ⟨[.pointer (some ⟨B, 0, none⟩), .slice numbers_p numbers_l numbers_c]⟩ W R := by
 refine AtE.calls (nt := 23) Tryd.func48 (by kernel_rfl) hm ?_
 refine AtE.run 8 (fun W => by kernel_rfl) ?_
 exact AtE.cutT [] 0 H (by kernel_rfl)
def encode_c0 (out_b : Nat) (t16_p : Option Addr) (t16_l : Nat) (t16_c : Nat) (t17 : Int) (t18 : Int) (F1 : SHeap) (w0 : World) (R : Ending → World → Prop) : Prop :=
 AtE Tryd.prog 27 63 [.code (EngB8s27 [1,1,1,1,0,1,0,0]), .inLoop (EngB8s27 [1,1,1,1,0,1,0,0]), .inBlock 0, .code (EngB8s27 [1,1,1,1,1])] [(4, .pointer (some ⟨out_b, 0, none⟩)), (16, .slice t16_p t16_l t16_c), (17, .int .i64 t17), (18, .int .i64 t18)] (F1) [] w0 (nrm R)
theorem encode_c0_vc (out_b : Nat) (t16_p : Option Addr) (t16_l : Nat) (t16_c : Nat) (t17 : Int) (t18 : Int) (F1 : SHeap) {R : Ending → World → Prop} {w0 : World}
  (H :
   ((t18 < t17) →
    ∃ t16_pb t16_po : Nat, t16_p = some ⟨t16_pb, t16_po, none⟩ ∧
    (0 ≤ t18 ∧ t18 < t16_l) ∧
    ∃ (cw : List Value) (m_0 : Int) (m_1 : Int) (m_2 : ByteArray) (m_3 : Int) (m_4 : Int) (m_5 : Int) (m_6_p : Option Addr) (m_6_l : Nat) (m_6_c : Nat) (m_7 : Int) (m_8 : Int), blkW w0 t16_pb = some cw ∧ ((cw.drop (t16_po + ((Int.toNat t18) * 9))).take 9 = [.int .i64 m_0, .int .i64 m_1, .string m_2, .int .i64 m_3, .int .i64 m_4, .int .i64 m_5, .slice m_6_p m_6_l m_6_c, .int .i64 m_7, .int .i64 m_8] ∧ (t16_po + ((Int.toNat t18) * 9)) + 9 ≤ cw.length) ∧
    ∀ B2 : Nat,
    ∀ B3 : Nat,
    CallH Tryd.prog 48 ⟨[.pointer (some ⟨out_b, 0, none⟩), .slice (some ⟨B3, 0, none⟩) 2 2]⟩ ((B3, .cells #[.int .i64 m_0, .int .i64 m_1] 3) :: (B2, .cells #[.int .i64 m_0, .int .i64 m_1, .string m_2, .int .i64 m_3, .int .i64 m_4, .int .i64 m_5, .slice m_6_p m_6_l m_6_c, .int .i64 m_7, .int .i64 m_8] 26) :: F1) [] w0 (fun v L' => ∃ (F2 : SHeap), v = (.tuple #[]) ∧ L' = ((B3, .cells #[.int .i64 m_0, .int .i64 m_1] 3) :: (B2, .cells #[.int .i64 m_0, .int .i64 m_1, .string m_2, .int .i64 m_3, .int .i64 m_4, .int .i64 m_5, .slice m_6_p m_6_l m_6_c, .int .i64 m_7, .int .i64 m_8] 26) :: F2) ∧
     CallH Tryd.prog 49 ⟨[.string m_2]⟩ ((B3, .cells #[.int .i64 m_0, .int .i64 m_1] 3) :: (B2, .cells #[.int .i64 m_0, .int .i64 m_1, .string m_2, .int .i64 m_3, .int .i64 m_4, .int .i64 m_5, .slice m_6_p m_6_l m_6_c, .int .i64 m_7, .int .i64 m_8] 26) :: F2) [] w0 (fun v L' => ∃ (r21 : ByteArray) (r31 : Int), v = (.tuple #[.string r21, .int .i64 r31]) ∧ L' = ((B3, .cells #[.int .i64 m_0, .int .i64 m_1] 3) :: (B2, .cells #[.int .i64 m_0, .int .i64 m_1, .string m_2, .int .i64 m_3, .int .i64 m_4, .int .i64 m_5, .slice m_6_p m_6_l m_6_c, .int .i64 m_7, .int .i64 m_8] 26) :: F2) ∧
      CallH Tryd.prog 50 ⟨[.pointer (some ⟨out_b, 0, none⟩), .string r21]⟩ ((B3, .cells #[.int .i64 m_0, .int .i64 m_1] 3) :: (B2, .cells #[.int .i64 m_0, .int .i64 m_1, .string m_2, .int .i64 m_3, .int .i64 m_4, .int .i64 m_5, .slice m_6_p m_6_l m_6_c, .int .i64 m_7, .int .i64 m_8] 26) :: F2) [] w0 (fun v L' => ∃ (r41 : Int) (r51 : Value) (F3 : SHeap), v = (.tuple #[.int .i64 r41, r51]) ∧ L' = ((B3, .cells #[.int .i64 m_0, .int .i64 m_1] 3) :: (B2, .cells #[.int .i64 m_0, .int .i64 m_1, .string m_2, .int .i64 m_3, .int .i64 m_4, .int .i64 m_5, .slice m_6_p m_6_l m_6_c, .int .i64 m_7, .int .i64 m_8] 26) :: F3) ∧
       ∀ B4 : Nat,
       CallH Tryd.prog 48 ⟨[.pointer (some ⟨out_b, 0, none⟩), .slice (some ⟨B4, 0, none⟩) 4 4]⟩ ((B4, .cells #[.int .i64 m_3, .int .i64 m_4, .int .i64 m_5, .int .i64 (m_6_l : Int)] 3) :: (B3, .cells #[.int .i64 m_0, .int .i64 m_1] 3) :: (B2, .cells #[.int .i64 m_0, .int .i64 m_1, .string m_2, .int .i64 m_3, .int .i64 m_4, .int .i64 m_5, .slice m_6_p m_6_l m_6_c, .int .i64 m_7, .int .i64 m_8] 26) :: F3) [] w0 (fun v L' => ∃ (F4 : SHeap), v = (.tuple #[]) ∧ L' = ((B4, .cells #[.int .i64 m_3, .int .i64 m_4, .int .i64 m_5, .int .i64 (m_6_l : Int)] 3) :: (B3, .cells #[.int .i64 m_0, .int .i64 m_1] 3) :: (B2, .cells #[.int .i64 m_0, .int .i64 m_1, .string m_2, .int .i64 m_3, .int .i64 m_4, .int .i64 m_5, .slice m_6_p m_6_l m_6_c, .int .i64 m_7, .int .i64 m_8] 26) :: F4) ∧
        CallH Tryd.prog 48 ⟨[.pointer (some ⟨out_b, 0, none⟩), .slice m_6_p m_6_l m_6_c]⟩ ((B4, .cells #[.int .i64 m_3, .int .i64 m_4, .int .i64 m_5, .int .i64 (m_6_l : Int)] 3) :: (B3, .cells #[.int .i64 m_0, .int .i64 m_1] 3) :: (B2, .cells #[.int .i64 m_0, .int .i64 m_1, .string m_2, .int .i64 m_3, .int .i64 m_4, .int .i64 m_5, .slice m_6_p m_6_l m_6_c, .int .i64 m_7, .int .i64 m_8] 26) :: F4) [] w0 (fun v L' => ∃ (F5 : SHeap), v = (.tuple #[]) ∧ L' = ((B4, .cells #[.int .i64 m_3, .int .i64 m_4, .int .i64 m_5, .int .i64 (m_6_l : Int)] 3) :: (B3, .cells #[.int .i64 m_0, .int .i64 m_1] 3) :: (B2, .cells #[.int .i64 m_0, .int .i64 m_1, .string m_2, .int .i64 m_3, .int .i64 m_4, .int .i64 m_5, .slice m_6_p m_6_l m_6_c, .int .i64 m_7, .int .i64 m_8] 26) :: F5) ∧
         ∀ B5 : Nat,
         CallH Tryd.prog 48 ⟨[.pointer (some ⟨out_b, 0, none⟩), .slice (some ⟨B5, 0, none⟩) 2 2]⟩ ((B5, .cells #[.int .i64 m_7, .int .i64 m_8] 3) :: (B4, .cells #[.int .i64 m_3, .int .i64 m_4, .int .i64 m_5, .int .i64 (m_6_l : Int)] 3) :: (B3, .cells #[.int .i64 m_0, .int .i64 m_1] 3) :: (B2, .cells #[.int .i64 m_0, .int .i64 m_1, .string m_2, .int .i64 m_3, .int .i64 m_4, .int .i64 m_5, .slice m_6_p m_6_l m_6_c, .int .i64 m_7, .int .i64 m_8] 26) :: F5) [] w0 (fun v L' => ∃ (F6 : SHeap), v = (.tuple #[]) ∧ L' = ((B5, .cells #[.int .i64 m_7, .int .i64 m_8] 3) :: (B4, .cells #[.int .i64 m_3, .int .i64 m_4, .int .i64 m_5, .int .i64 (m_6_l : Int)] 3) :: (B3, .cells #[.int .i64 m_0, .int .i64 m_1] 3) :: (B2, .cells #[.int .i64 m_0, .int .i64 m_1, .string m_2, .int .i64 m_3, .int .i64 m_4, .int .i64 m_5, .slice m_6_p m_6_l m_6_c, .int .i64 m_7, .int .i64 m_8] 26) :: F6) ∧
          encode_c0 out_b (some ⟨t16_pb, t16_po, none⟩) t16_l t16_c t17 (IntKind.i64.wrap (t18 + (1 : Int))) F6 w0 R))))))) ∧
    ((¬ (t18 < t17)) →
    CallH Tryd.prog 51 ⟨[.pointer (some ⟨out_b, 0, none⟩)]⟩ (F1) [] w0 (fun v L' => ∃ (r61 : ByteArray) (F7 : SHeap), v = (.string r61) ∧ L' = (F7) ∧
     Fin R (F7) [] w0 (.tuple #[.string r61, .int .i64 (0 : Int)])))) :
  encode_c0 out_b t16_p t16_l t16_c t17 t18 F1 w0 R := by
 unfold encode_c0
 refine AtE.run 5 (fun W => by kernel_rfl) ?_
 refine AtE.splitP 19 (p := t18 < t17) (by kernel_rfl) (fun h2' => ?_) (fun h2' => ?_)
 ·replace H := H.1 h2'
  refine AtE.run 6 (fun W => by kernel_rfl) ?_
  obtain ⟨t16_pb, t16_po, rfl, H⟩ := H
  refine AtE.indexAddrL (E := 26) (b := t16_pb) (o := t16_po) (len := t16_l) (cap := t16_c) (sz := 9) (o' := (t16_po + ((Int.toNat t18) * 9))) (kd := .i64) (i := t18) (by kernel_rfl) H.1 (by omega) ?_
  replace H := H.2
  obtain ⟨cw, m_0, m_1, m_2, m_3, m_4, m_5, m_6_p, m_6_l, m_6_c, m_7, m_8, hw, hx, H⟩ := H
  refine AtE.loadW (b := t16_pb) (off := (t16_po + ((Int.toNat t18) * 9))) (T := 26) (v := .agg #[.int .i64 m_0, .int .i64 m_1, .string m_2, .int .i64 m_3, .int .i64 m_4, .int .i64 m_5, .slice m_6_p m_6_l m_6_c, .int .i64 m_7, .int .i64 m_8]) (by kernel_rfl) List.not_mem_nil hw (valAt_agg hx.1 hx.2 (by kernel_rfl) (by kernel_rfl)) ?_
  refine AtE.new (fun B => .pointer (some ⟨B, 0, none⟩)) (.cells #[.int .i64 (0 : Int), .int .i64 (0 : Int), .string (⟨#[]⟩), .int .i64 (0 : Int), .int .i64 (0 : Int), .int .i64 (0 : Int), .slice none 0 0, .int .i64 (0 : Int), .int .i64 (0 : Int)] 26) (fun W => by kernel_rfl) (by kernel_rfl) (fun B2 => ?_)
  replace H := H B2
  refine AtE.front ?_
  refine AtE.store 0 0 (T := 26) (v := .agg #[.int .i64 m_0, .int .i64 m_1, .string m_2, .int .i64 m_3, .int .i64 m_4, .int .i64 m_5, .slice m_6_p m_6_l m_6_c, .int .i64 m_7, .int .i64 m_8]) (by kernel_rfl) ?_
  refine AtE.run 4 (fun W => by kernel_rfl) ?_
  refine AtE.load 0 0 (T := 3) (v := .int .i64 m_0) (by kernel_rfl) ?_
  refine AtE.norm (k' := [.inRegion (regOps [.code (EngB8s27 [1,1,1,1,0,1,0,0,1,1,0,0,1,0])]) [2,3,4,5], .code (EngB8s27 [1,1,1,1,0,1,0,0,1,1,0,0,1,1]), .inBlock 1, .code (EngB8s27 [1,1,1,1,0,1,0,0,1,1,1]), .inLoop (EngB8s27 [1,1,1,1,0,1,0,0]), .inBlock 0, .code (EngB8s27 [1,1,1,1,1])]) (e' := [(4, .pointer (some ⟨out_b, 0, none⟩)), (6, .pointer (some ⟨B2, 0, none⟩)), (16, .slice (some ⟨t16_pb, t16_po, none⟩) t16_l t16_c), (17, .int .i64 t17), (18, .int .i64 t18), (23, .int .i64 m_0)]) (L' := ((B2, .cells #[.int .i64 m_0, .int .i64 m_1, .string m_2, .int .i64 m_3, .int .i64 m_4, .int .i64 m_5, .slice m_6_p m_6_l m_6_c, .int .i64 m_7, .int .i64 m_8] 26) :: F1)) ?_ (by kernel_rfl)
  refine AtE.run 1 (fun W => by kernel_rfl) ?_
  refine AtE.load 0 1 (T := 3) (v := .int .i64 m_1) (by kernel_rfl) ?_
  refine AtE.new (fun B => .slice (some ⟨B, 0, none⟩) 2 2) (.cells #[.int .i64 m_0, .int .i64 m_1] 3) (fun W => by kernel_rfl) (by kernel_rfl) (fun B3 => ?_)
  replace H := H B3
  refine AtE.front ?_
  refine AtE.call 48 ⟨[.pointer (some ⟨out_b, 0, none⟩), .slice (some ⟨B3, 0, none⟩) 2 2]⟩ (fun W => by kernel_rfl) (by kernel_rfl) H ?_
  clear H
  rintro _ _ ⟨F2, rfl, rfl, H⟩
  refine AtE.run 4 (fun W => by kernel_rfl) ?_
  refine AtE.load 1 2 (T := 9) (v := .string m_2) (by kernel_rfl) ?_
  refine AtE.call 49 ⟨[.string m_2]⟩ (fun W => by kernel_rfl) (by kernel_rfl) H ?_
  clear H
  rintro _ _ ⟨r21, r31, rfl, rfl, H⟩
  refine AtE.run 9 (fun W => by kernel_rfl) ?_
  refine AtE.call 50 ⟨[.pointer (some ⟨out_b, 0, none⟩), .string r21]⟩ (fun W => by kernel_rfl) (by kernel_rfl) H ?_
  clear H
  rintro _ _ ⟨r41, r51, F3, rfl, rfl, H⟩
  refine AtE.run 4 (fun W => by kernel_rfl) ?_
  refine AtE.load 1 3 (T := 3) (v := .int .i64 m_3) (by kernel_rfl) ?_
  refine AtE.norm (k' := [.inRegion (regOps [.code (EngB8s27 [1,1,1,1,0,1,0,0,1,1,0,0,1,1,1,1,0])]) [2,3,4,5,6,7,8,9,10,11,12], .code (EngB8s27 [1,1,1,1,0,1,0,0,1,1,0,0,1,1,1,1,1]), .inBlock 1, .code (EngB8s27 [1,1,1,1,0,1,0,0,1,1,1]), .inLoop (EngB8s27 [1,1,1,1,0,1,0,0]), .inBlock 0, .code (EngB8s27 [1,1,1,1,1])]) (e' := [(4, .pointer (some ⟨out_b, 0, none⟩)), (6, .pointer (some ⟨B2, 0, none⟩)), (16, .slice (some ⟨t16_pb, t16_po, none⟩) t16_l t16_c), (17, .int .i64 t17), (18, .int .i64 t18), (37, .int .i64 m_3)]) (L' := ((B3, .cells #[.int .i64 m_0, .int .i64 m_1] 3) :: (B2, .cells #[.int .i64 m_0, .int .i64 m_1, .string m_2, .int .i64 m_3, .int .i64 m_4, .int .i64 m_5, .slice m_6_p m_6_l m_6_c, .int .i64 m_7, .int .i64 m_8] 26) :: F3)) ?_ (by kernel_rfl)
  refine AtE.run 1 (fun W => by kernel_rfl) ?_
  refine AtE.load 1 4 (T := 3) (v := .int .i64 m_4) (by kernel_rfl) ?_
  refine AtE.run 2 (fun W => by kernel_rfl) ?_
  refine AtE.load 1 5 (T := 3) (v := .int .i64 m_5) (by kernel_rfl) ?_
  refine AtE.run 2 (fun W => by kernel_rfl) ?_
  refine AtE.load 1 6 (T := 22) (v := .slice m_6_p m_6_l m_6_c) (by kernel_rfl) ?_
  refine AtE.run 1 (fun W => by kernel_rfl) ?_
  refine AtE.new (fun B => .slice (some ⟨B, 0, none⟩) 4 4) (.cells #[.int .i64 m_3, .int .i64 m_4, .int .i64 m_5, .int .i64 (m_6_l : Int)] 3) (fun W => by kernel_rfl) (by kernel_rfl) (fun B4 => ?_)
  replace H := H B4
  refine AtE.front ?_
  refine AtE.call 48 ⟨[.pointer (some ⟨out_b, 0, none⟩), .slice (some ⟨B4, 0, none⟩) 4 4]⟩ (fun W => by kernel_rfl) (by kernel_rfl) H ?_
  clear H
  rintro _ _ ⟨F4, rfl, rfl, H⟩
  refine AtE.run 5 (fun W => by kernel_rfl) ?_
  refine AtE.load 2 6 (T := 22) (v := .slice m_6_p m_6_l m_6_c) (by kernel_rfl) ?_
  refine AtE.call 48 ⟨[.pointer (some ⟨out_b, 0, none⟩), .slice m_6_p m_6_l m_6_c]⟩ (fun W => by kernel_rfl) (by kernel_rfl) H ?_
  clear H
  rintro _ _ ⟨F5, rfl, rfl, H⟩
  refine AtE.norm (k' := [.inRegion (regOps [.code (EngB8s27 [1,1,1,1,0,1,0,0,1,1,0,0,1,1,1,1,1,0])]) [], .code (EngB8s27 [1,1,1,1,0,1,0,0,1,1,0,0,1,1,1,1,1,1]), .inBlock 1, .code (EngB8s27 [1,1,1,1,0,1,0,0,1,1,1]), .inLoop (EngB8s27 [1,1,1,1,0,1,0,0]), .inBlock 0, .code (EngB8s27 [1,1,1,1,1])]) (e' := [(4, .pointer (some ⟨out_b, 0, none⟩)), (6, .pointer (some ⟨B2, 0, none⟩)), (16, .slice (some ⟨t16_pb, t16_po, none⟩) t16_l t16_c), (17, .int .i64 t17), (18, .int .i64 t18)]) (L' := ((B4, .cells #[.int .i64 m_3, .int .i64 m_4, .int .i64 m_5, .int .i64 (m_6_l : Int)] 3) :: (B3, .cells #[.int .i64 m_0, .int .i64 m_1] 3) :: (B2, .cells #[.int .i64 m_0, .int .i64 m_1, .string m_2, .int .i64 m_3, .int .i64 m_4, .int .i64 m_5, .slice m_6_p m_6_l m_6_c, .int .i64 m_7, .int .i64 m_8] 26) :: F5)) ?_ (by kernel_rfl)
  refine AtE.run 4 (fun W => by kernel_rfl) ?_
  refine AtE.load 2 7 (T := 3) (v := .int .i64 m_7) (by kernel_rfl) ?_
  refine AtE.run 2 (fun W => by kernel_rfl) ?_
  refine AtE.load 2 8 (T := 3) (v := .int .i64 m_8) (by kernel_rfl) ?_
  refine AtE.new (fun B => .slice (some ⟨B, 0, none⟩) 2 2) (.cells #[.int .i64 m_7, .int .i64 m_8] 3) (fun W => by kernel_rfl) (by kernel_rfl) (fun B5 => ?_)
  replace H := H B5
  refine AtE.front ?_
  refine AtE.call 48 ⟨[.pointer (some ⟨out_b, 0, none⟩), .slice (some ⟨B5, 0, none⟩) 2 2]⟩ (fun W => by kernel_rfl) (by kernel_rfl) H ?_
  clear H
  rintro _ _ ⟨F6, rfl, rfl, H⟩
  refine AtE.run 7 (fun W => by kernel_rfl) ?_
  exact AtE.cutT [] 4 H (by kernel_rfl)
 ·replace H := H.2 h2'
  refine AtE.run 4 (fun W => by kernel_rfl) ?_
  refine AtE.call 51 ⟨[.pointer (some ⟨out_b, 0, none⟩)]⟩ (fun W => by kernel_rfl) (by kernel_rfl) H ?_
  clear H
  rintro _ F7 ⟨r61, _, rfl, rfl, H⟩
  refine AtE.run 3 (fun W => by kernel_rfl) ?_
  exact AtE.ret Tryd.func27 (by kernel_rfl) H
theorem encode_vc (l_p : Option Addr) (l_l : Nat) (l_c : Nat) {R : Ending → World → Prop} {w0 W : World} (hm : Mem [] [] w0 W)
  (H :
   CallH Tryd.prog 21 ⟨[.slice l_p l_l l_c]⟩ [] [] w0 (fun v L' => ∃ (r1 : Bool), v = (.bool r1) ∧ L' = [] ∧
    ((r1 = true) →
     ∀ B : Nat,
     ∀ B1 : Nat,
     CallH Tryd.prog 48 ⟨[.pointer (some ⟨B, 0, none⟩), .slice (some ⟨B1, 0, none⟩) 1 1]⟩ [(B, .cells #[.pointer none, .slice none 0 0] 60), (B1, .cells #[.int .i64 (l_l : Int)] 3)] [] w0 (fun v L' => ∃ (F : SHeap), v = (.tuple #[]) ∧ L' = ((B1, .cells #[.int .i64 (l_l : Int)] 3) :: F) ∧
      encode_c0 B l_p l_l l_c (l_l : Int) (0 : Int) F w0 R)) ∧
     ((r1 = false) →
     Fin R [] [] w0 (.tuple #[.string (⟨#[]⟩), .int .i64 (30 : Int)])))) :
  Calls Tryd.prog 27 ⟨[.slice l_p l_l l_c]⟩ W R := by
 refine AtE.calls (nt := 63) Tryd.func27 (by kernel_rfl) hm ?_
 refine AtE.run 9 (fun W => by kernel_rfl) ?_
 refine AtE.call 21 ⟨[.slice l_p l_l l_c]⟩ (fun W => by kernel_rfl) (by kernel_rfl) H ?_
 clear H
 rintro _ _ ⟨r1, rfl, rfl, H⟩
 refine AtE.split 10 (b := r1) (by kernel_rfl) (fun h1' => ?_) (fun h1' => ?_)
 ·replace H := H.1 h1'
  refine AtE.run 6 (fun W => by kernel_rfl) ?_
  refine AtE.new (fun B => .pointer (some ⟨B, 0, none⟩)) (.cells #[.pointer none, .slice none 0 0] 60) (fun W => by kernel_rfl) (by kernel_rfl) (fun B => ?_)
  replace H := H B
  refine AtE.run 5 (fun W => by kernel_rfl) ?_
  refine AtE.new (fun B => .slice (some ⟨B, 0, none⟩) 1 1) (.cells #[.int .i64 (l_l : Int)] 3) (fun W => by kernel_rfl) (by kernel_rfl) (fun B1 => ?_)
  replace H := H B1
  refine AtE.call 48 ⟨[.pointer (some ⟨B, 0, none⟩), .slice (some ⟨B1, 0, none⟩) 1 1]⟩ (fun W => by kernel_rfl) (by kernel_rfl) H ?_
  clear H
  rintro _ _ ⟨F, rfl, rfl, H⟩
  refine AtE.run 10 (fun W => by kernel_rfl) ?_
  exact AtE.cutT [] 1 H (by kernel_rfl)
 ·replace H := H.2 h1'
  refine AtE.run 8 (fun W => by kernel_rfl) ?_
  exact AtE.ret Tryd.func27 (by kernel_rfl) H
def plain_c0 (B1 : Nat) (B2 : Nat) (t10_p : Option Addr) (t10_l : Nat) (t10_c : Nat) (t11 : Int) (t12 : Int) (m0 : Option Addr) (w0 : World) (R : Ending → World → Prop) : Prop :=
 AtE Tryd.prog 34 33 [.code (EngB8s34 [1,1,1,0,1,0,0]), .inLoop (EngB8s34 [1,1,1,0,1,0,0]), .inBlock 0, .code (EngB8s34 [1,1,1,1])] [(3, .map (some B1)), (4, .pointer (some ⟨B2, 0, none⟩)), (10, .slice t10_p t10_l t10_c), (11, .int .i64 t11), (12, .int .i64 t12)] [(B1, EngB8m0), (B2, .cells #[.pointer m0, .slice none 0 0] 60)] [] w0 (nrm R)
def plain_c1 (B5 : Nat) (plain_b : Nat) (t101_p : Option Addr) (t101_l : Nat) (t101_c : Nat) (t111 : Int) (t121 : Int) (F2 : SHeap) (w0 : World) (R : Ending → World → Prop) : Prop :=
 AtE Tryd.prog 34 33 [.code (EngB8s34 [1,1,1,0,1,0,0]), .inLoop (EngB8s34 [1,1,1,0,1,0,0]), .inBlock 0, .code (EngB8s34 [1,1,1,1])] [(3, .map (some B5)), (4, .pointer (some ⟨plain_b, 0, none⟩)), (10, .slice t101_p t101_l t101_c), (11, .int .i64 t111), (12, .int .i64 t121)] ((B5, EngB8m0) :: F2) [] w0 (nrm R)
def plain_c2 (B11 : Nat) (B12 : Nat) (t102_p : Option Addr) (t102_l : Nat) (t102_c : Nat) (t112 : Int) (t122 : Int) (m01 : Option Addr) (w0 : World) (R : Ending → World → Prop) : Prop :=
 AtE Tryd.prog 34 33 [.code (EngB8s34 [1,1,1,0,1,0,0]), .inLoop (EngB8s34 [1,1,1,0,1,0,0]), .inBlock 0, .code (EngB8s34 [1,1,1,1])] [(3, .map (some B11)), (4, .pointer (some ⟨B12, 0, none⟩)), (10, .slice t102_p t102_l t102_c), (11, .int .i64 t112), (12, .int .i64 t122)] [(B11, EngB8m0), (B12, .cells #[.pointer m01, .slice none 0 0] 60)] [] w0 (nrm R)
theorem plain_c0_vc (B1 : Nat) (B2 : Nat) (t10_p : Option Addr) (t10_l : Nat) (t10_c : Nat) (t11 : Int) (t12 : Int) (m0 : Option Addr) {R : Ending → World → Prop} {w0 : World}
  (H :
   ((t12 < t11) →
    ∃ t10_pb t10_po : Nat, t10_p = some ⟨t10_pb, t10_po, none⟩ ∧
    (0 ≤ t12 ∧ t12 < t10_l) ∧
    ∃ (cw : List Value) (m_0 : Int) (m_1 : Int) (m_2 : ByteArray) (m_3 : Int) (m_4 : Int) (m_5 : Int) (m_6_p : Option Addr) (m_6_l : Nat) (m_6_c : Nat) (m_7 : Int) (m_8 : Int), blkW w0 t10_pb = some cw ∧ ((cw.drop (t10_po + ((Int.toNat t12) * 9))).take 9 = [.int .i64 m_0, .int .i64 m_1, .string m_2, .int .i64 m_3, .int .i64 m_4, .int .i64 m_5, .slice m_6_p m_6_l m_6_c, .int .i64 m_7, .int .i64 m_8] ∧ (t10_po + ((Int.toNat t12) * 9)) + 9 ≤ cw.length) ∧
    ∀ B3 : Nat,
    ((m_1 = (1 : Int)) →
     ∀ B4 : Nat,
     CallH Tryd.prog 66 ⟨[.string m_2]⟩ [(B1, EngB8m0), (B2, .cells #[.pointer m0, .slice none 0 0] 60), (B3, .cells #[.int .i64 m_0, .int .i64 m_1, .string m_2, .int .i64 m_3, .int .i64 m_4, .int .i64 m_5, .slice m_6_p m_6_l m_6_c, .int .i64 m_7, .int .i64 m_8] 26), (B4, .cells #[.func (.func 64) #[] #[], .bool false, .func (.func 66) #[] #[]] 84)] [] w0 (fun v L' => ∃ (r21 : ByteArray), v = (.string r21) ∧ L' = [(B1, EngB8m0), (B2, .cells #[.pointer m0, .slice none 0 0] 60), (B3, .cells #[.int .i64 m_0, .int .i64 m_1, .string m_2, .int .i64 m_3, .int .i64 m_4, .int .i64 m_5, .slice m_6_p m_6_l m_6_c, .int .i64 m_7, .int .i64 m_8] 26), (B4, .cells #[.func (.func 64) #[] #[], .bool false, .func (.func 66) #[] #[]] 84)] ∧
      CallH Tryd.prog 50 ⟨[.pointer (some ⟨B2, 0, none⟩), .string r21]⟩ [(B1, EngB8m0), (B2, .cells #[.pointer m0, .slice none 0 0] 60), (B3, .cells #[.int .i64 m_0, .int .i64 m_1, .string m_2, .int .i64 m_3, .int .i64 m_4, .int .i64 m_5, .slice m_6_p m_6_l m_6_c, .int .i64 m_7, .int .i64 m_8] 26), (B4, .cells #[.func (.func 64) #[] #[], .bool false, .func (.func 66) #[] #[]] 84)] [] w0 (fun v L' => ∃ (r31 : Int) (r41 : Value) (F : SHeap), v = (.tuple #[.int .i64 r31, r41]) ∧ L' = ((B1, EngB8m0) :: (B3, .cells #[.int .i64 m_0, .int .i64 m_1, .string m_2, .int .i64 m_3, .int .i64 m_4, .int .i64 m_5, .slice m_6_p m_6_l m_6_c, .int .i64 m_7, .int .i64 m_8] 26) :: (B4, .cells #[.func (.func 64) #[] #[], .bool false, .func (.func 66) #[] #[]] 84) :: F) ∧
       CallH Tryd.prog 62 ⟨[.pointer (some ⟨B2, 0, none⟩), .int .u8 (10 : Int)]⟩ ((B1, EngB8m0) :: (B3, .cells #[.int .i64 m_0, .int .i64 m_1, .string m_2, .int .i64 m_3, .int .i64 m_4, .int .i64 m_5, .slice m_6_p m_6_l m_6_c, .int .i64 m_7, .int .i64 m_8] 26) :: (B4, .cells #[.func (.func 64) #[] #[], .bool false, .func (.func 66) #[] #[]] 84) :: F) [] w0 (fun v L' => ∃ (r51 : Value) (F1 : SHeap), v = (r51) ∧ L' = ((B1, EngB8m0) :: (B3, .cells #[.int .i64 m_0, .int .i64 m_1, .string m_2, .int .i64 m_3, .int .i64 m_4, .int .i64 m_5, .slice m_6_p m_6_l m_6_c, .int .i64 m_7, .int .i64 m_8] 26) :: (B4, .cells #[.func (.func 64) #[] #[], .bool false, .func (.func 66) #[] #[]] 84) :: F1) ∧
        plain_c1 B1 B2 (some ⟨t10_pb, t10_po, none⟩) t10_l t10_c t11 (IntKind.i64.wrap (t12 + (1 : Int))) F1 w0 R)))) ∧
     ((¬ m_1 = (1 : Int)) →
     ((m_1 = (2 : Int)) →
      ∀ B6 : Nat,
      CallH Tryd.prog 67 ⟨[.string m_2]⟩ [(B1, EngB8m0), (B2, .cells #[.pointer m0, .slice none 0 0] 60), (B3, .cells #[.int .i64 m_0, .int .i64 m_1, .string m_2, .int .i64 m_3, .int .i64 m_4, .int .i64 m_5, .slice m_6_p m_6_l m_6_c, .int .i64 m_7, .int .i64 m_8] 26), (B6, .cells #[.func (.func 64) #[] #[], .bool false, .func (.func 67) #[] #[]] 84)] [] w0 (fun v L' => ∃ (r61 : ByteArray), v = (.string r61) ∧ L' = [(B1, EngB8m0), (B2, .cells #[.pointer m0, .slice none 0 0] 60), (B3, .cells #[.int .i64 m_0, .int .i64 m_1, .string m_2, .int .i64 m_3, .int .i64 m_4, .int .i64 m_5, .slice m_6_p m_6_l m_6_c, .int .i64 m_7, .int .i64 m_8] 26), (B6, .cells #[.func (.func 64) #[] #[], .bool false, .func (.func 67) #[] #[]] 84)] ∧
       CallH Tryd.prog 50 ⟨[.pointer (some ⟨B2, 0, none⟩), .string r61]⟩ [(B1, EngB8m0), (B2, .cells #[.pointer m0, .slice none 0 0] 60), (B3, .cells #[.int .i64 m_0, .int .i64 m_1, .string m_2, .int .i64 m_3, .int .i64 m_4, .int .i64 m_5, .slice m_6_p m_6_l m_6_c, .int .i64 m_7, .int .i64 m_8] 26), (B6, .cells #[.func (.func 64) #[] #[], .bool false, .func (.func 67) #[] #[]] 84)] [] w0 (fun v L' => ∃ (r71 : Int) (r81 : Value) (F3 : SHeap), v = (.tuple #[.int .i64 r71, r81]) ∧ L' = ((B1, EngB8m0) :: (B3, .cells #[.int .i64 m_0, .int .i64 m_1, .string m_2, .int .i64 m_3, .int .i64 m_4, .int .i64 m_5, .slice m_6_p m_6_l m_6_c, .int .i64 m_7, .int .i64 m_8] 26) :: (B6, .cells #[.func (.func 64) #[] #[], .bool false, .func (.func 67) #[] #[]] 84) :: F3) ∧
        CallH Tryd.prog 62 ⟨[.pointer (some ⟨B2, 0, none⟩), .int .u8 (10 : Int)]⟩ ((B1, EngB8m0) :: (B3, .cells #[.int .i64 m_0, .int .i64 m_1, .string m_2, .int .i64 m_3, .int .i64 m_4, .int .i64 m_5, .slice m_6_p m_6_l m_6_c, .int .i64 m_7, .int .i64 m_8] 26) :: (B6, .cells #[.func (.func 64) #[] #[], .bool false, .func (.func 67) #[] #[]] 84) :: F3) [] w0 (fun v L' => ∃ (r91 : Value) (F4 : SHeap), v = (r91) ∧ L' = ((B1, EngB8m0) :: (B3, .cells #[.int .i64 m_0, .int .i64 m_1, .string m_2, .int .i64 m_3, .int .i64 m_4, .int .i64 m_5, .slice m_6_p m_6_l m_6_c, .int .i64 m_7, .int .i64 m_8] 26) :: (B6, .cells #[.func (.func 64) #[] #[], .bool false, .func (.func 67) #[] #[]] 84) :: F4) ∧
         plain_c1 B1 B2 (some ⟨t10_pb, t10_po, none⟩) t10_l t10_c t11 (IntKind.i64.wrap (t12 + (1 : Int))) F4 w0 R)))) ∧
      ((¬ m_1 = (2 : Int)) →
      ((m_1 = (3 : Int)) →
       ∀ B7 : Nat,
       CallH Tryd.prog 69 ⟨[.string m_2]⟩ [(B1, EngB8m0), (B2, .cells #[.pointer m0, .slice none 0 0] 60), (B3, .cells #[.int .i64 m_0, .int .i64 m_1, .string m_2, .int .i64 m_3, .int .i64 m_4, .int .i64 m_5, .slice m_6_p m_6_l m_6_c, .int .i64 m_7, .int .i64 m_8] 26), (B7, .cells #[.func (.func 65) #[] #[], .bool true, .func (.func 69) #[] #[]] 84)] [] w0 (fun v L' => ∃ (r101 : ByteArray), v = (.string r101) ∧ L' = [(B1, EngB8m0), (B2, .cells #[.pointer m0, .slice none 0 0] 60), (B3, .cells #[.int .i64 m_0, .int .i64 m_1, .string m_2, .int .i64 m_3, .int .i64 m_4, .int .i64 m_5, .slice m_6_p m_6_l m_6_c, .int .i64 m_7, .int .i64 m_8] 26), (B7, .cells #[.func (.func 65) #[] #[], .bool true, .func (.func 69) #[] #[]] 84)] ∧
        CallH Tryd.prog 50 ⟨[.pointer (some ⟨B2, 0, none⟩), .string r101]⟩ [(B1, EngB8m0), (B2, .cells #[.pointer m0, .slice none 0 0] 60), (B3, .cells #[.int .i64 m_0, .int .i64 m_1, .string m_2, .int .i64 m_3, .int .i64 m_4, .int .i64 m_5, .slice m_6_p m_6_l m_6_c, .int .i64 m_7, .int .i64 m_8] 26), (B7, .cells #[.func (.func 65) #[] #[], .bool true, .func (.func 69) #[] #[]] 84)] [] w0 (fun v L' => ∃ (r111 : Int) (r121 : Value) (F5 : SHeap), v = (.tuple #[.int .i64 r111, r121]) ∧ L' = ((B1, EngB8m0) :: (B3, .cells #[.int .i64 m_0, .int .i64 m_1, .string m_2, .int .i64 m_3, .int .i64 m_4, .int .i64 m_5, .slice m_6_p m_6_l m_6_c, .int .i64 m_7, .int .i64 m_8] 26) :: (B7, .cells #[.func (.func 65) #[] #[], .bool true, .func (.func 69) #[] #[]] 84) :: F5) ∧
         CallH Tryd.prog 62 ⟨[.pointer (some ⟨B2, 0, none⟩), .int .u8 (10 : Int)]⟩ ((B1, EngB8m0) :: (B3, .cells #[.int .i64 m_0, .int .i64 m_1, .string m_2, .int .i64 m_3, .int .i64 m_4, .int .i64 m_5, .slice m_6_p m_6_l m_6_c, .int .i64 m_7, .int .i64 m_8] 26) :: (B7, .cells #[.func (.func 65) #[] #[], .bool true, .func (.func 69) #[] #[]] 84) :: F5) [] w0 (fun v L' => ∃ (r131 : Value) (F6 : SHeap), v = (r131) ∧ L' = ((B1, EngB8m0) :: (B3, .cells #[.int .i64 m_0, .int .i64 m_1, .string m_2, .int .i64 m_3, .int .i64 m_4, .int .i64 m_5, .slice m_6_p m_6_l m_6_c, .int .i64 m_7, .int .i64 m_8] 26) :: (B7, .cells #[.func (.func 65) #[] #[], .bool true, .func (.func 69) #[] #[]] 84) :: F6) ∧
          plain_c1 B1 B2 (some ⟨t10_pb, t10_po, none⟩) t10_l t10_c t11 (IntKind.i64.wrap (t12 + (1 : Int))) F6 w0 R)))) ∧
       ((¬ m_1 = (3 : Int)) →
       ((m_1 = (4 : Int)) →
        ∀ B8 : Nat,
        CallH Tryd.prog 70 ⟨[.string m_2]⟩ [(B1, EngB8m0), (B2, .cells #[.pointer m0, .slice none 0 0] 60), (B3, .cells #[.int .i64 m_0, .int .i64 m_1, .string m_2, .int .i64 m_3, .int .i64 m_4, .int .i64 m_5, .slice m_6_p m_6_l m_6_c, .int .i64 m_7, .int .i64 m_8] 26), (B8, .cells #[.func (.func 64) #[] #[], .bool false, .func (.func 70) #[] #[]] 84)] [] w0 (fun v L' => ∃ (r141 : ByteArray), v = (.string r141) ∧ L' = [(B1, EngB8m0), (B2, .cells #[.pointer m0, .slice none 0 0] 60), (B3, .cells #[.int .i64 m_0, .int .i64 m_1, .string m_2, .int .i64 m_3, .int .i64 m_4, .int .i64 m_5, .slice m_6_p m_6_l m_6_c, .int .i64 m_7, .int .i64 m_8] 26), (B8, .cells #[.func (.func 64) #[] #[], .bool false, .func (.func 70) #[] #[]] 84)] ∧
         CallH Tryd.prog 50 ⟨[.pointer (some ⟨B2, 0, none⟩), .string r141]⟩ [(B1, EngB8m0), (B2, .cells #[.pointer m0, .slice none 0 0] 60), (B3, .cells #[.int .i64 m_0, .int .i64 m_1, .string m_2, .int .i64 m_3, .int .i64 m_4, .int .i64 m_5, .slice m_6_p m_6_l m_6_c, .int .i64 m_7, .int .i64 m_8] 26), (B8, .cells #[.func (.func 64) #[] #[], .bool false, .func (.func 70) #[] #[]] 84)] [] w0 (fun v L' => ∃ (r151 : Int) (r161 : Value) (F7 : SHeap), v = (.tuple #[.int .i64 r151, r161]) ∧ L' = ((B1, EngB8m0) :: (B3, .cells #[.int .i64 m_0, .int .i64 m_1, .string m_2, .int .i64 m_3, .int .i64 m_4, .int .i64 m_5, .slice m_6_p m_6_l m_6_c, .int .i64 m_7, .int .i64 m_8] 26) :: (B8, .cells #[.func (.func 64) #[] #[], .bool false, .func (.func 70) #[] #[]] 84) :: F7) ∧
          CallH Tryd.prog 62 ⟨[.pointer (some ⟨B2, 0, none⟩), .int .u8 (10 : Int)]⟩ ((B1, EngB8m0) :: (B3, .cells #[.int .i64 m_0, .int .i64 m_1, .string m_2, .int .i64 m_3, .int .i64 m_4, .int .i64 m_5, .slice m_6_p m_6_l m_6_c, .int .i64 m_7, .int .i64 m_8] 26) :: (B8, .cells #[.func (.func 64) #[] #[], .bool false, .func (.func 70) #[] #[]] 84) :: F7) [] w0 (fun v L' => ∃ (r171 : Value) (F8 : SHeap), v = (r171) ∧ L' = ((B1, EngB8m0) :: (B3, .cells #[.int .i64 m_0, .int .i64 m_1, .string m_2, .int .i64 m_3, .int .i64 m_4, .int .i64 m_5, .slice m_6_p m_6_l m_6_c, .int .i64 m_7, .int .i64 m_8] 26) :: (B8, .cells #[.func (.func 64) #[] #[], .bool false, .func (.func 70) #[] #[]] 84) :: F8) ∧
           plain_c1 B1 B2 (some ⟨t10_pb, t10_po, none⟩) t10_l t10_c t11 (IntKind.i64.wrap (t12 + (1 : Int))) F8 w0 R)))) ∧
        ((¬ m_1 = (4 : Int)) →
        ((m_1 = (5 : Int)) →
         ∀ B9 : Nat,
         CallH Tryd.prog 72 ⟨[.string m_2]⟩ [(B1, EngB8m0), (B2, .cells #[.pointer m0, .slice none 0 0] 60), (B3, .cells #[.int .i64 m_0, .int .i64 m_1, .string m_2, .int .i64 m_3, .int .i64 m_4, .int .i64 m_5, .slice m_6_p m_6_l m_6_c, .int .i64 m_7, .int .i64 m_8] 26), (B9, .cells #[.func (.func 71) #[] #[], .bool false, .func (.func 72) #[] #[]] 84)] [] w0 (fun v L' => ∃ (r181 : ByteArray), v = (.string r181) ∧ L' = [(B1, EngB8m0), (B2, .cells #[.pointer m0, .slice none 0 0] 60), (B3, .cells #[.int .i64 m_0, .int .i64 m_1, .string m_2, .int .i64 m_3, .int .i64 m_4, .int .i64 m_5, .slice m_6_p m_6_l m_6_c, .int .i64 m_7, .int .i64 m_8] 26), (B9, .cells #[.func (.func 71) #[] #[], .bool false, .func (.func 72) #[] #[]] 84)] ∧
          CallH Tryd.prog 50 ⟨[.pointer (some ⟨B2, 0, none⟩), .string r181]⟩ [(B1, EngB8m0), (B2, .cells #[.pointer m0, .slice none 0 0] 60), (B3, .cells #[.int .i64 m_0, .int .i64 m_1, .string m_2, .int .i64 m_3, .int .i64 m_4, .int .i64 m_5, .slice m_6_p m_6_l m_6_c, .int .i64 m_7, .int .i64 m_8] 26), (B9, .cells #[.func (.func 71) #[] #[], .bool false, .func (.func 72) #[] #[]] 84)] [] w0 (fun v L' => ∃ (r191 : Int) (r201 : Value) (F9 : SHeap), v = (.tuple #[.int .i64 r191, r201]) ∧ L' = ((B1, EngB8m0) :: (B3, .cells #[.int .i64 m_0, .int .i64 m_1, .string m_2, .int .i64 m_3, .int .i64 m_4, .int .i64 m_5, .slice m_6_p m_6_l m_6_c, .int .i64 m_7, .int .i64 m_8] 26) :: (B9, .cells #[.func (.func 71) #[] #[], .bool false, .func (.func 72) #[] #[]] 84) :: F9) ∧
           CallH Tryd.prog 62 ⟨[.pointer (some ⟨B2, 0, none⟩), .int .u8 (10 : Int)]⟩ ((B1, EngB8m0) :: (B3, .cells #[.int .i64 m_0, .int .i64 m_1, .string m_2, .int .i64 m_3, .int .i64 m_4, .int .i64 m_5, .slice m_6_p m_6_l m_6_c, .int .i64 m_7, .int .i64 m_8] 26) :: (B9, .cells #[.func (.func 71) #[] #[], .bool false, .func (.func 72) #[] #[]] 84) :: F9) [] w0 (fun v L' => ∃ (r221 : Value) (F10 : SHeap), v = (r221) ∧ L' = ((B1, EngB8m0) :: (B3, .cells #[.int .i64 m_0, .int .i64 m_1, .string m_2, .int .i64 m_3, .int .i64 m_4, .int .i64 m_5, .slice m_6_p m_6_l m_6_c, .int .i64 m_7, .int .i64 m_8] 26) :: (B9, .cells #[.func (.func 71) #[] #[], .bool false, .func (.func 72) #[] #[]] 84) :: F10) ∧
            plain_c1 B1 B2 (some ⟨t10_pb, t10_po, none⟩) t10_l t10_c t11 (IntKind.i64.wrap (t12 + (1 : Int))) F10 w0 R)))) ∧
         ((¬ m_1 = (5 : Int)) →
         ∀ B10 : Nat,
         plain_c2 B1 B2 (some ⟨t10_pb, t10_po, none⟩) t10_l t10_c t11 (IntKind.i64.wrap (t12 + (1 : Int))) m0 w0 R)))))) ∧
    ((¬ (t12 < t11)) →
    CallH Tryd.prog 51 ⟨[.pointer (some ⟨B2, 0, none⟩)]⟩ [(B1, EngB8m0), (B2, .cells #[.pointer m0, .slice none 0 0] 60)] [] w0 (fun v L' => ∃ (r231 : ByteArray) (F11 : SHeap), v = (.string r231) ∧ L' = ((B1, EngB8m0) :: F11) ∧
     Fin R ((B1, EngB8m0) :: F11) [] w0 (.string r231)))) :
  plain_c0 B1 B2 t10_p t10_l t10_c t11 t12 m0 w0 R := by
 unfold plain_c0
 refine AtE.run 5 (fun W => by kernel_rfl) ?_
 refine AtE.splitP 13 (p := t12 < t11) (by kernel_rfl) (fun h1' => ?_) (fun h1' => ?_)
 ·replace H := H.1 h1'
  refine AtE.run 6 (fun W => by kernel_rfl) ?_
  obtain ⟨t10_pb, t10_po, rfl, H⟩ := H
  refine AtE.indexAddrL (E := 26) (b := t10_pb) (o := t10_po) (len := t10_l) (cap := t10_c) (sz := 9) (o' := (t10_po + ((Int.toNat t12) * 9))) (kd := .i64) (i := t12) (by kernel_rfl) H.1 (by omega) ?_
  replace H := H.2
  obtain ⟨cw, m_0, m_1, m_2, m_3, m_4, m_5, m_6_p, m_6_l, m_6_c, m_7, m_8, hw, hx, H⟩ := H
  refine AtE.loadW (b := t10_pb) (off := (t10_po + ((Int.toNat t12) * 9))) (T := 26) (v := .agg #[.int .i64 m_0, .int .i64 m_1, .string m_2, .int .i64 m_3, .int .i64 m_4, .int .i64 m_5, .slice m_6_p m_6_l m_6_c, .int .i64 m_7, .int .i64 m_8]) (by kernel_rfl) List.not_mem_nil hw (valAt_agg hx.1 hx.2 (by kernel_rfl) (by kernel_rfl)) ?_
  refine AtE.new (fun B => .pointer (some ⟨B, 0, none⟩)) (.cells #[.int .i64 (0 : Int), .int .i64 (0 : Int), .string (⟨#[]⟩), .int .i64 (0 : Int), .int .i64 (0 : Int), .int .i64 (0 : Int), .slice none 0 0, .int .i64 (0 : Int), .int .i64 (0 : Int)] 26) (fun W => by kernel_rfl) (by kernel_rfl) (fun B3 => ?_)
  replace H := H B3
  refine AtE.store 2 0 (T := 26) (v := .agg #[.int .i64 m_0, .int .i64 m_1, .string m_2, .int .i64 m_3, .int .i64 m_4, .int .i64 m_5, .slice m_6_p m_6_l m_6_c, .int .i64 m_7, .int .i64 m_8]) (by kernel_rfl) ?_
  refine AtE.run 5 (fun W => by kernel_rfl) ?_
  refine AtE.load 2 1 (T := 3) (v := .int .i64 m_1) (by kernel_rfl) ?_
  refine AtE.norm (k' := [.inRegion (regOps [.code (EngB8s34 [1,1,1,0,1,0,0,1,1,0,0,1,0])]) [3,4,5,6,7,8,9], .code (EngB8s34 [1,1,1,0,1,0,0,1,1,0,0,1,1]), .inBlock 1, .code (EngB8s34 [1,1,1,0,1,0,0,1,1,1]), .inLoop (EngB8s34 [1,1,1,0,1,0,0]), .inBlock 0, .code (EngB8s34 [1,1,1,1])]) (e' := [(3, .map (some B1)), (4, .pointer (some ⟨B2, 0, none⟩)), (6, .pointer (some ⟨B3, 0, none⟩)), (10, .slice (some ⟨t10_pb, t10_po, none⟩) t10_l t10_c), (11, .int .i64 t11), (12, .int .i64 t12), (17, .map (some B1)), (19, .int .i64 m_1)]) (L' := [(B1, EngB8m0), (B2, .cells #[.pointer m0, .slice none 0 0] 60), (B3, .cells #[.int .i64 m_0, .int .i64 m_1, .string m_2, .int .i64 m_3, .int .i64 m_4, .int .i64 m_5, .slice m_6_p m_6_l m_6_c, .int .i64 m_7, .int .i64 m_8] 26)]) ?_ (by kernel_rfl)
  refine AtE.look 0 (b := B1) (c := 5) (es := #[{ key := .int .i64 (1 : Int), val := .agg #[.func (.func 64) #[] #[], .bool false, .func (.func 66) #[] #[]], born := 0 }, { key := .int .i64 (2 : Int), val := .agg #[.func (.func 64) #[] #[], .bool false, .func (.func 67) #[] #[]], born := 1 }, { key := .int .i64 (3 : Int), val := .agg #[.func (.func 65) #[] #[], .bool true, .func (.func 69) #[] #[]], born := 2 }, { key := .int .i64 (4 : Int), val := .agg #[.func (.func 64) #[] #[], .bool false, .func (.func 70) #[] #[]], born := 3 }, { key := .int .i64 (5 : Int), val := .agg #[.func (.func 71) #[] #[], .bool false, .func (.func 72) #[] #[]], born := 4 }]) (kt := 3) (et := 84) (kd := .i64) (n := m_1) (z := .agg #[.nilFunc, .bool false, .nilFunc]) (by kernel_rfl) ?_
  refine LookAll.cons (fun h2' => ?_) (fun h2' => ?_)
  ·replace H := H.1 h2'
   refine AtE.norm (k' := [.inRegion (regOps [.code (EngB8s34 [1,1,1,0,1,0,0,1,1,0,0,1,0])]) [4,5,6,7,8,9], .code (EngB8s34 [1,1,1,0,1,0,0,1,1,0,0,1,1]), .inBlock 1, .code (EngB8s34 [1,1,1,0,1,0,0,1,1,1]), .inLoop (EngB8s34 [1,1,1,0,1,0,0]), .inBlock 0, .code (EngB8s34 [1,1,1,1])]) (e' := [(3, .map (some B1)), (4, .pointer (some ⟨B2, 0, none⟩)), (6, .pointer (some ⟨B3, 0, none⟩)), (10, .slice (some ⟨t10_pb, t10_po, none⟩) t10_l t10_c), (11, .int .i64 t11), (12, .int .i64 t12), (20, .tuple #[.agg #[.func (.func 64) #[] #[], .bool false, .func (.func 66) #[] #[]], .bool true])]) (L' := [(B1, EngB8m0), (B2, .cells #[.pointer m0, .slice none 0 0] 60), (B3, .cells #[.int .i64 m_0, .int .i64 m_1, .string m_2, .int .i64 m_3, .int .i64 m_4, .int .i64 m_5, .slice m_6_p m_6_l m_6_c, .int .i64 m_7, .int .i64 m_8] 26)]) ?_ (by kernel_rfl)
   refine AtE.run 3 (fun W => by kernel_rfl) ?_
   refine AtE.new (fun B => .pointer (some ⟨B, 0, none⟩)) (.cells #[.nilFunc, .bool false, .nilFunc] 84) (fun W => by kernel_rfl) (by kernel_rfl) (fun B4 => ?_)
   replace H := H B4
   refine AtE.store 3 0 (T := 84) (v := .agg #[.func (.func 64) #[] #[], .bool false, .func (.func 66) #[] #[]]) (by kernel_rfl) ?_
   refine AtE.run 10 (fun W => by kernel_rfl) ?_
   refine AtE.load 3 2 (T := 47) (v := .func (.func 66) #[] #[]) (by kernel_rfl) ?_
   refine AtE.run 1 (fun W => by kernel_rfl) ?_
   refine AtE.load 2 2 (T := 9) (v := .string m_2) (by kernel_rfl) ?_
   refine AtE.call 66 ⟨[.string m_2]⟩ (fun W => by kernel_rfl) (by kernel_rfl) H ?_
   clear H
   rintro _ _ ⟨r21, rfl, rfl, H⟩
   refine AtE.call 50 ⟨[.pointer (some ⟨B2, 0, none⟩), .string r21]⟩ (fun W => by kernel_rfl) (by kernel_rfl) H ?_
   clear H
   rintro _ _ ⟨r31, r41, F, rfl, rfl, H⟩
   refine AtE.run 2 (fun W => by kernel_rfl) ?_
   refine AtE.call 62 ⟨[.pointer (some ⟨B2, 0, none⟩), .int .u8 (10 : Int)]⟩ (fun W => by kernel_rfl) (by kernel_rfl) H ?_
   clear H
   rintro _ _ ⟨r51, F1, rfl, rfl, H⟩
   refine AtE.norm (k' := [.inRegion (regOps [.code (EngB8s34 [1,1,1,0,1,0,0,1,1,0,0,1,1,1,0,1])]) [], .inBlock 1, .code (EngB8s34 [1,1,1,0,1,0,0,1,1,1]), .inLoop (EngB8s34 [1,1,1,0,1,0,0]), .inBlock 0, .code (EngB8s34 [1,1,1,1])]) (e' := [(3, .map (some B1)), (4, .pointer (some ⟨B2, 0, none⟩)), (10, .slice (some ⟨t10_pb, t10_po, none⟩) t10_l t10_c), (11, .int .i64 t11), (12, .int .i64 t12)]) (L' := ((B1, EngB8m0) :: (B3, .cells #[.int .i64 m_0, .int .i64 m_1, .string m_2, .int .i64 m_3, .int .i64 m_4, .int .i64 m_5, .slice m_6_p m_6_l m_6_c, .int .i64 m_7, .int .i64 m_8] 26) :: (B4, .cells #[.func (.func 64) #[] #[], .bool false, .func (.func 66) #[] #[]] 84) :: F1)) ?_ (by kernel_rfl)
   refine AtE.run 7 (fun W => by kernel_rfl) ?_
   exact AtE.cutT [0] 3 H (by kernel_rfl)
  ·replace H := H.2 h2'
   refine LookAll.cons (fun h3' => ?_) (fun h3' => ?_)
   ·replace H := H.1 h3'
    refine AtE.norm (k' := [.inRegion (regOps [.code (EngB8s34 [1,1,1,0,1,0,0,1,1,0,0,1,0])]) [4,5,6,7,8,9], .code (EngB8s34 [1,1,1,0,1,0,0,1,1,0,0,1,1]), .inBlock 1, .code (EngB8s34 [1,1,1,0,1,0,0,1,1,1]), .inLoop (EngB8s34 [1,1,1,0,1,0,0]), .inBlock 0, .code (EngB8s34 [1,1,1,1])]) (e' := [(3, .map (some B1)), (4, .pointer (some ⟨B2, 0, none⟩)), (6, .pointer (some ⟨B3, 0, none⟩)), (10, .slice (some ⟨t10_pb, t10_po, none⟩) t10_l t10_c), (11, .int .i64 t11), (12, .int .i64 t12), (20, .tuple #[.agg #[.func (.func 64) #[] #[], .bool false, .func (.func 67) #[] #[]], .bool true])]) (L' := [(B1, EngB8m0), (B2, .cells #[.pointer m0, .slice none 0 0] 60), (B3, .cells #[.int .i64 m_0, .int .i64 m_1, .string m_2, .int .i64 m_3, .int .i64 m_4, .int .i64 m_5, .slice m_6_p m_6_l m_6_c, .int .i64 m_7, .int .i64 m_8] 26)]) ?_ (by kernel_rfl)
    refine AtE.run 3 (fun W => by kernel_rfl) ?_
    refine AtE.new (fun B => .pointer (some ⟨B, 0, none⟩)) (.cells #[.nilFunc, .bool false, .nilFunc] 84) (fun W => by kernel_rfl) (by kernel_rfl) (fun B6 => ?_)
    replace H := H B6
    refine AtE.store 3 0 (T := 84) (v := .agg #[.func (.func 64) #[] #[], .bool false, .func (.func 67) #[] #[]]) (by kernel_rfl) ?_
    refine AtE.run 10 (fun W => by kernel_rfl) ?_
    refine AtE.load 3 2 (T := 47) (v := .func (.func 67) #[] #[]) (by kernel_rfl) ?_
    refine AtE.run 1 (fun W => by kernel_rfl) ?_
    refine AtE.load 2 2 (T := 9) (v := .string m_2) (by kernel_rfl) ?_
    refine AtE.call 67 ⟨[.string m_2]⟩ (fun W => by kernel_rfl) (by kernel_rfl) H ?_
    clear H
    rintro _ _ ⟨r61, rfl, rfl, H⟩
    refine AtE.call 50 ⟨[.pointer (some ⟨B2, 0, none⟩), .string r61]⟩ (fun W => by kernel_rfl) (by kernel_rfl) H ?_
    clear H
    rintro _ _ ⟨r71, r81, F3, rfl, rfl, H⟩
    refine AtE.run 2 (fun W => by kernel_rfl) ?_
    refine AtE.call 62 ⟨[.pointer (some ⟨B2, 0, none⟩), .int .u8 (10 : Int)]⟩ (fun W => by kernel_rfl) (by kernel_rfl) H ?_
    clear H
    rintro _ _ ⟨r91, F4, rfl, rfl, H⟩
    refine AtE.norm (k' := [.inRegion (regOps [.code (EngB8s34 [1,1,1,0,1,0,0,1,1,0,0,1,1,1,0,1])]) [], .inBlock 1, .code (EngB8s34 [1,1,1,0,1,0,0,1,1,1]), .inLoop (EngB8s34 [1,1,1,0,1,0,0]), .inBlock 0, .code (EngB8s34 [1,1,1,1])]) (e' := [(3, .map (some B1)), (4, .pointer (some ⟨B2, 0, none⟩)), (10, .slice (some ⟨t10_pb, t10_po, none⟩) t10_l t10_c), (11, .int .i64 t11), (12, .int .i64 t12)]) (L' := ((B1, EngB8m0) :: (B3, .cells #[.int .i64 m_0, .int .i64 m_1, .string m_2, .int .i64 m_3, .int .i64 m_4, .int .i64 m_5, .slice m_6_p m_6_l m_6_c, .int .i64 m_7, .int .i64 m_8] 26) :: (B6, .cells #[.func (.func 64) #[] #[], .bool false, .func (.func 67) #[] #[]] 84) :: F4)) ?_ (by kernel_rfl)
    refine AtE.run 7 (fun W => by kernel_rfl) ?_
    exact AtE.cutT [0] 3 H (by kernel_rfl)
   ·replace H := H.2 h3'
    refine LookAll.cons (fun h4' => ?_) (fun h4' => ?_)
    ·replace H := H.1 h4'
     refine AtE.norm (k' := [.inRegion (regOps [.code (EngB8s34 [1,1,1,0,1,0,0,1,1,0,0,1,0])]) [4,5,6,7,8,9], .code (EngB8s34 [1,1,1,0,1,0,0,1,1,0,0,1,1]), .inBlock 1, .code (EngB8s34 [1,1,1,0,1,0,0,1,1,1]), .inLoop (EngB8s34 [1,1,1,0,1,0,0]), .inBlock 0, .code (EngB8s34 [1,1,1,1])]) (e' := [(3, .map (some B1)), (4, .pointer (some ⟨B2, 0, none⟩)), (6, .pointer (some ⟨B3, 0, none⟩)), (10, .slice (some ⟨t10_pb, t10_po, none⟩) t10_l t10_c), (11, .int .i64 t11), (12, .int .i64 t12), (20, .tuple #[.agg #[.func (.func 65) #[] #[], .bool true, .func (.func 69) #[] #[]], .bool true])]) (L' := [(B1, EngB8m0), (B2, .cells #[.pointer m0, .slice none 0 0] 60), (B3, .cells #[.int .i64 m_0, .int .i64 m_1, .string m_2, .int .i64 m_3, .int .i64 m_4, .int .i64 m_5, .slice m_6_p m_6_l m_6_c, .int .i64 m_7, .int .i64 m_8] 26)]) ?_ (by kernel_rfl)
     refine AtE.run 3 (fun W => by kernel_rfl) ?_
     refine AtE.new (fun B => .pointer (some ⟨B, 0, none⟩)) (.cells #[.nilFunc, .bool false, .nilFunc] 84) (fun W => by kernel_rfl) (by kernel_rfl) (fun B7 => ?_)
     replace H := H B7
     refine AtE.store 3 0 (T := 84) (v := .agg #[.func (.func 65) #[] #[], .bool true, .func (.func 69) #[] #[]]) (by kernel_rfl) ?_
     refine AtE.run 10 (fun W => by kernel_rfl) ?_
     refine AtE.load 3 2 (T := 47) (v := .func (.func 69) #[] #[]) (by kernel_rfl) ?_
     refine AtE.run 1 (fun W => by kernel_rfl) ?_
     refine AtE.load 2 2 (T := 9) (v := .string m_2) (by kernel_rfl) ?_
     refine AtE.call 69 ⟨[.string m_2]⟩ (fun W => by kernel_rfl) (by kernel_rfl) H ?_
     clear H
     rintro _ _ ⟨r101, rfl, rfl, H⟩
     refine AtE.call 50 ⟨[.pointer (some ⟨B2, 0, none⟩), .string r101]⟩ (fun W => by kernel_rfl) (by kernel_rfl) H ?_
     clear H
     rintro _ _ ⟨r111, r121, F5, rfl, rfl, H⟩
     refine AtE.run 2 (fun W => by kernel_rfl) ?_
     refine AtE.call 62 ⟨[.pointer (some ⟨B2, 0, none⟩), .int .u8 (10 : Int)]⟩ (fun W => by kernel_rfl) (by kernel_rfl) H ?_
     clear H
     rintro _ _ ⟨r131, F6, rfl, rfl, H⟩
     refine AtE.norm (k' := [.inRegion (regOps [.code (EngB8s34 [1,1,1,0,1,0,0,1,1,0,0,1,1,1,0,1])]) [], .inBlock 1, .code (EngB8s34 [1,1,1,0,1,0,0,1,1,1]), .inLoop (EngB8s34 [1,1,1,0,1,0,0]), .inBlock 0, .code (EngB8s34 [1,1,1,1])]) (e' := [(3, .map (some B1)), (4, .pointer (some ⟨B2, 0, none⟩)), (10, .slice (some ⟨t10_pb, t10_po, none⟩) t10_l t10_c), (11, .int .i64 t11), (12, .int .i64 t12)]) (L' := ((B1, EngB8m0) :: (B3, .cells #[.int .i64 m_0, .int .i64 m_1, .string m_2, .int .i64 m_3, .int .i64 m_4, .int .i64 m_5, .slice m_6_p m_6_l m_6_c, .int .i64 m_7, .int .i64 m_8] 26) :: (B7, .cells #[.func (.func 65) #[] #[], .bool true, .func (.func 69) #[] #[]] 84) :: F6)) ?_ (by kernel_rfl)
     refine AtE.run 7 (fun W => by kernel_rfl) ?_
     exact AtE.cutT [0] 3 H (by kernel_rfl)
    ·replace H := H.2 h4'
     refine LookAll.cons (fun h5' => ?_) (fun h5' => ?_)
     ·replace H := H.1 h5'
      refine AtE.norm (k' := [.inRegion (regOps [.code (EngB8s34 [1,1,1,0,1,0,0,1,1,0,0,1,0])]) [4,5,6,7,8,9], .code (EngB8s34 [1,1,1,0,1,0,0,1,1,0,0,1,1]), .inBlock 1, .code (EngB8s34 [1,1,1,0,1,0,0,1,1,1]), .inLoop (EngB8s34 [1,1,1,0,1,0,0]), .inBlock 0, .code (EngB8s34 [1,1,1,1])]) (e' := [(3, .map (some B1)), (4, .pointer (some ⟨B2, 0, none⟩)), (6, .pointer (some ⟨B3, 0, none⟩)), (10, .slice (some ⟨t10_pb, t10_po, none⟩) t10_l t10_c), (11, .int .i64 t11), (12, .int .i64 t12), (20, .tuple #[.agg #[.func (.func 64) #[] #[], .bool false, .func (.func 70) #[] #[]], .bool true])]) (L' := [(B1, EngB8m0), (B2, .cells #[.pointer m0, .slice none 0 0] 60), (B3, .cells #[.int .i64 m_0, .int .i64 m_1, .string m_2, .int .i64 m_3, .int .i64 m_4, .int .i64 m_5, .slice m_6_p m_6_l m_6_c, .int .i64 m_7, .int .i64 m_8] 26)]) ?_ (by kernel_rfl)
      refine AtE.run 3 (fun W => by kernel_rfl) ?_
      refine AtE.new (fun B => .pointer (some ⟨B, 0, none⟩)) (.cells #[.nilFunc, .bool false, .nilFunc] 84) (fun W => by kernel_rfl) (by kernel_rfl) (fun B8 => ?_)
      replace H := H B8
      refine AtE.store 3 0 (T := 84) (v := .agg #[.func (.func 64) #[] #[], .bool false, .func (.func 70) #[] #[]]) (by kernel_rfl) ?_
      refine AtE.run 10 (fun W => by kernel_rfl) ?_
      refine AtE.load 3 2 (T := 47) (v := .func (.func 70) #[] #[]) (by kernel_rfl) ?_
      refine AtE.run 1 (fun W => by kernel_rfl) ?_
      refine AtE.load 2 2 (T := 9) (v := .string m_2) (by kernel_rfl) ?_
      refine AtE.call 70 ⟨[.string m_2]⟩ (fun W => by kernel_rfl) (by kernel_rfl) H ?_
      clear H
      rintro _ _ ⟨r141, rfl, rfl, H⟩
      refine AtE.call 50 ⟨[.pointer (some ⟨B2, 0, none⟩), .string r141]⟩ (fun W => by kernel_rfl) (by kernel_rfl) H ?_
      clear H
      rintro _ _ ⟨r151, r161, F7, rfl, rfl, H⟩
      refine AtE.run 2 (fun W => by kernel_rfl) ?_
      refine AtE.call 62 ⟨[.pointer (some ⟨B2, 0, none⟩), .int .u8 (10 : Int)]⟩ (fun W => by kernel_rfl) (by kernel_rfl) H ?_
      clear H
      rintro _ _ ⟨r171, F8, rfl, rfl, H⟩
      refine AtE.norm (k' := [.inRegion (regOps [.code (EngB8s34 [1,1,1,0,1,0,0,1,1,0,0,1,1,1,0,1])]) [], .inBlock 1, .code (EngB8s34 [1,1,1,0,1,0,0,1,1,1]), .inLoop (EngB8s34 [1,1,1,0,1,0,0]), .inBlock 0, .code (EngB8s34 [1,1,1,1])]) (e' := [(3, .map (some B1)), (4, .pointer (some ⟨B2, 0, none⟩)), (10, .slice (some ⟨t10_pb, t10_po, none⟩) t10_l t10_c), (11, .int .i64 t11), (12, .int .i64 t12)]) (L' := ((B1, EngB8m0) :: (B3, .cells #[.int .i64 m_0, .int .i64 m_1, .string m_2, .int .i64 m_3, .int .i64 m_4, .int .i64 m_5, .slice m_6_p m_6_l m_6_c, .int .i64 m_7, .int .i64 m_8] 26) :: (B8, .cells #[.func (.func 64) #[] #[], .bool false, .func (.func 70) #[] #[]] 84) :: F8)) ?_ (by kernel_rfl)
      refine AtE.run 7 (fun W => by kernel_rfl) ?_
      exact AtE.cutT [0] 3 H (by kernel_rfl)
     ·replace H := H.2 h5'
      refine LookAll.cons (fun h6' => ?_) (fun h6' => ?_)
      ·replace H := H.1 h6'
       refine AtE.norm (k' := [.inRegion (regOps [.code (EngB8s34 [1,1,1,0,1,0,0,1,1,0,0,1,0])]) [4,5,6,7,8,9], .code (EngB8s34 [1,1,1,0,1,0,0,1,1,0,0,1,1]), .inBlock 1, .code (EngB8s34 [1,1,1,0,1,0,0,1,1,1]), .inLoop (EngB8s34 [1,1,1,0,1,0,0]), .inBlock 0, .code (EngB8s34 [1,1,1,1])]) (e' := [(3, .map (some B1)), (4, .pointer (some ⟨B2, 0, none⟩)), (6, .pointer (some ⟨B3, 0, none⟩)), (10, .slice (some ⟨t10_pb, t10_po, none⟩) t10_l t10_c), (11, .int .i64 t11), (12, .int .i64 t12), (20, .tuple #[.agg #[.func (.func 71) #[] #[], .bool false, .func (.func 72) #[] #[]], .bool true])]) (L' := [(B1, EngB8m0), (B2, .cells #[.pointer m0, .slice none 0 0] 60), (B3, .cells #[.int .i64 m_0, .int .i64 m_1, .string m_2, .int .i64 m_3, .int .i64 m_4, .int .i64 m_5, .slice m_6_p m_6_l m_6_c, .int .i64 m_7, .int .i64 m_8] 26)]) ?_ (by kernel_rfl)
       refine AtE.run 3 (fun W => by kernel_rfl) ?_
       refine AtE.new (fun B => .pointer (some ⟨B, 0, none⟩)) (.cells #[.nilFunc, .bool false, .nilFunc] 84) (fun W => by kernel_rfl) (by kernel_rfl) (fun B9 => ?_)
       replace H := H B9
       refine AtE.store 3 0 (T := 84) (v := .agg #[.func (.func 71) #[] #[], .bool false, .func (.func 72) #[] #[]]) (by kernel_rfl) ?_
       refine AtE.run 10 (fun W => by kernel_rfl) ?_
       refine AtE.load 3 2 (T := 47) (v := .func (.func 72) #[] #[]) (by kernel_rfl) ?_
       refine AtE.run 1 (fun W => by kernel_rfl) ?_
       refine AtE.load 2 2 (T := 9) (v := .string m_2) (by kernel_rfl) ?_
       refine AtE.call 72 ⟨[.string m_2]⟩ (fun W => by kernel_rfl) (by kernel_rfl) H ?_
       clear H
       rintro _ _ ⟨r181, rfl, rfl, H⟩
       refine AtE.call 50 ⟨[.pointer (some ⟨B2, 0, none⟩), .string r181]⟩ (fun W => by kernel_rfl) (by kernel_rfl) H ?_
       clear H
       rintro _ _ ⟨r191, r201, F9, rfl, rfl, H⟩
       refine AtE.run 2 (fun W => by kernel_rfl) ?_
       refine AtE.call 62 ⟨[.pointer (some ⟨B2, 0, none⟩), .int .u8 (10 : Int)]⟩ (fun W => by kernel_rfl) (by kernel_rfl) H ?_
       clear H
       rintro _ _ ⟨r221, F10, rfl, rfl, H⟩
       refine AtE.norm (k' := [.inRegion (regOps [.code (EngB8s34 [1,1,1,0,1,0,0,1,1,0,0,1,1,1,0,1])]) [], .inBlock 1, .code (EngB8s34 [1,1,1,0,1,0,0,1,1,1]), .inLoop (EngB8s34 [1,1,1,0,1,0,0]), .inBlock 0, .code (EngB8s34 [1,1,1,1])]) (e' := [(3, .map (some B1)), (4, .pointer (some ⟨B2, 0, none⟩)), (10, .slice (some ⟨t10_pb, t10_po, none⟩) t10_l t10_c), (11, .int .i64 t11), (12, .int .i64 t12)]) (L' := ((B1, EngB8m0) :: (B3, .cells #[.int .i64 m_0, .int .i64 m_1, .string m_2, .int .i64 m_3, .int .i64 m_4, .int .i64 m_5, .slice m_6_p m_6_l m_6_c, .int .i64 m_7, .int .i64 m_8] 26) :: (B9, .cells #[.func (.func 71) #[] #[], .bool false, .func (.func 72) #[] #[]] 84) :: F10)) ?_ (by kernel_rfl)
       refine AtE.run 7 (fun W => by kernel_rfl) ?_
       exact AtE.cutT [0] 3 H (by kernel_rfl)
      ·replace H := H.2 h6'
       refine AtE.norm (k' := [.inRegion (regOps [.code (EngB8s34 [1,1,1,0,1,0,0,1,1,0,0,1,0])]) [4,5,6,7,8,9], .code (EngB8s34 [1,1,1,0,1,0,0,1,1,0,0,1,1]), .inBlock 1, .code (EngB8s34 [1,1,1,0,1,0,0,1,1,1]), .inLoop (EngB8s34 [1,1,1,0,1,0,0]), .inBlock 0, .code (EngB8s34 [1,1,1,1])]) (e' := [(3, .map (some B1)), (4, .pointer (some ⟨B2, 0, none⟩)), (6, .pointer (some ⟨B3, 0, none⟩)), (10, .slice (some ⟨t10_pb, t10_po, none⟩) t10_l t10_c), (11, .int .i64 t11), (12, .int .i64 t12), (20, .tuple #[.agg #[.nilFunc, .bool false, .nilFunc], .bool false])]) (L' := [(B1, EngB8m0), (B2, .cells #[.pointer m0, .slice none 0 0] 60), (B3, .cells #[.int .i64 m_0, .int .i64 m_1, .string m_2, .int .i64 m_3, .int .i64 m_4, .int .i64 m_5, .slice m_6_p m_6_l m_6_c, .int .i64 m_7, .int .i64 m_8] 26)]) ?_ (by kernel_rfl)
       refine AtE.run 3 (fun W => by kernel_rfl) ?_
       refine AtE.new (fun B => .pointer (some ⟨B, 0, none⟩)) (.cells #[.nilFunc, .bool false, .nilFunc] 84) (fun W => by kernel_rfl) (by kernel_rfl) (fun B10 => ?_)
       replace H := H B10
       refine AtE.store 3 0 (T := 84) (v := .agg #[.nilFunc, .bool false, .nilFunc]) (by kernel_rfl) ?_
       refine AtE.run 14 (fun W => by kernel_rfl) ?_
       exact AtE.cut [0,1] H (by kernel_rfl)
 ·replace H := H.2 h1'
  refine AtE.run 4 (fun W => by kernel_rfl) ?_
  refine AtE.call 51 ⟨[.pointer (some ⟨B2, 0, none⟩)]⟩ (fun W => by kernel_rfl) (by kernel_rfl) H ?_
  clear H
  rintro _ _ ⟨r231, F11, rfl, rfl, H⟩
  refine AtE.run 2 (fun W => by kernel_rfl) ?_
  exact AtE.ret Tryd.func34 (by kernel_rfl) H
theorem plain_c1_vc (B5 : Nat) (plain_b : Nat) (t101_p : Option Addr) (t101_l : Nat) (t101_c : Nat) (t111 : Int) (t121 : Int) (F2 : SHeap) {R : Ending → World → Prop} {w0 : World}
  (H :
   ((t121 < t111) →
    ∃ t101_pb t101_po : Nat, t101_p = some ⟨t101_pb, t101_po, none⟩ ∧
    (0 ≤ t121 ∧ t121 < t101_l) ∧
    ∃ (cw1 : List Value) (m1_0 : Int) (m1_1 : Int) (m1_2 : ByteArray) (m1_3 : Int) (m1_4 : Int) (m1_5 : Int) (m1_6_p : Option Addr) (m1_6_l : Nat) (m1_6_c : Nat) (m1_7 : Int) (m1_8 : Int), blkW w0 t101_pb = some cw1 ∧ ((cw1.drop (t101_po + ((Int.toNat t121) * 9))).take 9 = [.int .i64 m1_0, .int .i64 m1_1, .string m1_2, .int .i64 m1_3, .int .i64 m1_4, .int .i64 m1_5, .slice m1_6_p m1_6_l m1_6_c, .int .i64 m1_7, .int .i64 m1_8] ∧ (t101_po + ((Int.toNat t121) * 9)) + 9 ≤ cw1.length) ∧
    ∀ B13 : Nat,
    ((m1_1 = (1 : Int)) →
     ∀ B14 : Nat,
     CallH Tryd.prog 66 ⟨[.string m1_2]⟩ ((B14, .cells #[.func (.func 64) #[] #[], .bool false, .func (.func 66) #[] #[]] 84) :: (B13, .cells #[.int .i64 m1_0, .int .i64 m1_1, .string m1_2, .int .i64 m1_3, .int .i64 m1_4, .int .i64 m1_5, .slice m1_6_p m1_6_l m1_6_c, .int .i64 m1_7, .int .i64 m1_8] 26) :: (B5, EngB8m0) :: F2) [] w0 (fun v L' => ∃ (r241 : ByteArray), v = (.string r241) ∧ L' = ((B14, .cells #[.func (.func 64) #[] #[], .bool false, .func (.func 66) #[] #[]] 84) :: (B13, .cells #[.int .i64 m1_0, .int .i64 m1_1, .string m1_2, .int .i64 m1_3, .int .i64 m1_4, .int .i64 m1_5, .slice m1_6_p m1_6_l m1_6_c, .int .i64 m1_7, .int .i64 m1_8] 26) :: (B5, EngB8m0) :: F2) ∧
      CallH Tryd.prog 50 ⟨[.pointer (some ⟨plain_b, 0, none⟩), .string r241]⟩ ((B14, .cells #[.func (.func 64) #[] #[], .bool false, .func (.func 66) #[] #[]] 84) :: (B13, .cells #[.int .i64 m1_0, .int .i64 m1_1, .string m1_2, .int .i64 m1_3, .int .i64 m1_4, .int .i64 m1_5, .slice m1_6_p m1_6_l m1_6_c, .int .i64 m1_7, .int .i64 m1_8] 26) :: (B5, EngB8m0) :: F2) [] w0 (fun v L' => ∃ (r251 : Int) (r261 : Value) (F12 : SHeap), v = (.tuple #[.int .i64 r251, r261]) ∧ L' = ((B14, .cells #[.func (.func 64) #[] #[], .bool false, .func (.func 66) #[] #[]] 84) :: (B13, .cells #[.int .i64 m1_0, .int .i64 m1_1, .string m1_2, .int .i64 m1_3, .int .i64 m1_4, .int .i64 m1_5, .slice m1_6_p m1_6_l m1_6_c, .int .i64 m1_7, .int .i64 m1_8] 26) :: (B5, EngB8m0) :: F12) ∧
       CallH Tryd.prog 62 ⟨[.pointer (some ⟨plain_b, 0, none⟩), .int .u8 (10 : Int)]⟩ ((B14, .cells #[.func (.func 64) #[] #[], .bool false, .func (.func 66) #[] #[]] 84) :: (B13, .cells #[.int .i64 m1_0, .int .i64 m1_1, .string m1_2, .int .i64 m1_3, .int .i64 m1_4, .int .i64 m1_5, .slice m1_6_p m1_6_l m1_6_c, .int .i64 m1_7, .int .i64 m1_8] 26) :: (B5, EngB8m0) :: F12) [] w0 (fun v L' => ∃ (r271 : Value) (F13 : SHeap), v = (r271) ∧ L' = ((B14, .cells #[.func (.func 64) #[] #[], .bool false, .func (.func 66) #[] #[]] 84) :: (B13, .cells #[.int .i64 m1_0, .int .i64 m1_1, .string m1_2, .int .i64 m1_3, .int .i64 m1_4, .int .i64 m1_5, .slice m1_6_p m1_6_l m1_6_c, .int .i64 m1_7, .int .i64 m1_8] 26) :: (B5, EngB8m0) :: F13) ∧
        plain_c1 B5 plain_b (some ⟨t101_pb, t101_po, none⟩) t101_l t101_c t111 (IntKind.i64.wrap (t121 + (1 : Int))) F13 w0 R)))) ∧
     ((¬ m1_1 = (1 : Int)) →
     ((m1_1 = (2 : Int)) →
      ∀ B15 : Nat,
      CallH Tryd.prog 67 ⟨[.string m1_2]⟩ ((B15, .cells #[.func (.func 64) #[] #[], .bool false, .func (.func 67) #[] #[]] 84) :: (B13, .cells #[.int .i64 m1_0, .int .i64 m1_1, .string m1_2, .int .i64 m1_3, .int .i64 m1_4, .int .i64 m1_5, .slice m1_6_p m1_6_l m1_6_c, .int .i64 m1_7, .int .i64 m1_8] 26) :: (B5, EngB8m0) :: F2) [] w0 (fun v L' => ∃ (r281 : ByteArray), v = (.string r281) ∧ L' = ((B15, .cells #[.func (.func 64) #[] #[], .bool false, .func (.func 67) #[] #[]] 84) :: (B13, .cells #[.int .i64 m1_0, .int .i64 m1_1, .string m1_2, .int .i64 m1_3, .int .i64 m1_4, .int .i64 m1_5, .slice m1_6_p m1_6_l m1_6_c, .int .i64 m1_7, .int .i64 m1_8] 26) :: (B5, EngB8m0) :: F2) ∧
       CallH Tryd.prog 50 ⟨[.pointer (some ⟨plain_b, 0, none⟩), .string r281]⟩ ((B15, .cells #[.func (.func 64) #[] #[], .bool false, .func (.func 67) #[] #[]] 84) :: (B13, .cells #[.int .i64 m1_0, .int .i64 m1_1, .string m1_2, .int .i64 m1_3, .int .i64 m1_4, .int .i64 m1_5, .slice m1_6_p m1_6_l m1_6_c, .int .i64 m1_7, .int .i64 m1_8] 26) :: (B5, EngB8m0) :: F2) [] w0 (fun v L' => ∃ (r291 : Int) (r301 : Value) (F14 : SHeap), v = (.tuple #[.int .i64 r291, r301]) ∧ L' = ((B15, .cells #[.func (.func 64) #[] #[], .bool false, .func (.func 67) #[] #[]] 84) :: (B13, .cells #[.int .i64 m1_0, .int .i64 m1_1, .string m1_2, .int .i64 m1_3, .int .i64 m1_4, .int .i64 m1_5, .slice m1_6_p m1_6_l m1_6_c, .int .i64 m1_7, .int .i64 m1_8] 26) :: (B5, EngB8m0) :: F14) ∧
        CallH Tryd.prog 62 ⟨[.pointer (some ⟨plain_b, 0, none⟩), .int .u8 (10 : Int)]⟩ ((B15, .cells #[.func (.func 64) #[] #[], .bool false, .func (.func 67) #[] #[]] 84) :: (B13, .cells #[.int .i64 m1_0, .int .i64 m1_1, .string m1_2, .int .i64 m1_3, .int .i64 m1_4, .int .i64 m1_5, .slice m1_6_p m1_6_l m1_6_c, .int .i64 m1_7, .int .i64 m1_8] 26) :: (B5, EngB8m0) :: F14) [] w0 (fun v L' => ∃ (r321 : Value) (F15 : SHeap), v = (r321) ∧ L' = ((B15, .cells #[.func (.func 64) #[] #[], .bool false, .func (.func 67) #[] #[]] 84) :: (B13, .cells #[.int .i64 m1_0, .int .i64 m1_1, .string m1_2, .int .i64 m1_3, .int .i64 m1_4, .int .i64 m1_5, .slice m1_6_p m1_6_l m1_6_c, .int .i64 m1_7, .int .i64 m1_8] 26) :: (B5, EngB8m0) :: F15) ∧
         plain_c1 B5 plain_b (some ⟨t101_pb, t101_po, none⟩) t101_l t101_c t111 (IntKind.i64.wrap (t121 + (1 : Int))) F15 w0 R)))) ∧
      ((¬ m1_1 = (2 : Int)) →
      ((m1_1 = (3 : Int)) →
       ∀ B16 : Nat,
       CallH Tryd.prog 69 ⟨[.string m1_2]⟩ ((B16, .cells #[.func (.func 65) #[] #[], .bool true, .func (.func 69) #[] #[]] 84) :: (B13, .cells #[.int .i64 m1_0, .int .i64 m1_1, .string m1_2, .int .i64 m1_3, .int .i64 m1_4, .int .i64 m1_5, .slice m1_6_p m1_6_l m1_6_c, .int .i64 m1_7, .int .i64 m1_8] 26) :: (B5, EngB8m0) :: F2) [] w0 (fun v L' => ∃ (r331 : ByteArray), v = (.string r331) ∧ L' = ((B16, .cells #[.func (.func 65) #[] #[], .bool true, .func (.func 69) #[] #[]] 84) :: (B13, .cells #[.int .i64 m1_0, .int .i64 m1_1, .string m1_2, .int .i64 m1_3, .int .i64 m1_4, .int .i64 m1_5, .slice m1_6_p m1_6_l m1_6_c, .int .i64 m1_7, .int .i64 m1_8] 26) :: (B5, EngB8m0) :: F2) ∧
        CallH Tryd.prog 50 ⟨[.pointer (some ⟨plain_b, 0, none⟩), .string r331]⟩ ((B16, .cells #[.func (.func 65) #[] #[], .bool true, .func (.func 69) #[] #[]] 84) :: (B13, .cells #[.int .i64 m1_0, .int .i64 m1_1, .string m1_2, .int .i64 m1_3, .int .i64 m1_4, .int .i64 m1_5, .slice m1_6_p m1_6_l m1_6_c, .int .i64 m1_7, .int .i64 m1_8] 26) :: (B5, EngB8m0) :: F2) [] w0 (fun v L' => ∃ (r341 : Int) (r351 : Value) (F16 : SHeap), v = (.tuple #[.int .i64 r341, r351]) ∧ L' = ((B16, .cells #[.func (.func 65) #[] #[], .bool true, .func (.func 69) #[] #[]] 84) :: (B13, .cells #[.int .i64 m1_0, .int .i64 m1_1, .string m1_2, .int .i64 m1_3, .int .i64 m1_4, .int .i64 m1_5, .slice m1_6_p m1_6_l m1_6_c, .int .i64 m1_7, .int .i64 m1_8] 26) :: (B5, EngB8m0) :: F16) ∧
         CallH Tryd.prog 62 ⟨[.pointer (some ⟨plain_b, 0, none⟩), .int .u8 (10 : Int)]⟩ ((B16, .cells #[.func (.func 65) #[] #[], .bool true, .func (.func 69) #[] #[]] 84) :: (B13, .cells #[.int .i64 m1_0, .int .i64 m1_1, .string m1_2, .int .i64 m1_3, .int .i64 m1_4, .int .i64 m1_5, .slice m1_6_p m1_6_l m1_6_c, .int .i64 m1_7, .int .i64 m1_8] 26) :: (B5, EngB8m0) :: F16) [] w0 (fun v L' => ∃ (r361 : Value) (F17 : SHeap), v = (r361) ∧ L' = ((B16, .cells #[.func (.func 65) #[] #[], .bool true, .func (.func 69) #[] #[]] 84) :: (B13, .cells #[.int .i64 m1_0, .int .i64 m1_1, .string m1_2, .int .i64 m1_3, .int .i64 m1_4, .int .i64 m1_5, .slice m1_6_p m1_6_l m1_6_c, .int .i64 m1_7, .int .i64 m1_8] 26) :: (B5, EngB8m0) :: F17) ∧
          plain_c1 B5 plain_b (some ⟨t101_pb, t101_po, none⟩) t101_l t101_c t111 (IntKind.i64.wrap (t121 + (1 : Int))) F17 w0 R)))) ∧
       ((¬ m1_1 = (3 : Int)) →
       ((m1_1 = (4 : Int)) →
        ∀ B17 : Nat,
        CallH Tryd.prog 70 ⟨[.string m1_2]⟩ ((B17, .cells #[.func (.func 64) #[] #[], .bool false, .func (.func 70) #[] #[]] 84) :: (B13, .cells #[.int .i64 m1_0, .int .i64 m1_1, .string m1_2, .int .i64 m1_3, .int .i64 m1_4, .int .i64 m1_5, .slice m1_6_p m1_6_l m1_6_c, .int .i64 m1_7, .int .i64 m1_8] 26) :: (B5, EngB8m0) :: F2) [] w0 (fun v L' => ∃ (r371 : ByteArray), v = (.string r371) ∧ L' = ((B17, .cells #[.func (.func 64) #[] #[], .bool false, .func (.func 70) #[] #[]] 84) :: (B13, .cells #[.int .i64 m1_0, .int .i64 m1_1, .string m1_2, .int .i64 m1_3, .int .i64 m1_4, .int .i64 m1_5, .slice m1_6_p m1_6_l m1_6_c, .int .i64 m1_7, .int .i64 m1_8] 26) :: (B5, EngB8m0) :: F2) ∧
         CallH Tryd.prog 50 ⟨[.pointer (some ⟨plain_b, 0, none⟩), .string r371]⟩ ((B17, .cells #[.func (.func 64) #[] #[], .bool false, .func (.func 70) #[] #[]] 84) :: (B13, .cells #[.int .i64 m1_0, .int .i64 m1_1, .string m1_2, .int .i64 m1_3, .int .i64 m1_4, .int .i64 m1_5, .slice m1_6_p m1_6_l m1_6_c, .int .i64 m1_7, .int .i64 m1_8] 26) :: (B5, EngB8m0) :: F2) [] w0 (fun v L' => ∃ (r381 : Int) (r391 : Value) (F18 : SHeap), v = (.tuple #[.int .i64 r381, r391]) ∧ L' = ((B17, .cells #[.func (.func 64) #[] #[], .bool false, .func (.func 70) #[] #[]] 84) :: (B13, .cells #[.int .i64 m1_0, .int .i64 m1_1, .string m1_2, .int .i64 m1_3, .int .i64 m1_4, .int .i64 m1_5, .slice m1_6_p m1_6_l m1_6_c, .int .i64 m1_7, .int .i64 m1_8] 26) :: (B5, EngB8m0) :: F18) ∧
          CallH Tryd.prog 62 ⟨[.pointer (some ⟨plain_b, 0, none⟩), .int .u8 (10 : Int)]⟩ ((B17, .cells #[.func (.func 64) #[] #[], .bool false, .func (.func 70) #[] #[]] 84) :: (B13, .cells #[.int .i64 m1_0, .int .i64 m1_1, .string m1_2, .int .i64 m1_3, .int .i64 m1_4, .int .i64 m1_5, .slice m1_6_p m1_6_l m1_6_c, .int .i64 m1_7, .int .i64 m1_8] 26) :: (B5, EngB8m0) :: F18) [] w0 (fun v L' => ∃ (r401 : Value) (F19 : SHeap), v = (r401) ∧ L' = ((B17, .cells #[.func (.func 64) #[] #[], .bool false, .func (.func 70) #[] #[]] 84) :: (B13, .cells #[.int .i64 m1_0, .int .i64 m1_1, .string m1_2, .int .i64 m1_3, .int .i64 m1_4, .int .i64 m1_5, .slice m1_6_p m1_6_l m1_6_c, .int .i64 m1_7, .int .i64 m1_8] 26) :: (B5, EngB8m0) :: F19) ∧
           plain_c1 B5 plain_b (some ⟨t101_pb, t101_po, none⟩) t101_l t101_c t111 (IntKind.i64.wrap (t121 + (1 : Int))) F19 w0 R)))) ∧
        ((¬ m1_1 = (4 : Int)) →
        ((m1_1 = (5 : Int)) →
         ∀ B18 : Nat,
         CallH Tryd.prog 72 ⟨[.string m1_2]⟩ ((B18, .cells #[.func (.func 71) #[] #[], .bool false, .func (.func 72) #[] #[]] 84) :: (B13, .cells #[.int .i64 m1_0, .int .i64 m1_1, .string m1_2, .int .i64 m1_3, .int .i64 m1_4, .int .i64 m1_5, .slice m1_6_p m1_6_l m1_6_c, .int .i64 m1_7, .int .i64 m1_8] 26) :: (B5, EngB8m0) :: F2) [] w0 (fun v L' => ∃ (r421 : ByteArray), v = (.string r421) ∧ L' = ((B18, .cells #[.func (.func 71) #[] #[], .bool false, .func (.func 72) #[] #[]] 84) :: (B13, .cells #[.int .i64 m1_0, .int .i64 m1_1, .string m1_2, .int .i64 m1_3, .int .i64 m1_4, .int .i64 m1_5, .slice m1_6_p m1_6_l m1_6_c, .int .i64 m1_7, .int .i64 m1_8] 26) :: (B5, EngB8m0) :: F2) ∧
          CallH Tryd.prog 50 ⟨[.pointer (some ⟨plain_b, 0, none⟩), .string r421]⟩ ((B18, .cells #[.func (.func 71) #[] #[], .bool false, .func (.func 72) #[] #[]] 84) :: (B13, .cells #[.int .i64 m1_0, .int .i64 m1_1, .string m1_2, .int .i64 m1_3, .int .i64 m1_4, .int .i64 m1_5, .slice m1_6_p m1_6_l m1_6_c, .int .i64 m1_7, .int .i64 m1_8] 26) :: (B5, EngB8m0) :: F2) [] w0 (fun v L' => ∃ (r431 : Int) (r441 : Value) (F20 : SHeap), v = (.tuple #[.int .i64 r431, r441]) ∧ L' = ((B18, .cells #[.func (.func 71) #[] #[], .bool false, .func (.func 72) #[] #[]] 84) :: (B13, .cells #[.int .i64 m1_0, .int .i64 m1_1, .string m1_2, .int .i64 m1_3, .int .i64 m1_4, .int .i64 m1_5, .slice m1_6_p m1_6_l m1_6_c, .int .i64 m1_7, .int .i64 m1_8] 26) :: (B5, EngB8m0) :: F20) ∧
           CallH Tryd.prog 62 ⟨[.pointer (some ⟨plain_b, 0, none⟩), .int .u8 (10 : Int)]⟩ ((B18, .cells #[.func (.func 71) #[] #[], .bool false, .func (.func 72) #[] #[]] 84) :: (B13, .cells #[.int .i64 m1_0, .int .i64 m1_1, .string m1_2, .int .i64 m1_3, .int .i64 m1_4, .int .i64 m1_5, .slice m1_6_p m1_6_l m1_6_c, .int .i64 m1_7, .int .i64 m1_8] 26) :: (B5, EngB8m0) :: F20) [] w0 (fun v L' => ∃ (r451 : Value) (F21 : SHeap), v = (r451) ∧ L' = ((B18, .cells #[.func (.func 71) #[] #[], .bool false, .func (.func 72) #[] #[]] 84) :: (B13, .cells #[.int .i64 m1_0, .int .i64 m1_1, .string m1_2, .int .i64 m1_3, .int .i64 m1_4, .int .i64 m1_5, .slice m1_6_p m1_6_l m1_6_c, .int .i64 m1_7, .int .i64 m1_8] 26) :: (B5, EngB8m0) :: F21) ∧
            plain_c1 B5 plain_b (some ⟨t101_pb, t101_po, none⟩) t101_l t101_c t111 (IntKind.i64.wrap (t121 + (1 : Int))) F21 w0 R)))) ∧
         ((¬ m1_1 = (5 : Int)) →
         ∀ B19 : Nat,
         plain_c1 B5 plain_b (some ⟨t101_pb, t101_po, none⟩) t101_l t101_c t111 (IntKind.i64.wrap (t121 + (1 : Int))) F2 w0 R)))))) ∧
    ((¬ (t121 < t111)) →
    CallH Tryd.prog 51 ⟨[.pointer (some ⟨plain_b, 0, none⟩)]⟩ ((B5, EngB8m0) :: F2) [] w0 (fun v L' => ∃ (r461 : ByteArray) (F22 : SHeap), v = (.string r461) ∧ L' = ((B5, EngB8m0) :: F22) ∧
     Fin R ((B5, EngB8m0) :: F22) [] w0 (.string r461)))) :
  plain_c1 B5 plain_b t101_p t101_l t101_c t111 t121 F2 w0 R := by
 unfold plain_c1
 refine AtE.run 5 (fun W => by kernel_rfl) ?_
 refine AtE.splitP 13 (p := t121 < t111) (by kernel_rfl) (fun h7' => ?_) (fun h7' => ?_)
 ·replace H := H.1 h7'
  refine AtE.run 6 (fun W => by kernel_rfl) ?_
  obtain ⟨t101_pb, t101_po, rfl, H⟩ := H
  refine AtE.indexAddrL (E := 26) (b := t101_pb) (o := t101_po) (len := t101_l) (cap := t101_c) (sz := 9) (o' := (t101_po + ((Int.toNat t121) * 9))) (kd := .i64) (i := t121) (by kernel_rfl) H.1 (by omega) ?_
  replace H := H.2
  obtain ⟨cw1, m1_0, m1_1, m1_2, m1_3, m1_4, m1_5, m1_6_p, m1_6_l, m1_6_c, m1_7, m1_8, hw, hx, H⟩ := H
  refine AtE.loadW (b := t101_pb) (off := (t101_po + ((Int.toNat t121) * 9))) (T := 26) (v := .agg #[.int .i64 m1_0, .int .i64 m1_1, .string m1_2, .int .i64 m1_3, .int .i64 m1_4, .int .i64 m1_5, .slice m1_6_p m1_6_l m1_6_c, .int .i64 m1_7, .int .i64 m1_8]) (by kernel_rfl) List.not_mem_nil hw (valAt_agg hx.1 hx.2 (by kernel_rfl) (by kernel_rfl)) ?_
  refine AtE.new (fun B => .pointer (some ⟨B, 0, none⟩)) (.cells #[.int .i64 (0 : Int), .int .i64 (0 : Int), .string (⟨#[]⟩), .int .i64 (0 : Int), .int .i64 (0 : Int), .int .i64 (0 : Int), .slice none 0 0, .int .i64 (0 : Int), .int .i64 (0 : Int)] 26) (fun W => by kernel_rfl) (by kernel_rfl) (fun B13 => ?_)
  replace H := H B13
  refine AtE.front ?_
  refine AtE.store 0 0 (T := 26) (v := .agg #[.int .i64 m1_0, .int .i64 m1_1, .string m1_2, .int .i64 m1_3, .int .i64 m1_4, .int .i64 m1_5, .slice m1_6_p m1_6_l m1_6_c, .int .i64 m1_7, .int .i64 m1_8]) (by kernel_rfl) ?_
  refine AtE.run 5 (fun W => by kernel_rfl) ?_
  refine AtE.load 0 1 (T := 3) (v := .int .i64 m1_1) (by kernel_rfl) ?_
  refine AtE.norm (k' := [.inRegion (regOps [.code (EngB8s34 [1,1,1,0,1,0,0,1,1,0,0,1,0])]) [3,4,5,6,7,8,9], .code (EngB8s34 [1,1,1,0,1,0,0,1,1,0,0,1,1]), .inBlock 1, .code (EngB8s34 [1,1,1,0,1,0,0,1,1,1]), .inLoop (EngB8s34 [1,1,1,0,1,0,0]), .inBlock 0, .code (EngB8s34 [1,1,1,1])]) (e' := [(3, .map (some B5)), (4, .pointer (some ⟨plain_b, 0, none⟩)), (6, .pointer (some ⟨B13, 0, none⟩)), (10, .slice (some ⟨t101_pb, t101_po, none⟩) t101_l t101_c), (11, .int .i64 t111), (12, .int .i64 t121), (17, .map (some B5)), (19, .int .i64 m1_1)]) (L' := ((B13, .cells #[.int .i64 m1_0, .int .i64 m1_1, .string m1_2, .int .i64 m1_3, .int .i64 m1_4, .int .i64 m1_5, .slice m1_6_p m1_6_l m1_6_c, .int .i64 m1_7, .int .i64 m1_8] 26) :: (B5, EngB8m0) :: F2)) ?_ (by kernel_rfl)
  refine AtE.look 1 (b := B5) (c := 5) (es := #[{ key := .int .i64 (1 : Int), val := .agg #[.func (.func 64) #[] #[], .bool false, .func (.func 66) #[] #[]], born := 0 }, { key := .int .i64 (2 : Int), val := .agg #[.func (.func 64) #[] #[], .bool false, .func (.func 67) #[] #[]], born := 1 }, { key := .int .i64 (3 : Int), val := .agg #[.func (.func 65) #[] #[], .bool true, .func (.func 69) #[] #[]], born := 2 }, { key := .int .i64 (4 : Int), val := .agg #[.func (.func 64) #[] #[], .bool false, .func (.func 70) #[] #[]], born := 3 }, { key := .int .i64 (5 : Int), val := .agg #[.func (.func 71) #[] #[], .bool false, .func (.func 72) #[] #[]], born := 4 }]) (kt := 3) (et := 84) (kd := .i64) (n := m1_1) (z := .agg #[.nilFunc, .bool false, .nilFunc]) (by kernel_rfl) ?_
  refine LookAll.cons (fun h8' => ?_) (fun h8' => ?_)
  ·replace H := H.1 h8'
   refine AtE.norm (k' := [.inRegion (regOps [.code (EngB8s34 [1,1,1,0,1,0,0,1,1,0,0,1,0])]) [4,5,6,7,8,9], .code (EngB8s34 [1,1,1,0,1,0,0,1,1,0,0,1,1]), .inBlock 1, .code (EngB8s34 [1,1,1,0,1,0,0,1,1,1]), .inLoop (EngB8s34 [1,1,1,0,1,0,0]), .inBlock 0, .code (EngB8s34 [1,1,1,1])]) (e' := [(3, .map (some B5)), (4, .pointer (some ⟨plain_b, 0, none⟩)), (6, .pointer (some ⟨B13, 0, none⟩)), (10, .slice (some ⟨t101_pb, t101_po, none⟩) t101_l t101_c), (11, .int .i64 t111), (12, .int .i64 t121), (20, .tuple #[.agg #[.func (.func 64) #[] #[], .bool false, .func (.func 66) #[] #[]], .bool true])]) (L' := ((B13, .cells #[.int .i64 m1_0, .int .i64 m1_1, .string m1_2, .int .i64 m1_3, .int .i64 m1_4, .int .i64 m1_5, .slice m1_6_p m1_6_l m1_6_c, .int .i64 m1_7, .int .i64 m1_8] 26) :: (B5, EngB8m0) :: F2)) ?_ (by kernel_rfl)
   refine AtE.run 3 (fun W => by kernel_rfl) ?_
   refine AtE.new (fun B => .pointer (some ⟨B, 0, none⟩)) (.cells #[.nilFunc, .bool false, .nilFunc] 84) (fun W => by kernel_rfl) (by kernel_rfl) (fun B14 => ?_)
   replace H := H B14
   refine AtE.front ?_
   refine AtE.store 0 0 (T := 84) (v := .agg #[.func (.func 64) #[] #[], .bool false, .func (.func 66) #[] #[]]) (by kernel_rfl) ?_
   refine AtE.run 10 (fun W => by kernel_rfl) ?_
   refine AtE.load 0 2 (T := 47) (v := .func (.func 66) #[] #[]) (by kernel_rfl) ?_
   refine AtE.run 1 (fun W => by kernel_rfl) ?_
   refine AtE.load 1 2 (T := 9) (v := .string m1_2) (by kernel_rfl) ?_
   refine AtE.call 66 ⟨[.string m1_2]⟩ (fun W => by kernel_rfl) (by kernel_rfl) H ?_
   clear H
   rintro _ _ ⟨r241, rfl, rfl, H⟩
   refine AtE.call 50 ⟨[.pointer (some ⟨plain_b, 0, none⟩), .string r241]⟩ (fun W => by kernel_rfl) (by kernel_rfl) H ?_
   clear H
   rintro _ _ ⟨r251, r261, F12, rfl, rfl, H⟩
   refine AtE.run 2 (fun W => by kernel_rfl) ?_
   refine AtE.call 62 ⟨[.pointer (some ⟨plain_b, 0, none⟩), .int .u8 (10 : Int)]⟩ (fun W => by kernel_rfl) (by kernel_rfl) H ?_
   clear H
   rintro _ _ ⟨r271, F13, rfl, rfl, H⟩
   refine AtE.norm (k' := [.inRegion (regOps [.code (EngB8s34 [1,1,1,0,1,0,0,1,1,0,0,1,1,1,0,1])]) [], .inBlock 1, .code (EngB8s34 [1,1,1,0,1,0,0,1,1,1]), .inLoop (EngB8s34 [1,1,1,0,1,0,0]), .inBlock 0, .code (EngB8s34 [1,1,1,1])]) (e' := [(3, .map (some B5)), (4, .pointer (some ⟨plain_b, 0, none⟩)), (10, .slice (some ⟨t101_pb, t101_po, none⟩) t101_l t101_c), (11, .int .i64 t111), (12, .int .i64 t121)]) (L' := ((B14, .cells #[.func (.func 64) #[] #[], .bool false, .func (.func 66) #[] #[]] 84) :: (B13, .cells #[.int .i64 m1_0, .int .i64 m1_1, .string m1_2, .int .i64 m1_3, .int .i64 m1_4, .int .i64 m1_5, .slice m1_6_p m1_6_l m1_6_c, .int .i64 m1_7, .int .i64 m1_8] 26) :: (B5, EngB8m0) :: F13)) ?_ (by kernel_rfl)
   refine AtE.run 7 (fun W => by kernel_rfl) ?_
   exact AtE.cutT [2] 3 H (by kernel_rfl)
  ·replace H := H.2 h8'
   refine LookAll.cons (fun h9' => ?_) (fun h9' => ?_)
   ·replace H := H.1 h9'
    refine AtE.norm (k' := [.inRegion (regOps [.code (EngB8s34 [1,1,1,0,1,0,0,1,1,0,0,1,0])]) [4,5,6,7,8,9], .code (EngB8s34 [1,1,1,0,1,0,0,1,1,0,0,1,1]), .inBlock 1, .code (EngB8s34 [1,1,1,0,1,0,0,1,1,1]), .inLoop (EngB8s34 [1,1,1,0,1,0,0]), .inBlock 0, .code (EngB8s34 [1,1,1,1])]) (e' := [(3, .map (some B5)), (4, .pointer (some ⟨plain_b, 0, none⟩)), (6, .pointer (some ⟨B13, 0, none⟩)), (10, .slice (some ⟨t101_pb, t101_po, none⟩) t101_l t101_c), (11, .int .i64 t111), (12, .int .i64 t121), (20, .tuple #[.agg #[.func (.func 64) #[] #[], .bool false, .func (.func 67) #[] #[]], .bool true])]) (L' := ((B13, .cells #[.int .i64 m1_0, .int .i64 m1_1, .string m1_2, .int .i64 m1_3, .int .i64 m1_4, .int .i64 m1_5, .slice m1_6_p m1_6_l m1_6_c, .int .i64 m1_7, .int .i64 m1_8] 26) :: (B5, EngB8m0) :: F2)) ?_ (by kernel_rfl)
    refine AtE.run 3 (fun W => by kernel_rfl) ?_
    refine AtE.new (fun B => .pointer (some ⟨B, 0, none⟩)) (.cells #[.nilFunc, .bool false, .nilFunc] 84) (fun W => by kernel_rfl) (by kernel_rfl) (fun B15 => ?_)
    replace H := H B15
    refine AtE.front ?_
    refine AtE.store 0 0 (T := 84) (v := .agg #[.func (.func 64) #[] #[], .bool false, .func (.func 67) #[] #[]]) (by kernel_rfl) ?_
    refine AtE.run 10 (fun W => by kernel_rfl) ?_
    refine AtE.load 0 2 (T := 47) (v := .func (.func 67) #[] #[]) (by kernel_rfl) ?_
    refine AtE.run 1 (fun W => by kernel_rfl) ?_
    refine AtE.load 1 2 (T := 9) (v := .string m1_2) (by kernel_rfl) ?_
    refine AtE.call 67 ⟨[.string m1_2]⟩ (fun W => by kernel_rfl) (by kernel_rfl) H ?_
    clear H
    rintro _ _ ⟨r281, rfl, rfl, H⟩
    refine AtE.call 50 ⟨[.pointer (some ⟨plain_b, 0, none⟩), .string r281]⟩ (fun W => by kernel_rfl) (by kernel_rfl) H ?_
    clear H
    rintro _ _ ⟨r291, r301, F14, rfl, rfl, H⟩
    refine AtE.run 2 (fun W => by kernel_rfl) ?_
    refine AtE.call 62 ⟨[.pointer (some ⟨plain_b, 0, none⟩), .int .u8 (10 : Int)]⟩ (fun W => by kernel_rfl) (by kernel_rfl) H ?_
    clear H
    rintro _ _ ⟨r321, F15, rfl, rfl, H⟩
    refine AtE.norm (k' := [.inRegion (regOps [.code (EngB8s34 [1,1,1,0,1,0,0,1,1,0,0,1,1,1,0,1])]) [], .inBlock 1, .code (EngB8s34 [1,1,1,0,1,0,0,1,1,1]), .inLoop (EngB8s34 [1,1,1,0,1,0,0]), .inBlock 0, .code (EngB8s34 [1,1,1,1])]) (e' := [(3, .map (some B5)), (4, .pointer (some ⟨plain_b, 0, none⟩)), (10, .slice (some ⟨t101_pb, t101_po, none⟩) t101_l t101_c), (11, .int .i64 t111), (12, .int .i64 t121)]) (L' := ((B15, .cells #[.func (.func 64) #[] #[], .bool false, .func (.func 67) #[] #[]] 84) :: (B13, .cells #[.int .i64 m1_0, .int .i64 m1_1, .string m1_2, .int .i64 m1_3, .int .i64 m1_4, .int .i64 m1_5, .slice m1_6_p m1_6_l m1_6_c, .int .i64 m1_7, .int .i64 m1_8] 26) :: (B5, EngB8m0) :: F15)) ?_ (by kernel_rfl)
    refine AtE.run 7 (fun W => by kernel_rfl) ?_
    exact AtE.cutT [2] 3 H (by kernel_rfl)
   ·replace H := H.2 h9'
    refine LookAll.cons (fun h10' => ?_) (fun h10' => ?_)
    ·replace H := H.1 h10'
     refine AtE.norm (k' := [.inRegion (regOps [.code (EngB8s34 [1,1,1,0,1,0,0,1,1,0,0,1,0])]) [4,5,6,7,8,9], .code (EngB8s34 [1,1,1,0,1,0,0,1,1,0,0,1,1]), .inBlock 1, .code (EngB8s34 [1,1,1,0,1,0,0,1,1,1]), .inLoop (EngB8s34 [1,1,1,0,1,0,0]), .inBlock 0, .code (EngB8s34 [1,1,1,1])]) (e' := [(3, .map (some B5)), (4, .pointer (some ⟨plain_b, 0, none⟩)), (6, .pointer (some ⟨B13, 0, none⟩)), (10, .slice (some ⟨t101_pb, t101_po, none⟩) t101_l t101_c), (11, .int .i64 t111), (12, .int .i64 t121), (20, .tuple #[.agg #[.func (.func 65) #[] #[], .bool true, .func (.func 69) #[] #[]], .bool true])]) (L' := ((B13, .cells #[.int .i64 m1_0, .int .i64 m1_1, .string m1_2, .int .i64 m1_3, .int .i64 m1_4, .int .i64 m1_5, .slice m1_6_p m1_6_l m1_6_c, .int .i64 m1_7, .int .i64 m1_8] 26) :: (B5, EngB8m0) :: F2)) ?_ (by kernel_rfl)
     refine AtE.run 3 (fun W => by kernel_rfl) ?_
     refine AtE.new (fun B => .pointer (some ⟨B, 0, none⟩)) (.cells #[.nilFunc, .bool false, .nilFunc] 84) (fun W => by kernel_rfl) (by kernel_rfl) (fun B16 => ?_)
     replace H := H B16
     refine AtE.front ?_
     refine AtE.store 0 0 (T := 84) (v := .agg #[.func (.func 65) #[] #[], .bool true, .func (.func 69) #[] #[]]) (by kernel_rfl) ?_
     refine AtE.run 10 (fun W => by kernel_rfl) ?_
     refine AtE.load 0 2 (T := 47) (v := .func (.func 69) #[] #[]) (by kernel_rfl) ?_
     refine AtE.run 1 (fun W => by kernel_rfl) ?_
     refine AtE.load 1 2 (T := 9) (v := .string m1_2) (by kernel_rfl) ?_
     refine AtE.call 69 ⟨[.string m1_2]⟩ (fun W => by kernel_rfl) (by kernel_rfl) H ?_
     clear H
     rintro _ _ ⟨r331, rfl, rfl, H⟩
     refine AtE.call 50 ⟨[.pointer (some ⟨plain_b, 0, none⟩), .string r331]⟩ (fun W => by kernel_rfl) (by kernel_rfl) H ?_
     clear H
     rintro _ _ ⟨r341, r351, F16, rfl, rfl, H⟩
     refine AtE.run 2 (fun W => by kernel_rfl) ?_
     refine AtE.call 62 ⟨[.pointer (some ⟨plain_b, 0, none⟩), .int .u8 (10 : Int)]⟩ (fun W => by kernel_rfl) (by kernel_rfl) H ?_
     clear H
     rintro _ _ ⟨r361, F17, rfl, rfl, H⟩
     refine AtE.norm (k' := [.inRegion (regOps [.code (EngB8s34 [1,1,1,0,1,0,0,1,1,0,0,1,1,1,0,1])]) [], .inBlock 1, .code (EngB8s34 [1,1,1,0,1,0,0,1,1,1]), .inLoop (EngB8s34 [1,1,1,0,1,0,0]), .inBlock 0, .code (EngB8s34 [1,1,1,1])]) (e' := [(3, .map (some B5)), (4, .pointer (some ⟨plain_b, 0, none⟩)), (10, .slice (some ⟨t101_pb, t101_po, none⟩) t101_l t101_c), (11, .int .i64 t111), (12, .int .i64 t121)]) (L' := ((B16, .cells #[.func (.func 65) #[] #[], .bool true, .func (.func 69) #[] #[]] 84) :: (B13, .cells #[.int .i64 m1_0, .int .i64 m1_1, .string m1_2, .int .i64 m1_3, .int .i64 m1_4, .int .i64 m1_5, .slice m1_6_p m1_6_l m1_6_c, .int .i64 m1_7, .int .i64 m1_8] 26) :: (B5, EngB8m0) :: F17)) ?_ (by kernel_rfl)
     refine AtE.run 7 (fun W => by kernel_rfl) ?_
     exact AtE.cutT [2] 3 H (by kernel_rfl)
    ·replace H := H.2 h10'
     refine LookAll.cons (fun h11' => ?_) (fun h11' => ?_)
     ·replace H := H.1 h11'
      refine AtE.norm (k' := [.inRegion (regOps [.code (EngB8s34 [1,1,1,0,1,0,0,1,1,0,0,1,0])]) [4,5,6,7,8,9], .code (EngB8s34 [1,1,1,0,1,0,0,1,1,0,0,1,1]), .inBlock 1, .code (EngB8s34 [1,1,1,0,1,0,0,1,1,1]), .inLoop (EngB8s34 [1,1,1,0,1,0,0]), .inBlock 0, .code (EngB8s34 [1,1,1,1])]) (e' := [(3, .map (some B5)), (4, .pointer (some ⟨plain_b, 0, none⟩)), (6, .pointer (some ⟨B13, 0, none⟩)), (10, .slice (some ⟨t101_pb, t101_po, none⟩) t101_l t101_c), (11, .int .i64 t111), (12, .int .i64 t121), (20, .tuple #[.agg #[.func (.func 64) #[] #[], .bool false, .func (.func 70) #[] #[]], .bool true])]) (L' := ((B13, .cells #[.int .i64 m1_0, .int .i64 m1_1, .string m1_2, .int .i64 m1_3, .int .i64 m1_4, .int .i64 m1_5, .slice m1_6_p m1_6_l m1_6_c, .int .i64 m1_7, .int .i64 m1_8] 26) :: (B5, EngB8m0) :: F2)) ?_ (by kernel_rfl)
      refine AtE.run 3 (fun W => by kernel_rfl) ?_
      refine AtE.new (fun B => .pointer (some ⟨B, 0, none⟩)) (.cells #[.nilFunc, .bool false, .nilFunc] 84) (fun W => by kernel_rfl) (by kernel_rfl) (fun B17 => ?_)
      replace H := H B17
      refine AtE.front ?_
      refine AtE.store 0 0 (T := 84) (v := .agg #[.func (.func 64) #[] #[], .bool false, .func (.func 70) #[] #[]]) (by kernel_rfl) ?_
      refine AtE.run 10 (fun W => by kernel_rfl) ?_
      refine AtE.load 0 2 (T := 47) (v := .func (.func 70) #[] #[]) (by kernel_rfl) ?_
      refine AtE.run 1 (fun W => by kernel_rfl) ?_
      refine AtE.load 1 2 (T := 9) (v := .string m1_2) (by kernel_rfl) ?_
      refine AtE.call 70 ⟨[.string m1_2]⟩ (fun W => by kernel_rfl) (by kernel_rfl) H ?_
      clear H
      rintro _ _ ⟨r371, rfl, rfl, H⟩
      refine AtE.call 50 ⟨[.pointer (some ⟨plain_b, 0, none⟩), .string r371]⟩ (fun W => by kernel_rfl) (by kernel_rfl) H ?_
      clear H
      rintro _ _ ⟨r381, r391, F18, rfl, rfl, H⟩
      refine AtE.run 2 (fun W => by kernel_rfl) ?_
      refine AtE.call 62 ⟨[.pointer (some ⟨plain_b, 0, none⟩), .int .u8 (10 : Int)]⟩ (fun W => by kernel_rfl) (by kernel_rfl) H ?_
      clear H
      rintro _ _ ⟨r401, F19, rfl, rfl, H⟩
      refine AtE.norm (k' := [.inRegion (regOps [.code (EngB8s34 [1,1,1,0,1,0,0,1,1,0,0,1,1,1,0,1])]) [], .inBlock 1, .code (EngB8s34 [1,1,1,0,1,0,0,1,1,1]), .inLoop (EngB8s34 [1,1,1,0,1,0,0]), .inBlock 0, .code (EngB8s34 [1,1,1,1])]) (e' := [(3, .map (some B5)), (4, .pointer (some ⟨plain_b, 0, none⟩)), (10, .slice (some ⟨t101_pb, t101_po, none⟩) t101_l t101_c), (11, .int .i64 t111), (12, .int .i64 t121)]) (L' := ((B17, .cells #[.func (.func 64) #[] #[], .bool false, .func (.func 70) #[] #[]] 84) :: (B13, .cells #[.int .i64 m1_0, .int .i64 m1_1, .string m1_2, .int .i64 m1_3, .int .i64 m1_4, .int .i64 m1_5, .slice m1_6_p m1_6_l m1_6_c, .int .i64 m1_7, .int .i64 m1_8] 26) :: (B5, EngB8m0) :: F19)) ?_ (by kernel_rfl)
      refine AtE.run 7 (fun W => by kernel_rfl) ?_
      exact AtE.cutT [2] 3 H (by kernel_rfl)
     ·replace H := H.2 h11'
      refine LookAll.cons (fun h12' => ?_) (fun h12' => ?_)
      ·replace H := H.1 h12'
       refine AtE.norm (k' := [.inRegion (regOps [.code (EngB8s34 [1,1,1,0,1,0,0,1,1,0,0,1,0])]) [4,5,6,7,8,9], .code (EngB8s34 [1,1,1,0,1,0,0,1,1,0,0,1,1]), .inBlock 1, .code (EngB8s34 [1,1,1,0,1,0,0,1,1,1]), .inLoop (EngB8s34 [1,1,1,0,1,0,0]), .inBlock 0, .code (EngB8s34 [1,1,1,1])]) (e' := [(3, .map (some B5)), (4, .pointer (some ⟨plain_b, 0, none⟩)), (6, .pointer (some ⟨B13, 0, none⟩)), (10, .slice (some ⟨t101_pb, t101_po, none⟩) t101_l t101_c), (11, .int .i64 t111), (12, .int .i64 t121), (20, .tuple #[.agg #[.func (.func 71) #[] #[], .bool false, .func (.func 72) #[] #[]], .bool true])]) (L' := ((B13, .cells #[.int .i64 m1_0, .int .i64 m1_1, .string m1_2, .int .i64 m1_3, .int .i64 m1_4, .int .i64 m1_5, .slice m1_6_p m1_6_l m1_6_c, .int .i64 m1_7, .int .i64 m1_8] 26) :: (B5, EngB8m0) :: F2)) ?_ (by kernel_rfl)
       refine AtE.run 3 (fun W => by kernel_rfl) ?_
       refine AtE.new (fun B => .pointer (some ⟨B, 0, none⟩)) (.cells #[.nilFunc, .bool false, .nilFunc] 84) (fun W => by kernel_rfl) (by kernel_rfl) (fun B18 => ?_)
       replace H := H B18
       refine AtE.front ?_
       refine AtE.store 0 0 (T := 84) (v := .agg #[.func (.func 71) #[] #[], .bool false, .func (.func 72) #[] #[]]) (by kernel_rfl) ?_
       refine AtE.run 10 (fun W => by kernel_rfl) ?_
       refine AtE.load 0 2 (T := 47) (v := .func (.func 72) #[] #[]) (by kernel_rfl) ?_
       refine AtE.run 1 (fun W => by kernel_rfl) ?_
       refine AtE.load 1 2 (T := 9) (v := .string m1_2) (by kernel_rfl) ?_
       refine AtE.call 72 ⟨[.string m1_2]⟩ (fun W => by kernel_rfl) (by kernel_rfl) H ?_
       clear H
       rintro _ _ ⟨r421, rfl, rfl, H⟩
       refine AtE.call 50 ⟨[.pointer (some ⟨plain_b, 0, none⟩), .string r421]⟩ (fun W => by kernel_rfl) (by kernel_rfl) H ?_
       clear H
       rintro _ _ ⟨r431, r441, F20, rfl, rfl, H⟩
       refine AtE.run 2 (fun W => by kernel_rfl) ?_
       refine AtE.call 62 ⟨[.pointer (some ⟨plain_b, 0, none⟩), .int .u8 (10 : Int)]⟩ (fun W => by kernel_rfl) (by kernel_rfl) H ?_
       clear H
       rintro _ _ ⟨r451, F21, rfl, rfl, H⟩
       refine AtE.norm (k' := [.inRegion (regOps [.code (EngB8s34 [1,1,1,0,1,0,0,1,1,0,0,1,1,1,0,1])]) [], .inBlock 1, .code (EngB8s34 [1,1,1,0,1,0,0,1,1,1]), .inLoop (EngB8s34 [1,1,1,0,1,0,0]), .inBlock 0, .code (EngB8s34 [1,1,1,1])]) (e' := [(3, .map (some B5)), (4, .pointer (some ⟨plain_b, 0, none⟩)), (10, .slice (some ⟨t101_pb, t101_po, none⟩) t101_l t101_c), (11, .int .i64 t111), (12, .int .i64 t121)]) (L' := ((B18, .cells #[.func (.func 71) #[] #[], .bool false, .func (.func 72) #[] #[]] 84) :: (B13, .cells #[.int .i64 m1_0, .int .i64 m1_1, .string m1_2, .int .i64 m1_3, .int .i64 m1_4, .int .i64 m1_5, .slice m1_6_p m1_6_l m1_6_c, .int .i64 m1_7, .int .i64 m1_8] 26) :: (B5, EngB8m0) :: F21)) ?_ (by kernel_rfl)
       refine AtE.run 7 (fun W => by kernel_rfl) ?_
       exact AtE.cutT [2] 3 H (by kernel_rfl)
      ·replace H := H.2 h12'
       refine AtE.norm (k' := [.inRegion (regOps [.code (EngB8s34 [1,1,1,0,1,0,0,1,1,0,0,1,0])]) [4,5,6,7,8,9], .code (EngB8s34 [1,1,1,0,1,0,0,1,1,0,0,1,1]), .inBlock 1, .code (EngB8s34 [1,1,1,0,1,0,0,1,1,1]), .inLoop (EngB8s34 [1,1,1,0,1,0,0]), .inBlock 0, .code (EngB8s34 [1,1,1,1])]) (e' := [(3, .map (some B5)), (4, .pointer (some ⟨plain_b, 0, none⟩)), (6, .pointer (some ⟨B13, 0, none⟩)), (10, .slice (some ⟨t101_pb, t101_po, none⟩) t101_l t101_c), (11, .int .i64 t111), (12, .int .i64 t121), (20, .tuple #[.agg #[.nilFunc, .bool false, .nilFunc], .bool false])]) (L' := ((B13, .cells #[.int .i64 m1_0, .int .i64 m1_1, .string m1_2, .int .i64 m1_3, .int .i64 m1_4, .int .i64 m1_5, .slice m1_6_p m1_6_l m1_6_c, .int .i64 m1_7, .int .i64 m1_8] 26) :: (B5, EngB8m0) :: F2)) ?_ (by kernel_rfl)
       refine AtE.run 3 (fun W => by kernel_rfl) ?_
       refine AtE.new (fun B => .pointer (some ⟨B, 0, none⟩)) (.cells #[.nilFunc, .bool false, .nilFunc] 84) (fun W => by kernel_rfl) (by kernel_rfl) (fun B19 => ?_)
       replace H := H B19
       refine AtE.front ?_
       refine AtE.store 0 0 (T := 84) (v := .agg #[.nilFunc, .bool false, .nilFunc]) (by kernel_rfl) ?_
       refine AtE.run 14 (fun W => by kernel_rfl) ?_
       exact AtE.cutT [2] 3 H (by kernel_rfl)
 ·replace H := H.2 h7'
  refine AtE.run 4 (fun W => by kernel_rfl) ?_
  refine AtE.call 51 ⟨[.pointer (some ⟨plain_b, 0, none⟩)]⟩ (fun W => by kernel_rfl) (by kernel_rfl) H ?_
  clear H
  rintro _ _ ⟨r461, F22, rfl, rfl, H⟩
  refine AtE.run 2 (fun W => by kernel_rfl) ?_
  exact AtE.ret Tryd.func34 (by kernel_rfl) H
theorem plain_c2_vc (B11 : Nat) (B12 : Nat) (t102_p : Option Addr) (t102_l : Nat) (t102_c : Nat) (t112 : Int) (t122 : Int) (m01 : Option Addr) {R : Ending → World → Prop} {w0 : World}
  (H :
   ((t122 < t112) →
    ∃ t102_pb t102_po : Nat, t102_p = some ⟨t102_pb, t102_po, none⟩ ∧
    (0 ≤ t122 ∧ t122 < t102_l) ∧
    ∃ (cw2 : List Value) (m2_0 : Int) (m2_1 : Int) (m2_2 : ByteArray) (m2_3 : Int) (m2_4 : Int) (m2_5 : Int) (m2_6_p : Option Addr) (m2_6_l : Nat) (m2_6_c : Nat) (m2_7 : Int) (m2_8 : Int), blkW w0 t102_pb = some cw2 ∧ ((cw2.drop (t102_po + ((Int.toNat t122) * 9))).take 9 = [.int .i64 m2_0, .int .i64 m2_1, .string m2_2, .int .i64 m2_3, .int .i64 m2_4, .int .i64 m2_5, .slice m2_6_p m2_6_l m2_6_c, .int .i64 m2_7, .int .i64 m2_8] ∧ (t102_po + ((Int.toNat t122) * 9)) + 9 ≤ cw2.length) ∧
    ∀ B20 : Nat,
    ((m2_1 = (1 : Int)) →
     ∀ B21 : Nat,
     CallH Tryd.prog 66 ⟨[.string m2_2]⟩ [(B11, EngB8m0), (B12, .cells #[.pointer m01, .slice none 0 0] 60), (B20, .cells #[.int .i64 m2_0, .int .i64 m2_1, .string m2_2, .int .i64 m2_3, .int .i64 m2_4, .int .i64 m2_5, .slice m2_6_p m2_6_l m2_6_c, .int .i64 m2_7, .int .i64 m2_8] 26), (B21, .cells #[.func (.func 64) #[] #[], .bool false, .func (.func 66) #[] #[]] 84)] [] w0 (fun v L' => ∃ (r471 : ByteArray), v = (.string r471) ∧ L' = [(B11, EngB8m0), (B12, .cells #[.pointer m01, .slice none 0 0] 60), (B20, .cells #[.int .i64 m2_0, .int .i64 m2_1, .string m2_2, .int .i64 m2_3, .int .i64 m2_4, .int .i64 m2_5, .slice m2_6_p m2_6_l m2_6_c, .int .i64 m2_7, .int .i64 m2_8] 26), (B21, .cells #[.func (.func 64) #[] #[], .bool false, .func (.func 66) #[] #[]] 84)] ∧
      CallH Tryd.prog 50 ⟨[.pointer (some ⟨B12, 0, none⟩), .string r471]⟩ [(B11, EngB8m0), (B12, .cells #[.pointer m01, .slice none 0 0] 60), (B20, .cells #[.int .i64 m2_0, .int .i64 m2_1, .string m2_2, .int .i64 m2_3, .int .i64 m2_4, .int .i64 m2_5, .slice m2_6_p m2_6_l m2_6_c, .int .i64 m2_7, .int .i64 m2_8] 26), (B21, .cells #[.func (.func 64) #[] #[], .bool false, .func (.func 66) #[] #[]] 84)] [] w0 (fun v L' => ∃ (r481 : Int) (r491 : Value) (F23 : SHeap), v = (.tuple #[.int .i64 r481, r491]) ∧ L' = ((B11, EngB8m0) :: (B20, .cells #[.int .i64 m2_0, .int .i64 m2_1, .string m2_2, .int .i64 m2_3, .int .i64 m2_4, .int .i64 m2_5, .slice m2_6_p m2_6_l m2_6_c, .int .i64 m2_7, .int .i64 m2_8] 26) :: (B21, .cells #[.func (.func 64) #[] #[], .bool false, .func (.func 66) #[] #[]] 84) :: F23) ∧
       CallH Tryd.prog 62 ⟨[.pointer (some ⟨B12, 0, none⟩), .int .u8 (10 : Int)]⟩ ((B11, EngB8m0) :: (B20, .cells #[.int .i64 m2_0, .int .i64 m2_1, .string m2_2, .int .i64 m2_3, .int .i64 m2_4, .int .i64 m2_5, .slice m2_6_p m2_6_l m2_6_c, .int .i64 m2_7, .int .i64 m2_8] 26) :: (B21, .cells #[.func (.func 64) #[] #[], .bool false, .func (.func 66) #[] #[]] 84) :: F23) [] w0 (fun v L' => ∃ (r501 : Value) (F24 : SHeap), v = (r501) ∧ L' = ((B11, EngB8m0) :: (B20, .cells #[.int .i64 m2_0, .int .i64 m2_1, .string m2_2, .int .i64 m2_3, .int .i64 m2_4, .int .i64 m2_5, .slice m2_6_p m2_6_l m2_6_c, .int .i64 m2_7, .int .i64 m2_8] 26) :: (B21, .cells #[.func (.func 64) #[] #[], .bool false, .func (.func 66) #[] #[]] 84) :: F24) ∧
        plain_c1 B11 B12 (some ⟨t102_pb, t102_po, none⟩) t102_l t102_c t112 (IntKind.i64.wrap (t122 + (1 : Int))) F24 w0 R)))) ∧
     ((¬ m2_1 = (1 : Int)) →
     ((m2_1 = (2 : Int)) →
      ∀ B22 : Nat,
      CallH Tryd.prog 67 ⟨[.string m2_2]⟩ [(B11, EngB8m0), (B12, .cells #[.pointer m01, .slice none 0 0] 60), (B20, .cells #[.int .i64 m2_0, .int .i64 m2_1, .string m2_2, .int .i64 m2_3, .int .i64 m2_4, .int .i64 m2_5, .slice m2_6_p m2_6_l m2_6_c, .int .i64 m2_7, .int .i64 m2_8] 26), (B22, .cells #[.func (.func 64) #[] #[], .bool false, .func (.func 67) #[] #[]] 84)] [] w0 (fun v L' => ∃ (r521 : ByteArray), v = (.string r521) ∧ L' = [(B11, EngB8m0), (B12, .cells #[.pointer m01, .slice none 0 0] 60), (B20, .cells #[.int .i64 m2_0, .int .i64 m2_1, .string m2_2, .int .i64 m2_3, .int .i64 m2_4, .int .i64 m2_5, .slice m2_6_p m2_6_l m2_6_c, .int .i64 m2_7, .int .i64 m2_8] 26), (B22, .cells #[.func (.func 64) #[] #[], .bool false, .func (.func 67) #[] #[]] 84)] ∧
       CallH Tryd.prog 50 ⟨[.pointer (some ⟨B12, 0, none⟩), .string r521]⟩ [(B11, EngB8m0), (B12, .cells #[.pointer m01, .slice none 0 0] 60), (B20, .cells #[.int .i64 m2_0, .int .i64 m2_1, .string m2_2, .int .i64 m2_3, .int .i64 m2_4, .int .i64 m2_5, .slice m2_6_p m2_6_l m2_6_c, .int .i64 m2_7, .int .i64 m2_8] 26), (B22, .cells #[.func (.func 64) #[] #[], .bool false, .func (.func 67) #[] #[]] 84)] [] w0 (fun v L' => ∃ (r531 : Int) (r541 : Value) (F25 : SHeap), v = (.tuple #[.int .i64 r531, r541]) ∧ L' = ((B11, EngB8m0) :: (B20, .cells #[.int .i64 m2_0, .int .i64 m2_1, .string m2_2, .int .i64 m2_3, .int .i64 m2_4, .int .i64 m2_5, .slice m2_6_p m2_6_l m2_6_c, .int .i64 m2_7, .int .i64 m2_8] 26) :: (B22, .cells #[.func (.func 64) #[] #[], .bool false, .func (.func 67) #[] #[]] 84) :: F25) ∧
        CallH Tryd.prog 62 ⟨[.pointer (some ⟨B12, 0, none⟩), .int .u8 (10 : Int)]⟩ ((B11, EngB8m0) :: (B20, .cells #[.int .i64 m2_0, .int .i64 m2_1, .string m2_2, .int .i64 m2_3, .int .i64 m2_4, .int .i64 m2_5, .slice m2_6_p m2_6_l m2_6_c, .int .i64 m2_7, .int .i64 m2_8] 26) :: (B22, .cells #[.func (.func 64) #[] #[], .bool false, .func (.func 67) #[] #[]] 84) :: F25) [] w0 (fun v L' => ∃ (r551 : Value) (F26 : SHeap), v = (r551) ∧ L' = ((B11, EngB8m0) :: (B20, .cells #[.int .i64 m2_0, .int .i64 m2_1, .string m2_2, .int .i64 m2_3, .int .i64 m2_4, .int .i64 m2_5, .slice m2_6_p m2_6_l m2_6_c, .int .i64 m2_7, .int .i64 m2_8] 26) :: (B22, .cells #[.func (.func 64) #[] #[], .bool false, .func (.func 67) #[] #[]] 84) :: F26) ∧
         plain_c1 B11 B12 (some ⟨t102_pb, t102_po, none⟩) t102_l t102_c t112 (IntKind.i64.wrap (t122 + (1 : Int))) F26 w0 R)))) ∧
      ((¬ m2_1 = (2 : Int)) →
      ((m2_1 = (3 : Int)) →
       ∀ B23 : Nat,
       CallH Tryd.prog 69 ⟨[.string m2_2]⟩ [(B11, EngB8m0), (B12, .cells #[.pointer m01, .slice none 0 0] 60), (B20, .cells #[.int .i64 m2_0, .int .i64 m2_1, .string m2_2, .int .i64 m2_3, .int .i64 m2_4, .int .i64 m2_5, .slice m2_6_p m2_6_l m2_6_c, .int .i64 m2_7, .int .i64 m2_8] 26), (B23, .cells #[.func (.func 65) #[] #[], .bool true, .func (.func 69) #[] #[]] 84)] [] w0 (fun v L' => ∃ (r561 : ByteArray), v = (.string r561) ∧ L' = [(B11, EngB8m0), (B12, .cells #[.pointer m01, .slice none 0 0] 60), (B20, .cells #[.int .i64 m2_0, .int .i64 m2_1, .string m2_2, .int .i64 m2_3, .int .i64 m2_4, .int .i64 m2_5, .slice m2_6_p m2_6_l m2_6_c, .int .i64 m2_7, .int .i64 m2_8] 26), (B23, .cells #[.func (.func 65) #[] #[], .bool true, .func (.func 69) #[] #[]] 84)] ∧
        CallH Tryd.prog 50 ⟨[.pointer (some ⟨B12, 0, none⟩), .string r561]⟩ [(B11, EngB8m0), (B12, .cells #[.pointer m01, .slice none 0 0] 60), (B20, .cells #[.int .i64 m2_0, .int .i64 m2_1, .string m2_2, .int .i64 m2_3, .int .i64 m2_4, .int .i64 m2_5, .slice m2_6_p m2_6_l m2_6_c, .int .i64 m2_7, .int .i64 m2_8] 26), (B23, .cells #[.func (.func 65) #[] #[], .bool true, .func (.func 69) #[] #[]] 84)] [] w0 (fun v L' => ∃ (r571 : Int) (r581 : Value) (F27 : SHeap), v = (.tuple #[.int .i64 r571, r581]) ∧ L' = ((B11, EngB8m0) :: (B20, .cells #[.int .i64 m2_0, .int .i64 m2_1, .string m2_2, .int .i64 m2_3, .int .i64 m2_4, .int .i64 m2_5, .slice m2_6_p m2_6_l m2_6_c, .int .i64 m2_7, .int .i64 m2_8] 26) :: (B23, .cells #[.func (.func 65) #[] #[], .bool true, .func (.func 69) #[] #[]] 84) :: F27) ∧
         CallH Tryd.prog 62 ⟨[.pointer (some ⟨B12, 0, none⟩), .int .u8 (10 : Int)]⟩ ((B11, EngB8m0) :: (B20, .cells #[.int .i64 m2_0, .int .i64 m2_1, .string m2_2, .int .i64 m2_3, .int .i64 m2_4, .int .i64 m2_5, .slice m2_6_p m2_6_l m2_6_c, .int .i64 m2_7, .int .i64 m2_8] 26) :: (B23, .cells #[.func (.func 65) #[] #[], .bool true, .func (.func 69) #[] #[]] 84) :: F27) [] w0 (fun v L' => ∃ (r591 : Value) (F28 : SHeap), v = (r591) ∧ L' = ((B11, EngB8m0) :: (B20, .cells #[.int .i64 m2_0, .int .i64 m2_1, .string m2_2, .int .i64 m2_3, .int .i64 m2_4, .int .i64 m2_5, .slice m2_6_p m2_6_l m2_6_c, .int .i64 m2_7, .int .i64 m2_8] 26) :: (B23, .cells #[.func (.func 65) #[] #[], .bool true, .func (.func 69) #[] #[]] 84) :: F28) ∧
          plain_c1 B11 B12 (some ⟨t102_pb, t102_po, none⟩) t102_l t102_c t112 (IntKind.i64.wrap (t122 + (1 : Int))) F28 w0 R)))) ∧
       ((¬ m2_1 = (3 : Int)) →
       ((m2_1 = (4 : Int)) →
        ∀ B24 : Nat,
        CallH Tryd.prog 70 ⟨[.string m2_2]⟩ [(B11, EngB8m0), (B12, .cells #[.pointer m01, .slice none 0 0] 60), (B20, .cells #[.int .i64 m2_0, .int .i64 m2_1, .string m2_2, .int .i64 m2_3, .int .i64 m2_4, .int .i64 m2_5, .slice m2_6_p m2_6_l m2_6_c, .int .i64 m2_7, .int .i64 m2_8] 26), (B24, .cells #[.func (.func 64) #[] #[], .bool false, .func (.func 70) #[] #[]] 84)] [] w0 (fun v L' => ∃ (r601 : ByteArray), v = (.string r601) ∧ L' = [(B11, EngB8m0), (B12, .cells #[.pointer m01, .slice none 0 0] 60), (B20, .cells #[.int .i64 m2_0, .int .i64 m2_1, .string m2_2, .int .i64 m2_3, .int .i64 m2_4, .int .i64 m2_5, .slice m2_6_p m2_6_l m2_6_c, .int .i64 m2_7, .int .i64 m2_8] 26), (B24, .cells #[.func (.func 64) #[] #[], .bool false, .func (.func 70) #[] #[]] 84)] ∧
         CallH Tryd.prog 50 ⟨[.pointer (some ⟨B12, 0, none⟩), .string r601]⟩ [(B11, EngB8m0), (B12, .cells #[.pointer m01, .slice none 0 0] 60), (B20, .cells #[.int .i64 m2_0, .int .i64 m2_1, .string m2_2, .int .i64 m2_3, .int .i64 m2_4, .int .i64 m2_5, .slice m2_6_p m2_6_l m2_6_c, .int .i64 m2_7, .int .i64 m2_8] 26), (B24, .cells #[.func (.func 64) #[] #[], .bool false, .func (.func 70) #[] #[]] 84)] [] w0 (fun v L' => ∃ (r621 : Int) (r631 : Value) (F29 : SHeap), v = (.tuple #[.int .i64 r621, r631]) ∧ L' = ((B11, EngB8m0) :: (B20, .cells #[.int .i64 m2_0, .int .i64 m2_1, .string m2_2, .int .i64 m2_3, .int .i64 m2_4, .int .i64 m2_5, .slice m2_6_p m2_6_l m2_6_c, .int .i64 m2_7, .int .i64 m2_8] 26) :: (B24, .cells #[.func (.func 64) #[] #[], .bool false, .func (.func 70) #[] #[]] 84) :: F29) ∧
          CallH Tryd.prog 62 ⟨[.pointer (some ⟨B12, 0, none⟩), .int .u8 (10 : Int)]⟩ ((B11, EngB8m0) :: (B20, .cells #[.int .i64 m2_0, .int .i64 m2_1, .string m2_2, .int .i64 m2_3, .int .i64 m2_4, .int .i64 m2_5, .slice m2_6_p m2_6_l m2_6_c, .int .i64 m2_7, .int .i64 m2_8] 26) :: (B24, .cells #[.func (.func 64) #[] #[], .bool false, .func (.func 70) #[] #[]] 84) :: F29) [] w0 (fun v L' => ∃ (r641 : Value) (F30 : SHeap), v = (r641) ∧ L' = ((B11, EngB8m0) :: (B20, .cells #[.int .i64 m2_0, .int .i64 m2_1, .string m2_2, .int .i64 m2_3, .int .i64 m2_4, .int .i64 m2_5, .slice m2_6_p m2_6_l m2_6_c, .int .i64 m2_7, .int .i64 m2_8] 26) :: (B24, .cells #[.func (.func 64) #[] #[], .bool false, .func (.func 70) #[] #[]] 84) :: F30) ∧
           plain_c1 B11 B12 (some ⟨t102_pb, t102_po, none⟩) t102_l t102_c t112 (IntKind.i64.wrap (t122 + (1 : Int))) F30 w0 R)))) ∧
        ((¬ m2_1 = (4 : Int)) →
        ((m2_1 = (5 : Int)) →
         ∀ B25 : Nat,
         CallH Tryd.prog 72 ⟨[.string m2_2]⟩ [(B11, EngB8m0), (B12, .cells #[.pointer m01, .slice none 0 0] 60), (B20, .cells #[.int .i64 m2_0, .int .i64 m2_1, .string m2_2, .int .i64 m2_3, .int .i64 m2_4, .int .i64 m2_5, .slice m2_6_p m2_6_l m2_6_c, .int .i64 m2_7, .int .i64 m2_8] 26), (B25, .cells #[.func (.func 71) #[] #[], .bool false, .func (.func 72) #[] #[]] 84)] [] w0 (fun v L' => ∃ (r651 : ByteArray), v = (.string r651) ∧ L' = [(B11, EngB8m0), (B12, .cells #[.pointer m01, .slice none 0 0] 60), (B20, .cells #[.int .i64 m2_0, .int .i64 m2_1, .string m2_2, .int .i64 m2_3, .int .i64 m2_4, .int .i64 m2_5, .slice m2_6_p m2_6_l m2_6_c, .int .i64 m2_7, .int .i64 m2_8] 26), (B25, .cells #[.func (.func 71) #[] #[], .bool false, .func (.func 72) #[] #[]] 84)] ∧
          CallH Tryd.prog 50 ⟨[.pointer (some ⟨B12, 0, none⟩), .string r651]⟩ [(B11, EngB8m0), (B12, .cells #[.pointer m01, .slice none 0 0] 60), (B20, .cells #[.int .i64 m2_0, .int .i64 m2_1, .string m2_2, .int .i64 m2_3, .int .i64 m2_4, .int .i64 m2_5, .slice m2_6_p m2_6_l m2_6_c, .int .i64 m2_7, .int .i64 m2_8] 26), (B25, .cells #[.func (.func 71) #[] #[], .bool false, .func (.func 72) #[] #[]] 84)] [] w0 (fun v L' => ∃ (r661 : Int) (r671 : Value) (F31 : SHeap), v = (.tuple #[.int .i64 r661, r671]) ∧ L' = ((B11, EngB8m0) :: (B20, .cells #[.int .i64 m2_0, .int .i64 m2_1, .string m2_2, .int .i64 m2_3, .int .i64 m2_4, .int .i64 m2_5, .slice m2_6_p m2_6_l m2_6_c, .int .i64 m2_7, .int .i64 m2_8] 26) :: (B25, .cells #[.func (.func 71) #[] #[], .bool false, .func (.func 72) #[] #[]] 84) :: F31) ∧
           CallH Tryd.prog 62 ⟨[.pointer (some ⟨B12, 0, none⟩), .int .u8 (10 : Int)]⟩ ((B11, EngB8m0) :: (B20, .cells #[.int .i64 m2_0, .int .i64 m2_1, .string m2_2, .int .i64 m2_3, .int .i64 m2_4, .int .i64 m2_5, .slice m2_6_p m2_6_l m2_6_c, .int .i64 m2_7, .int .i64 m2_8] 26) :: (B25, .cells #[.func (.func 71) #[] #[], .bool false, .func (.func 72) #[] #[]] 84) :: F31) [] w0 (fun v L' => ∃ (r681 : Value) (F32 : SHeap), v = (r681) ∧ L' = ((B11, EngB8m0) :: (B20, .cells #[.int .i64 m2_0, .int .i64 m2_1, .string m2_2, .int .i64 m2_3, .int .i64 m2_4, .int .i64 m2_5, .slice m2_6_p m2_6_l m2_6_c, .int .i64 m2_7, .int .i64 m2_8] 26) :: (B25, .cells #[.func (.func 71) #[] #[], .bool false, .func (.func 72) #[] #[]] 84) :: F32) ∧
            plain_c1 B11 B12 (some ⟨t102_pb, t102_po, none⟩) t102_l t102_c t112 (IntKind.i64.wrap (t122 + (1 : Int))) F32 w0 R)))) ∧
         ((¬ m2_1 = (5 : Int)) →
         ∀ B26 : Nat,
         plain_c2 B11 B12 (some ⟨t102_pb, t102_po, none⟩) t102_l t102_c t112 (IntKind.i64.wrap (t122 + (1 : Int))) m01 w0 R)))))) ∧
    ((¬ (t122 < t112)) →
    CallH Tryd.prog 51 ⟨[.pointer (some ⟨B12, 0, none⟩)]⟩ [(B11, EngB8m0), (B12, .cells #[.pointer m01, .slice none 0 0] 60)] [] w0 (fun v L' => ∃ (r691 : ByteArray) (F33 : SHeap), v = (.string r691) ∧ L' = ((B11, EngB8m0) :: F33) ∧
     Fin R ((B11, EngB8m0) :: F33) [] w0 (.string r691)))) :
  plain_c2 B11 B12 t102_p t102_l t102_c t112 t122 m01 w0 R := by
 unfold plain_c2
 refine AtE.run 5 (fun W => by kernel_rfl) ?_
 refine AtE.splitP 13 (p := t122 < t112) (by kernel_rfl) (fun h13' => ?_) (fun h13' => ?_)
 ·replace H := H.1 h13'
  refine AtE.run 6 (fun W => by kernel_rfl) ?_
  obtain ⟨t102_pb, t102_po, rfl, H⟩ := H
  refine AtE.indexAddrL (E := 26) (b := t102_pb) (o := t102_po) (len := t102_l) (cap := t102_c) (sz := 9) (o' := (t102_po + ((Int.toNat t122) * 9))) (kd := .i64) (i := t122) (by kernel_rfl) H.1 (by omega) ?_
  replace H := H.2
  obtain ⟨cw2, m2_0, m2_1, m2_2, m2_3, m2_4, m2_5, m2_6_p, m2_6_l, m2_6_c, m2_7, m2_8, hw, hx, H⟩ := H
  refine AtE.loadW (b := t102_pb) (off := (t102_po + ((Int.toNat t122) * 9))) (T := 26) (v := .agg #[.int .i64 m2_0, .int .i64 m2_1, .string m2_2, .int .i64 m2_3, .int .i64 m2_4, .int .i64 m2_5, .slice m2_6_p m2_6_l m2_6_c, .int .i64 m2_7, .int .i64 m2_8]) (by kernel_rfl) List.not_mem_nil hw (valAt_agg hx.1 hx.2 (by kernel_rfl) (by kernel_rfl)) ?_
  refine AtE.new (fun B => .pointer (some ⟨B, 0, none⟩)) (.cells #[.int .i64 (0 : Int), .int .i64 (0 : Int), .string (⟨#[]⟩), .int .i64 (0 : Int), .int .i64 (0 : Int), .int .i64 (0 : Int), .slice none 0 0, .int .i64 (0 : Int), .int .i64 (0 : Int)] 26) (fun W => by kernel_rfl) (by kernel_rfl) (fun B20 => ?_)
  replace H := H B20
  refine AtE.store 2 0 (T := 26) (v := .agg #[.int .i64 m2_0, .int .i64 m2_1, .string m2_2, .int .i64 m2_3, .int .i64 m2_4, .int .i64 m2_5, .slice m2_6_p m2_6_l m2_6_c, .int .i64 m2_7, .int .i64 m2_8]) (by kernel_rfl) ?_
  refine AtE.run 5 (fun W => by kernel_rfl) ?_
  refine AtE.load 2 1 (T := 3) (v := .int .i64 m2_1) (by kernel_rfl) ?_
  refine AtE.norm (k' := [.inRegion (regOps [.code (EngB8s34 [1,1,1,0,1,0,0,1,1,0,0,1,0])]) [3,4,5,6,7,8,9], .code (EngB8s34 [1,1,1,0,1,0,0,1,1,0,0,1,1]), .inBlock 1, .code (EngB8s34 [1,1,1,0,1,0,0,1,1,1]), .inLoop (EngB8s34 [1,1,1,0,1,0,0]), .inBlock 0, .code (EngB8s34 [1,1,1,1])]) (e' := [(3, .map (some B11)), (4, .pointer (some ⟨B12, 0, none⟩)), (6, .pointer (some ⟨B20, 0, none⟩)), (10, .slice (some ⟨t102_pb, t102_po, none⟩) t102_l t102_c), (11, .int .i64 t112), (12, .int .i64 t122), (17, .map (some B11)), (19, .int .i64 m2_1)]) (L' := [(B11, EngB8m0), (B12, .cells #[.pointer m01, .slice none 0 0] 60), (B20, .cells #[.int .i64 m2_0, .int .i64 m2_1, .string m2_2, .int .i64 m2_3, .int .i64 m2_4, .int .i64 m2_5, .slice m2_6_p m2_6_l m2_6_c, .int .i64 m2_7, .int .i64 m2_8] 26)]) ?_ (by kernel_rfl)
  refine AtE.look 0 (b := B11) (c := 5) (es := #[{ key := .int .i64 (1 : Int), val := .agg #[.func (.func 64) #[] #[], .bool false, .func (.func 66) #[] #[]], born := 0 }, { key := .int .i64 (2 : Int), val := .agg #[.func (.func 64) #[] #[], .bool false, .func (.func 67) #[] #[]], born := 1 }, { key := .int .i64 (3 : Int), val := .agg #[.func (.func 65) #[] #[], .bool true, .func (.func 69) #[] #[]], born := 2 }, { key := .int .i64 (4 : Int), val := .agg #[.func (.func 64) #[] #[], .bool false, .func (.func 70) #[] #[]], born := 3 }, { key := .int .i64 (5 : Int), val := .agg #[.func (.func 71) #[] #[], .bool false, .func (.func 72) #[] #[]], born := 4 }]) (kt := 3) (et := 84) (kd := .i64) (n := m2_1) (z := .agg #[.nilFunc, .bool false, .nilFunc]) (by kernel_rfl) ?_
  refine LookAll.cons (fun h14' => ?_) (fun h14' => ?_)
  ·replace H := H.1 h14'
   refine AtE.norm (k' := [.inRegion (regOps [.code (EngB8s34 [1,1,1,0,1,0,0,1,1,0,0,1,0])]) [4,5,6,7,8,9], .code (EngB8s34 [1,1,1,0,1,0,0,1,1,0,0,1,1]), .inBlock 1, .code (EngB8s34 [1,1,1,0,1,0,0,1,1,1]), .inLoop (EngB8s34 [1,1,1,0,1,0,0]), .inBlock 0, .code (EngB8s34 [1,1,1,1])]) (e' := [(3, .map (some B11)), (4, .pointer (some ⟨B12, 0, none⟩)), (6, .pointer (some ⟨B20, 0, none⟩)), (10, .slice (some ⟨t102_pb, t102_po, none⟩) t102_l t102_c), (11, .int .i64 t112), (12, .int .i64 t122), (20, .tuple #[.agg #[.func (.func 64) #[] #[], .bool false, .func (.func 66) #[] #[]], .bool true])]) (L' := [(B11, EngB8m0), (B12, .cells #[.pointer m01, .slice none 0 0] 60), (B20, .cells #[.int .i64 m2_0, .int .i64 m2_1, .string m2_2, .int .i64 m2_3, .int .i64 m2_4, .int .i64 m2_5, .slice m2_6_p m2_6_l m2_6_c, .int .i64 m2_7, .int .i64 m2_8] 26)]) ?_ (by kernel_rfl)
   refine AtE.run 3 (fun W => by kernel_rfl) ?_
   refine AtE.new (fun B => .pointer (some ⟨B, 0, none⟩)) (.cells #[.nilFunc, .bool false, .nilFunc] 84) (fun W => by kernel_rfl) (by kernel_rfl) (fun B21 => ?_)
   replace H := H B21
   refine AtE.store 3 0 (T := 84) (v := .agg #[.func (.func 64) #[] #[], .bool false, .func (.func 66) #[] #[]]) (by kernel_rfl) ?_
   refine AtE.run 10 (fun W => by kernel_rfl) ?_
   refine AtE.load 3 2 (T := 47) (v := .func (.func 66) #[] #[]) (by kernel_rfl) ?_
   refine AtE.run 1 (fun W => by kernel_rfl) ?_
   refine AtE.load 2 2 (T := 9) (v := .string m2_2) (by kernel_rfl) ?_
   refine AtE.call 66 ⟨[.string m2_2]⟩ (fun W => by kernel_rfl) (by kernel_rfl) H ?_
   clear H
   rintro _ _ ⟨r471, rfl, rfl, H⟩
   refine AtE.call 50 ⟨[.pointer (some ⟨B12, 0, none⟩), .string r471]⟩ (fun W => by kernel_rfl) (by kernel_rfl) H ?_
   clear H
   rintro _ _ ⟨r481, r491, F23, rfl, rfl, H⟩
   refine AtE.run 2 (fun W => by kernel_rfl) ?_
   refine AtE.call 62 ⟨[.pointer (some ⟨B12, 0, none⟩), .int .u8 (10 : Int)]⟩ (fun W => by kernel_rfl) (by kernel_rfl) H ?_
   clear H
   rintro _ _ ⟨r501, F24, rfl, rfl, H⟩
   refine AtE.norm (k' := [.inRegion (regOps [.code (EngB8s34 [1,1,1,0,1,0,0,1,1,0,0,1,1,1,0,1])]) [], .inBlock 1, .code (EngB8s34 [1,1,1,0,1,0,0,1,1,1]), .inLoop (EngB8s34 [1,1,1,0,1,0,0]), .inBlock 0, .code (EngB8s34 [1,1,1,1])]) (e' := [(3, .map (some B11)), (4, .pointer (some ⟨B12, 0, none⟩)), (10, .slice (some ⟨t102_pb, t102_po, none⟩) t102_l t102_c), (11, .int .i64 t112), (12, .int .i64 t122)]) (L' := ((B11, EngB8m0) :: (B20, .cells #[.int .i64 m2_0, .int .i64 m2_1, .string m2_2, .int .i64 m2_3, .int .i64 m2_4, .int .i64 m2_5, .slice m2_6_p m2_6_l m2_6_c, .int .i64 m2_7, .int .i64 m2_8] 26) :: (B21, .cells #[.func (.func 64) #[] #[], .bool false, .func (.func 66) #[] #[]] 84) :: F24)) ?_ (by kernel_rfl)
   refine AtE.run 7 (fun W => by kernel_rfl) ?_
   exact AtE.cutT [0] 3 H (by kernel_rfl)
  ·replace H := H.2 h14'
   refine LookAll.cons (fun h15' => ?_) (fun h15' => ?_)
   ·replace H := H.1 h15'
    refine AtE.norm (k' := [.inRegion (regOps [.code (EngB8s34 [1,1,1,0,1,0,0,1,1,0,0,1,0])]) [4,5,6,7,8,9], .code (EngB8s34 [1,1,1,0,1,0,0,1,1,0,0,1,1]), .inBlock 1, .code (EngB8s34 [1,1,1,0,1,0,0,1,1,1]), .inLoop (EngB8s34 [1,1,1,0,1,0,0]), .inBlock 0, .code (EngB8s34 [1,1,1,1])]) (e' := [(3, .map (some B11)), (4, .pointer (some ⟨B12, 0, none⟩)), (6, .pointer (some ⟨B20, 0, none⟩)), (10, .slice (some ⟨t102_pb, t102_po, none⟩) t102_l t102_c), (11, .int .i64 t112), (12, .int .i64 t122), (20, .tuple #[.agg #[.func (.func 64) #[] #[], .bool false, .func (.func 67) #[] #[]], .bool true])]) (L' := [(B11, EngB8m0), (B12, .cells #[.pointer m01, .slice none 0 0] 60), (B20, .cells #[.int .i64 m2_0, .int .i64 m2_1, .string m2_2, .int .i64 m2_3, .int .i64 m2_4, .int .i64 m2_5, .slice m2_6_p m2_6_l m2_6_c, .int .i64 m2_7, .int .i64 m2_8] 26)]) ?_ (by kernel_rfl)
    refine AtE.run 3 (fun W => by kernel_rfl) ?_
    refine AtE.new (fun B => .pointer (some ⟨B, 0, none⟩)) (.cells #[.nilFunc, .bool false, .nilFunc] 84) (fun W => by kernel_rfl) (by kernel_rfl) (fun B22 => ?_)
    replace H := H B22
    refine AtE.store 3 0 (T := 84) (v := .agg #[.func (.func 64) #[] #[], .bool false, .func (.func 67) #[] #[]]) (by kernel_rfl) ?_
    refine AtE.run 10 (fun W => by kernel_rfl) ?_
    refine AtE.load 3 2 (T := 47) (v := .func (.func 67) #[] #[]) (by kernel_rfl) ?_
    refine AtE.run 1 (fun W => by kernel_rfl) ?_
    refine AtE.load 2 2 (T := 9) (v := .string m2_2) (by kernel_rfl) ?_
    refine AtE.call 67 ⟨[.string m2_2]⟩ (fun W => by kernel_rfl) (by kernel_rfl) H ?_
    clear H
    rintro _ _ ⟨r521, rfl, rfl, H⟩
    refine AtE.call 50 ⟨[.pointer (some ⟨B12, 0, none⟩), .string r521]⟩ (fun W => by kernel_rfl) (by kernel_rfl) H ?_
    clear H
    rintro _ _ ⟨r531, r541, F25, rfl, rfl, H⟩
    refine AtE.run 2 (fun W => by kernel_rfl) ?_
    refine AtE.call 62 ⟨[.pointer (some ⟨B12, 0, none⟩), .int .u8 (10 : Int)]⟩ (fun W => by kernel_rfl) (by kernel_rfl) H ?_
    clear H
    rintro _ _ ⟨r551, F26, rfl, rfl, H⟩
    refine AtE.norm (k' := [.inRegion (regOps [.code (EngB8s34 [1,1,1,0,1,0,0,1,1,0,0,1,1,1,0,1])]) [], .inBlock 1, .code (EngB8s34 [1,1,1,0,1,0,0,1,1,1]), .inLoop (EngB8s34 [1,1,1,0,1,0,0]), .inBlock 0, .code (EngB8s34 [1,1,1,1])]) (e' := [(3, .map (some B11)), (4, .pointer (some ⟨B12, 0, none⟩)), (10, .slice (some ⟨t102_pb, t102_po, none⟩) t102_l t102_c), (11, .int .i64 t112), (12, .int .i64 t122)]) (L' := ((B11, EngB8m0) :: (B20, .cells #[.int .i64 m2_0, .int .i64 m2_1, .string m2_2, .int .i64 m2_3, .int .i64 m2_4, .int .i64 m2_5, .slice m2_6_p m2_6_l m2_6_c, .int .i64 m2_7, .int .i64 m2_8] 26) :: (B22, .cells #[.func (.func 64) #[] #[], .bool false, .func (.func 67) #[] #[]] 84) :: F26)) ?_ (by kernel_rfl)
    refine AtE.run 7 (fun W => by kernel_rfl) ?_
    exact AtE.cutT [0] 3 H (by kernel_rfl)
   ·replace H := H.2 h15'
    refine LookAll.cons (fun h16' => ?_) (fun h16' => ?_)
    ·replace H := H.1 h16'
     refine AtE.norm (k' := [.inRegion (regOps [.code (EngB8s34 [1,1,1,0,1,0,0,1,1,0,0,1,0])]) [4,5,6,7,8,9], .code (EngB8s34 [1,1,1,0,1,0,0,1,1,0,0,1,1]), .inBlock 1, .code (EngB8s34 [1,1,1,0,1,0,0,1,1,1]), .inLoop (EngB8s34 [1,1,1,0,1,0,0]), .inBlock 0, .code (EngB8s34 [1,1,1,1])]) (e' := [(3, .map (some B11)), (4, .pointer (some ⟨B12, 0, none⟩)), (6, .pointer (some ⟨B20, 0, none⟩)), (10, .slice (some ⟨t102_pb, t102_po, none⟩) t102_l t102_c), (11, .int .i64 t112), (12, .int .i64 t122), (20, .tuple #[.agg #[.func (.func 65) #[] #[], .bool true, .func (.func 69) #[] #[]], .bool true])]) (L' := [(B11, EngB8m0), (B12, .cells #[.pointer m01, .slice none 0 0] 60), (B20, .cells #[.int .i64 m2_0, .int .i64 m2_1, .string m2_2, .int .i64 m2_3, .int .i64 m2_4, .int .i64 m2_5, .slice m2_6_p m2_6_l m2_6_c, .int .i64 m2_7, .int .i64 m2_8] 26)]) ?_ (by kernel_rfl)
     refine AtE.run 3 (fun W => by kernel_rfl) ?_
     refine AtE.new (fun B => .pointer (some ⟨B, 0, none⟩)) (.cells #[.nilFunc, .bool false, .nilFunc] 84) (fun W => by kernel_rfl) (by kernel_rfl) (fun B23 => ?_)
     replace H := H B23
     refine AtE.store 3 0 (T := 84) (v := .agg #[.func (.func 65) #[] #[], .bool true, .func (.func 69) #[] #[]]) (by kernel_rfl) ?_
     refine AtE.run 10 (fun W => by kernel_rfl) ?_
     refine AtE.load 3 2 (T := 47) (v := .func (.func 69) #[] #[]) (by kernel_rfl) ?_
     refine AtE.run 1 (fun W => by kernel_rfl) ?_
     refine AtE.load 2 2 (T := 9) (v := .string m2_2) (by kernel_rfl) ?_
     refine AtE.call 69 ⟨[.string m2_2]⟩ (fun W => by kernel_rfl) (by kernel_rfl) H ?_
     clear H
     rintro _ _ ⟨r561, rfl, rfl, H⟩
     refine AtE.call 50 ⟨[.pointer (some ⟨B12, 0, none⟩), .string r561]⟩ (fun W => by kernel_rfl) (by kernel_rfl) H ?_
     clear H
     rintro _ _ ⟨r571, r581, F27, rfl, rfl, H⟩
     refine AtE.run 2 (fun W => by kernel_rfl) ?_
     refine AtE.call 62 ⟨[.pointer (some ⟨B12, 0, none⟩), .int .u8 (10 : Int)]⟩ (fun W => by kernel_rfl) (by kernel_rfl) H ?_
     clear H
     rintro _ _ ⟨r591, F28, rfl, rfl, H⟩
     refine AtE.norm (k' := [.inRegion (regOps [.code (EngB8s34 [1,1,1,0,1,0,0,1,1,0,0,1,1,1,0,1])]) [], .inBlock 1, .code (EngB8s34 [1,1,1,0,1,0,0,1,1,1]), .inLoop (EngB8s34 [1,1,1,0,1,0,0]), .inBlock 0, .code (EngB8s34 [1,1,1,1])]) (e' := [(3, .map (some B11)), (4, .pointer (some ⟨B12, 0, none⟩)), (10, .slice (some ⟨t102_pb, t102_po, none⟩) t102_l t102_c), (11, .int .i64 t112), (12, .int .i64 t122)]) (L' := ((B11, EngB8m0) :: (B20, .cells #[.int .i64 m2_0, .int .i64 m2_1, .string m2_2, .int .i64 m2_3, .int .i64 m2_4, .int .i64 m2_5, .slice m2_6_p m2_6_l m2_6_c, .int .i64 m2_7, .int .i64 m2_8] 26) :: (B23, .cells #[.func (.func 65) #[] #[], .bool true, .func (.func 69) #[] #[]] 84) :: F28)) ?_ (by kernel_rfl)
     refine AtE.run 7 (fun W => by kernel_rfl) ?_
     exact AtE.cutT [0] 3 H (by kernel_rfl)
    ·replace H := H.2 h16'
     refine LookAll.cons (fun h17' => ?_) (fun h17' => ?_)
     ·replace H := H.1 h17'
      refine AtE.norm (k' := [.inRegion (regOps [.code (EngB8s34 [1,1,1,0,1,0,0,1,1,0,0,1,0])]) [4,5,6,7,8,9], .code (EngB8s34 [1,1,1,0,1,0,0,1,1,0,0,1,1]), .inBlock 1, .code (EngB8s34 [1,1,1,0,1,0,0,1,1,1]), .inLoop (EngB8s34 [1,1,1,0,1,0,0]), .inBlock 0, .code (EngB8s34 [1,1,1,1])]) (e' := [(3, .map (some B11)), (4, .pointer (some ⟨B12, 0, none⟩)), (6, .pointer (some ⟨B20, 0, none⟩)), (10, .slice (some ⟨t102_pb, t102_po, none⟩) t102_l t102_c), (11, .int .i64 t112), (12, .int .i64 t122), (20, .tuple #[.agg #[.func (.func 64) #[] #[], .bool false, .func (.func 70) #[] #[]], .bool true])]) (L' := [(B11, EngB8m0), (B12, .cells #[.pointer m01, .slice none 0 0] 60), (B20, .cells #[.int .i64 m2_0, .int .i64 m2_1, .string m2_2, .int .i64 m2_3, .int .i64 m2_4, .int .i64 m2_5, .slice m2_6_p m2_6_l m2_6_c, .int .i64 m2_7, .int .i64 m2_8] 26)]) ?_ (by kernel_rfl)
      refine AtE.run 3 (fun W => by kernel_rfl) ?_
      refine AtE.new (fun B => .pointer (some ⟨B, 0, none⟩)) (.cells #[.nilFunc, .bool false, .nilFunc] 84) (fun W => by kernel_rfl) (by kernel_rfl) (fun B24 => ?_)
      replace H := H B24
      refine AtE.store 3 0 (T := 84) (v := .agg #[.func (.func 64) #[] #[], .bool false, .func (.func 70) #[] #[]]) (by kernel_rfl) ?_
      refine AtE.run 10 (fun W => by kernel_rfl) ?_
      refine AtE.load 3 2 (T := 47) (v := .func (.func 70) #[] #[]) (by kernel_rfl) ?_
      refine AtE.run 1 (fun W => by kernel_rfl) ?_
      refine AtE.load 2 2 (T := 9) (v := .string m2_2) (by kernel_rfl) ?_
      refine AtE.call 70 ⟨[.string m2_2]⟩ (fun W => by kernel_rfl) (by kernel_rfl) H ?_
      clear H
      rintro _ _ ⟨r601, rfl, rfl, H⟩
      refine AtE.call 50 ⟨[.pointer (some ⟨B12, 0, none⟩), .string r601]⟩ (fun W => by kernel_rfl) (by kernel_rfl) H ?_
      clear H
      rintro _ _ ⟨r621, r631, F29, rfl, rfl, H⟩
      refine AtE.run 2 (fun W => by kernel_rfl) ?_
      refine AtE.call 62 ⟨[.pointer (some ⟨B12, 0, none⟩), .int .u8 (10 : Int)]⟩ (fun W => by kernel_rfl) (by kernel_rfl) H ?_
      clear H
      rintro _ _ ⟨r641, F30, rfl, rfl, H⟩
      refine AtE.norm (k' := [.inRegion (regOps [.code (EngB8s34 [1,1,1,0,1,0,0,1,1,0,0,1,1,1,0,1])]) [], .inBlock 1, .code (EngB8s34 [1,1,1,0,1,0,0,1,1,1]), .inLoop (EngB8s34 [1,1,1,0,1,0,0]), .inBlock 0, .code (EngB8s34 [1,1,1,1])]) (e' := [(3, .map (some B11)), (4, .pointer (some ⟨B12, 0, none⟩)), (10, .slice (some ⟨t102_pb, t102_po, none⟩) t102_l t102_c), (11, .int .i64 t112), (12, .int .i64 t122)]) (L' := ((B11, EngB8m0) :: (B20, .cells #[.int .i64 m2_0, .int .i64 m2_1, .string m2_2, .int .i64 m2_3, .int .i64 m2_4, .int .i64 m2_5, .slice m2_6_p m2_6_l m2_6_c, .int .i64 m2_7, .int .i64 m2_8] 26) :: (B24, .cells #[.func (.func 64) #[] #[], .bool false, .func (.func 70) #[] #[]] 84) :: F30)) ?_ (by kernel_rfl)
      refine AtE.run 7 (fun W => by kernel_rfl) ?_
      exact AtE.cutT [0] 3 H (by kernel_rfl)
     ·replace H := H.2 h17'
      refine LookAll.cons (fun h18' => ?_) (fun h18' => ?_)
      ·replace H := H.1 h18'
       refine AtE.norm (k' := [.inRegion (regOps [.code (EngB8s34 [1,1,1,0,1,0,0,1,1,0,0,1,0])]) [4,5,6,7,8,9], .code (EngB8s34 [1,1,1,0,1,0,0,1,1,0,0,1,1]), .inBlock 1, .code (EngB8s34 [1,1,1,0,1,0,0,1,1,1]), .inLoop (EngB8s34 [1,1,1,0,1,0,0]), .inBlock 0, .code (EngB8s34 [1,1,1,1])]) (e' := [(3, .map (some B11)), (4, .pointer (some ⟨B12, 0, none⟩)), (6, .pointer (some ⟨B20, 0, none⟩)), (10, .slice (some ⟨t102_pb, t102_po, none⟩) t102_l t102_c), (11, .int .i64 t112), (12, .int .i64 t122), (20, .tuple #[.agg #[.func (.func 71) #[] #[], .bool false, .func (.func 72) #[] #[]], .bool true])]) (L' := [(B11, EngB8m0), (B12, .cells #[.pointer m01, .slice none 0 0] 60), (B20, .cells #[.int .i64 m2_0, .int .i64 m2_1, .string m2_2, .int .i64 m2_3, .int .i64 m2_4, .int .i64 m2_5, .slice m2_6_p m2_6_l m2_6_c, .int .i64 m2_7, .int .i64 m2_8] 26)]) ?_ (by kernel_rfl)
       refine AtE.run 3 (fun W => by kernel_rfl) ?_
       refine AtE.new (fun B => .pointer (some ⟨B, 0, none⟩)) (.cells #[.nilFunc, .bool false, .nilFunc] 84) (fun W => by kernel_rfl) (by kernel_rfl) (fun B25 => ?_)
       replace H := H B25
       refine AtE.store 3 0 (T := 84) (v := .agg #[.func (.func 71) #[] #[], .bool false, .func (.func 72) #[] #[]]) (by kernel_rfl) ?_
       refine AtE.run 10 (fun W => by kernel_rfl) ?_
       refine AtE.load 3 2 (T := 47) (v := .func (.func 72) #[] #[]) (by kernel_rfl) ?_
       refine AtE.run 1 (fun W => by kernel_rfl) ?_
       refine AtE.load 2 2 (T := 9) (v := .string m2_2) (by kernel_rfl) ?_
       refine AtE.call 72 ⟨[.string m2_2]⟩ (fun W => by kernel_rfl) (by kernel_rfl) H ?_
       clear H
       rintro _ _ ⟨r651, rfl, rfl, H⟩
       refine AtE.call 50 ⟨[.pointer (some ⟨B12, 0, none⟩), .string r651]⟩ (fun W => by kernel_rfl) (by kernel_rfl) H ?_
       clear H
       rintro _ _ ⟨r661, r671, F31, rfl, rfl, H⟩
       refine AtE.run 2 (fun W => by kernel_rfl) ?_
       refine AtE.call 62 ⟨[.pointer (some ⟨B12, 0, none⟩), .int .u8 (10 : Int)]⟩ (fun W => by kernel_rfl) (by kernel_rfl) H ?_
       clear H
       rintro _ _ ⟨r681, F32, rfl, rfl, H⟩
       refine AtE.norm (k' := [.inRegion (regOps [.code (EngB8s34 [1,1,1,0,1,0,0,1,1,0,0,1,1,1,0,1])]) [], .inBlock 1, .code (EngB8s34 [1,1,1,0,1,0,0,1,1,1]), .inLoop (EngB8s34 [1,1,1,0,1,0,0]), .inBlock 0, .code (EngB8s34 [1,1,1,1])]) (e' := [(3, .map (some B11)), (4, .pointer (some ⟨B12, 0, none⟩)), (10, .slice (some ⟨t102_pb, t102_po, none⟩) t102_l t102_c), (11, .int .i64 t112), (12, .int .i64 t122)]) (L' := ((B11, EngB8m0) :: (B20, .cells #[.int .i64 m2_0, .int .i64 m2_1, .string m2_2, .int .i64 m2_3, .int .i64 m2_4, .int .i64 m2_5, .slice m2_6_p m2_6_l m2_6_c, .int .i64 m2_7, .int .i64 m2_8] 26) :: (B25, .cells #[.func (.func 71) #[] #[], .bool false, .func (.func 72) #[] #[]] 84) :: F32)) ?_ (by kernel_rfl)
       refine AtE.run 7 (fun W => by kernel_rfl) ?_
       exact AtE.cutT [0] 3 H (by kernel_rfl)
      ·replace H := H.2 h18'
       refine AtE.norm (k' := [.inRegion (regOps [.code (EngB8s34 [1,1,1,0,1,0,0,1,1,0,0,1,0])]) [4,5,6,7,8,9], .code (EngB8s34 [1,1,1,0,1,0,0,1,1,0,0,1,1]), .inBlock 1, .code (EngB8s34 [1,1,1,0,1,0,0,1,1,1]), .inLoop (EngB8s34 [1,1,1,0,1,0,0]), .inBlock 0, .code (EngB8s34 [1,1,1,1])]) (e' := [(3, .map (some B11)), (4, .pointer (some ⟨B12, 0, none⟩)), (6, .pointer (some ⟨B20, 0, none⟩)), (10, .slice (some ⟨t102_pb, t102_po, none⟩) t102_l t102_c), (11, .int .i64 t112), (12, .int .i64 t122), (20, .tuple #[.agg #[.nilFunc, .bool false, .nilFunc], .bool false])]) (L' := [(B11, EngB8m0), (B12, .cells #[.pointer m01, .slice none 0 0] 60), (B20, .cells #[.int .i64 m2_0, .int .i64 m2_1, .string m2_2, .int .i64 m2_3, .int .i64 m2_4, .int .i64 m2_5, .slice m2_6_p m2_6_l m2_6_c, .int .i64 m2_7, .int .i64 m2_8] 26)]) ?_ (by kernel_rfl)
       refine AtE.run 3 (fun W => by kernel_rfl) ?_
       refine AtE.new (fun B => .pointer (some ⟨B, 0, none⟩)) (.cells #[.nilFunc, .bool false, .nilFunc] 84) (fun W => by kernel_rfl) (by kernel_rfl) (fun B26 => ?_)
       replace H := H B26
       refine AtE.store 3 0 (T := 84) (v := .agg #[.nilFunc, .bool false, .nilFunc]) (by kernel_rfl) ?_
       refine AtE.run 14 (fun W => by kernel_rfl) ?_
       exact AtE.cut [0,1] H (by kernel_rfl)
 ·replace H := H.2 h13'
  refine AtE.run 4 (fun W => by kernel_rfl) ?_
  refine AtE.call 51 ⟨[.pointer (some ⟨B12, 0, none⟩)]⟩ (fun W => by kernel_rfl) (by kernel_rfl) H ?_
  clear H
  rintro _ _ ⟨r691, F33, rfl, rfl, H⟩
  refine AtE.run 2 (fun W => by kernel_rfl) ?_
  exact AtE.ret Tryd.func34 (by kernel_rfl) H
theorem plain_vc (l_p : Option Addr) (l_l : Nat) (l_c : Nat) {R : Ending → World → Prop} {w0 W : World} (hm : Mem [] [] w0 W)
  (H :
   CallH Tryd.prog 41 ⟨[]⟩ [] [] w0 (fun v L' => ∃ (mb : Nat), v = (.map (some mb)) ∧ L' = [(mb, EngB8m0)] ∧
    ∀ B : Nat,
    plain_c0 mb B l_p l_l l_c (l_l : Int) (0 : Int) none w0 R)) :
  Calls Tryd.prog 34 ⟨[.slice l_p l_l l_c]⟩ W R := by
 refine AtE.calls (nt := 33) Tryd.func34 (by kernel_rfl) hm ?_
 refine AtE.run 6 (fun W => by kernel_rfl) ?_
 refine AtE.call 41 ⟨[]⟩ (fun W => by kernel_rfl) (by kernel_rfl) H ?_
 clear H
 rintro _ _ ⟨mb, rfl, rfl, H⟩
 refine AtE.run 4 (fun W => by kernel_rfl) ?_
 refine AtE.new (fun B => .pointer (some ⟨B, 0, none⟩)) (.cells #[.pointer none, .slice none 0 0] 60) (fun W => by kernel_rfl) (by kernel_rfl) (fun B => ?_)
 replace H := H B
 refine AtE.run 10 (fun W => by kernel_rfl) ?_
 exact AtE.cut [0,1] H (by kernel_rfl)
end Go.Eng
namespace Go.Eng
open Go Go.RowKit Go.Proofs Wire
set_option linter.unusedVariables false
abbrev ba (l : List UInt8) : ByteArray := ⟨l.toArray⟩
theorem ba_append (a b : List UInt8) : ba a ++ ba b = ba (a ++ b) := bts_inj (by rw [bts_append, bts_mk, bts_mk, bts_mk])
theorem ba_size (a : List UInt8) : (ba a).size = a.length := by rw [← bts_len, bts_mk]
theorem encB_ba (n : Int) : encB n = ba (enc n) := bts_inj (by rw [encB_bts, bts_mk])
theorem encSB_ba (s : ByteArray) : encSB s = ba (encS (bts s)) := bts_inj (by rw [encSB_bts, bts_mk])
theorem encS_len (t : List UInt8) : (encS t).length ≤ t.length + 10 := by
  unfold encS; rw [List.length_append]; have := enc_len t.length; omega
def encIs (l : List Int) : List UInt8 := l.flatMap enc
def Blk.enc (b : Blk) : List UInt8 :=
  Wire.enc b.id ++ (Wire.enc b.kind ++ (encS (bts b.text) ++ (Wire.enc b.story ++ (Wire.enc b.ref ++ (Wire.enc b.lab.unt ++ (Wire.enc b.lab.after.length ++ (encIs b.lab.after ++ (Wire.enc b.lab.appr ++ Wire.enc b.lab.den))))))))
def encBs (l : List Blk) : List UInt8 := l.flatMap Blk.enc
def encL (l : List Blk) : List UInt8 := Wire.enc (l.length : Int) ++ encBs l
def encAns (l : List Blk) : Value := if listOk l = true then .tuple #[.string (ba (encL l)), .int .i64 0] else .tuple #[.string ⟨#[]⟩, .int .i64 30]
theorem asc_spec : ∀ (l : List Int) (last : Int), ascOk last l = true → 0 ≤ last → last ≤ 64 → last + l.length ≤ 64 ∧ ∀ x ∈ l, last < x ∧ x ≤ 64
  | [], last, _, h0, h1 => ⟨by simpa using h1, by simp⟩
  | x :: r, last, h, h0, h1 => by
    simp only [ascOk, Bool.and_eq_true, decide_eq_true_eq] at h
    obtain ⟨⟨h2, h3⟩, h4⟩ := h
    obtain ⟨h5, h6⟩ := asc_spec r x h4 (by omega) h3
    refine ⟨by simp only [List.length_cons]; omega, fun y hy => ?_⟩
    rcases List.mem_cons.1 hy with rfl | hy
    · omega
    · have := h6 y hy; omega
structure Blk.Good (b : Blk) : Prop where
  id : 1 ≤ b.id ∧ b.id ≤ 1000
  kind : 1 ≤ b.kind ∧ b.kind ≤ 5
  text : b.text.size ≤ 300
  story : 0 ≤ b.story ∧ b.story ≤ 64
  ref : 0 ≤ b.ref ∧ b.ref ≤ 1000
  unt : 0 ≤ b.lab.unt ∧ b.lab.unt ≤ 1000000000
  appr : 0 ≤ b.lab.appr ∧ b.lab.appr ≤ 5
  den : 0 ≤ b.lab.den ∧ b.lab.den ≤ 15
  len : b.lab.after.length ≤ 64
  after : ∀ x ∈ b.lab.after, 0 < x ∧ x ≤ 64
theorem Blk.good {b : Blk} (h : b.ok = true) : b.Good := by
  simp only [Blk.ok, Bool.and_eq_true, decide_eq_true_eq] at h
  obtain ⟨hid, hl, hk⟩ := h
  simp only [Lab.ok, Bool.and_eq_true, decide_eq_true_eq] at hl
  obtain ⟨hl, ha⟩ := hl
  obtain ⟨h1, h2⟩ := asc_spec _ _ ha (by omega) (by omega)
  have hkk : (1 ≤ b.kind ∧ b.kind ≤ 5) ∧ b.text.size ≤ 300 ∧ (0 ≤ b.story ∧ b.story ≤ 64) ∧ 0 ≤ b.ref ∧ b.ref ≤ 1000 := by
    unfold Blk.kindOk at hk
    simp only [fillOk, txtOk, nameOk, Blk.noRef] at hk
    repeat' split at hk
    all_goals simp only [Bool.and_eq_true, decide_eq_true_eq, Bool.false_eq_true] at hk
    all_goals omega
  exact ⟨hid, hkk.1, hkk.2.1, hkk.2.2.1, hkk.2.2.2, by omega, by omega, by omega, by omega, h2⟩
theorem listGo_all : ∀ (l seen : List Blk), listGo seen l = true → ∀ b ∈ l, b.ok = true
  | [], _, _, _, hb => by cases hb
  | x :: r, seen, h, b, hb => by
    simp only [listGo, Bool.and_eq_true] at h
    rcases List.mem_cons.1 hb with rfl | hb
    · exact h.1
    · exact listGo_all r _ h.2.2 b hb
theorem listOk_all {l : List Blk} (h : listOk l = true) : l.length ≤ 24 ∧ ∀ b ∈ l, b.ok = true := by
  simp only [listOk, Bool.and_eq_true, decide_eq_true_eq] at h
  exact ⟨h.1, listGo_all l _ h.2⟩
theorem encIs_len (l : List Int) : (encIs l).length ≤ 10 * l.length := by
  induction l with
  | nil => simp [encIs]
  | cons x r ih => simp only [encIs, List.flatMap_cons, List.length_append, List.length_cons] at *; have := enc_len x; omega
theorem encBlk_len {b : Blk} (h : b.Good) : b.enc.length ≤ 1040 := by
  have h1 := encS_len (bts b.text)
  rw [bts_len] at h1
  have h2 := encIs_len b.lab.after
  have := h.text; have := h.len
  unfold Blk.enc
  simp only [List.length_append]
  have := enc_len b.id; have := enc_len b.kind; have := enc_len b.story; have := enc_len b.ref; have := enc_len b.lab.unt; have := enc_len (b.lab.after.length : Int); have := enc_len b.lab.appr; have := enc_len b.lab.den
  omega
theorem encBs_len : ∀ (l : List Blk), (∀ b ∈ l, b.ok = true) → (encBs l).length ≤ 1040 * l.length
  | [], _ => by simp [encBs]
  | b :: r, h => by
    have ih := encBs_len r (fun x hx => h x (by simp [hx]))
    have := encBlk_len (Blk.good (h b (by simp)))
    simp only [encBs, List.flatMap_cons, List.length_append, List.length_cons] at *
    omega
theorem encBs_take {l : List Blk} {i : Nat} (h : i < l.length) : encBs (l.take (i + 1)) = encBs (l.take i) ++ l[i].enc := by
  have e : l.take (i + 1) = l.take i ++ [l[i]] := by rw [List.take_add_one, List.getElem?_eq_getElem h]; rfl
  rw [e, encBs, List.flatMap_append, List.flatMap_cons, List.flatMap_nil, List.append_nil]; rfl
theorem encIs_take {l : List Int} {i : Nat} (h : i < l.length) : encIs (l.take (i + 1)) = encIs (l.take i) ++ Wire.enc l[i] := by
  have e : l.take (i + 1) = l.take i ++ [l[i]] := by rw [List.take_add_one, List.getElem?_eq_getElem h]; rfl
  rw [e, encIs, List.flatMap_append, List.flatMap_cons, List.flatMap_nil, List.append_nil]; rfl
theorem okI {n : Int} (h : -1000000000000 ≤ n ∧ n ≤ 1000000000000) : okInt n := by unfold okInt maxInt; omega
theorem putI {n : Int} (h : okInt n) : PureC Tryd.prog 74 ⟨[.int .i64 n]⟩ (.tuple #[.string (ba (Wire.enc n)), .int .i64 0]) := by
  have := PutInt_c n
  rw [putAns, if_pos h, encB_ba] at this
  exact this
theorem putS {s : ByteArray} (h : s.size ≤ 65536) : PureC Tryd.prog 49 ⟨[.string s]⟩ (.tuple #[.string (ba (encS (bts s))), .int .i64 0]) := by
  have := PutString_c s
  rw [putSAns, if_pos h, encSB_ba] at this
  exact this
theorem CallH.effF {P : Program} {S : List Nat} {w0 : World} {g : FuncId} {args : Array Value} {F : SHeap} {K K' : Value → SHeap → Prop} (h : EffC P g args F K) (hK : ∀ v F', K v F' → K' v F') : CallH P g args F S w0 K' :=
  CallH.eff (L1 := []) h (by simp) fun v L' hk => ⟨L', by simp, hK v L' hk⟩
theorem CallH.effT {P : Program} {S : List Nat} {w0 : World} {g : FuncId} {args : Array Value} {F : SHeap} {K K' : Value → SHeap → Prop} (told : SHeap) (h : EffC P g args F K) (hK : ∀ v F', K v F' → K' v (told ++ F')) : CallH P g args (told ++ F) S w0 K' :=
  CallH.eff (L1 := told) h List.perm_append_comm fun v L' hk => ⟨told ++ L', List.perm_append_comm, hK v L' hk⟩
theorem CallH.effWT {P : Program} {S : List Nat} {w0 : World} {g : FuncId} {args : Array Value} {F : SHeap} {Pre : World → Prop} {K K' : Value → SHeap → Prop} (told : SHeap) (h : EffW P g args F Pre K) (hpre : ∀ W, Mem (told ++ F) S w0 W → Pre W) (hK : ∀ v F', K v F' → K' v (told ++ F')) : CallH P g args (told ++ F) S w0 K' :=
  CallH.effW (L1 := told) h hpre List.perm_append_comm fun v L' hk => ⟨told ++ L', List.perm_append_comm, hK v L' hk⟩
def lkX (S : List Nat) (w : World) : Lk := fun b c => b ∉ S ∧ blkW w b = some c
theorem lkX_of {told F : SHeap} {w0 W : World} (hm : Mem (told ++ F) [] w0 W) : ∀ b c, lkM told w0 b c → lkX (F.map (·.1)) W b c := by
  rintro b c (⟨t, fz, h⟩ | h)
  · refine ⟨fun hb => ?_, ?_⟩
    · have hnd := hm.nodup
      rw [List.map_append, List.nodup_append] at hnd
      exact hnd.2.2 b (List.mem_map_of_mem h) b hb rfl
    · have := hm.here _ (List.mem_append_left F h)
      simp only at this
      simp [blkW, this]
  · refine ⟨fun hb => ?_, lkW_kept hm b c h⟩
    obtain ⟨q, hq, rfl⟩ := List.mem_map.1 hb
    have h1 := hm.own q (List.mem_append_right told hq)
    simp only [List.not_mem_nil, or_false] at h1
    unfold lkW blkW at h
    rw [Array.getElem?_eq_none h1] at h
    cases h
theorem ints_told {told : SHeap} {w0 : World} {B : Nat} {ns : List Int} {t : TypeId} (h : (B, Obj.cells ⟨ns.map (.int .i64)⟩ t) ∈ told) : IntsL (lkM told w0) (some ⟨B, 0, none⟩) ns := by
  intro _
  refine ⟨B, 0, ns.map (.int .i64), rfl, .inl ⟨t, _, h⟩, fun i hi => ?_⟩
  rw [Nat.zero_add, List.getElem?_map, List.getElem?_eq_getElem hi]; rfl
theorem putInts_loop {w0 : World} {S : List Nat} {B : Nat} {p : Option Addr} {c : Nat} {ns : List Int} (hp : IntsL (lkX S w0) p ns) (hok : ∀ x ∈ ns, okInt x) (hn : ns.length ≤ 1000000) {l : List UInt8} (hl : l.length ≤ 1000000000) :
    ∀ (g i : Nat) (F : SHeap), g + i = ns.length → BRep B (l ++ encIs (ns.take i)) F →
      putInts_c0 B p ns.length c (ns.length : Int) (i : Int) F S w0 (fun e W' => ∃ v L', e = .returned v ∧ Mem L' S w0 W' ∧ v = .tuple #[] ∧ BRep B (l ++ encIs ns) L')
  | 0, i, F, hg, hF => by
    apply putInts_c0_vc
    refine no (by omega) (dkFin ⟨rfl, ?_⟩)
    rw [List.take_of_length_le (by omega)] at hF
    exact hF
  | g + 1, i, F, hg, hF => by
    apply putInts_c0_vc
    have hi : i < ns.length := by omega
    obtain ⟨b, o, cc, rfl, e2, e3⟩ := hp.get hi
    refine yes (by omega) ⟨b, o, rfl, by omega, cc, ns[i], e2.1, e2.2, by simpa using e3, ?_⟩
    refine CallH.pure (putI (hok _ (List.getElem_mem hi))) ⟨_, _, rfl, rfl, ?_⟩
    have h1 := encIs_len (ns.take i)
    rw [List.length_take] at h1
    have h2 := enc_len ns[i]
    refine CallH.effF (write_e hF (by rw [List.length_append, ba_size]; omega)) fun v F' ⟨hv, hF'⟩ => ⟨_, _, F', hv, rfl, ?_⟩
    rw [wi64 (by omega), show (i : Int) + 1 = ((i + 1 : Nat) : Int) by omega]
    refine putInts_loop hp hok hn hl g (i + 1) F' (by omega) ?_
    rw [encIs_take hi, ← List.append_assoc]
    rwa [bts_mk] at hF'
theorem putInts_e {B : Nat} {p : Option Addr} {c : Nat} {ns : List Int} (hok : ∀ x ∈ ns, okInt x) (hn : ns.length ≤ 1000000) {l : List UInt8} (hl : l.length ≤ 1000000000) {F : SHeap} (hF : BRep B l F) :
    EffW Tryd.prog 48 ⟨[.pointer (some ⟨B, 0, none⟩), .slice p ns.length c]⟩ F (fun W => IntsL (lkX (F.map (·.1)) W) p ns) (fun v F' => v = .tuple #[] ∧ BRep B (l ++ encIs ns) F') := by
  intro W hm hp
  refine putInts_vc B p ns.length c F hm (putInts_loop hp hok hn hl ns.length 0 F (by omega) ?_)
  simpa [encIs] using hF
theorem enc_parts (b : Blk) (p : List UInt8) : p ++ encIs [b.id, b.kind] ++ encS (bts b.text) ++ encIs [b.story, b.ref, b.lab.unt, (b.lab.after.length : Int)] ++ encIs b.lab.after ++ encIs [b.lab.appr, b.lab.den] = p ++ b.enc := by
  simp [Blk.enc, encIs]
theorem encode_loop {w0 : World} {B : Nat} {p : Option Addr} {c : Nat} {l : List Blk} (hl : BlksL (lkW w0) p l) (hok : listOk l = true) :
    ∀ (g i : Nat) (F : SHeap), g + i = l.length → BRep B (Wire.enc (l.length : Int) ++ encBs (l.take i)) F →
      encode_c0 B p l.length c (l.length : Int) (i : Int) F w0 (fun e W' => e = .returned (encAns l) ∧ Below w0.heap.size w0 W')
  | 0, i, F, hg, hF => by
    apply encode_c0_vc
    rw [List.take_of_length_le (by omega)] at hF
    have h1 := encBs_len l (listOk_all hok).2
    have h2 := enc_len (l.length : Int)
    have h3 := (listOk_all hok).1
    refine no (by omega) (CallH.effF (string_e hF (by rw [List.length_append]; omega)) fun v F' hv => ⟨_, F', hv, rfl, finPW ?_⟩)
    rw [encAns, if_pos hok]; rfl
  | g + 1, i, F, hg, hF => by
    apply encode_c0_vc
    have hi : i < l.length := by omega
    obtain ⟨B1, o1, c1, rfl, e2, e3, p6, c6, e4, e5, e6⟩ := hl.get hi
    have hall := listOk_all hok
    have hgd := Blk.good (hall.2 _ (List.getElem_mem hi))
    have k1 := encBs_len (l.take i) (fun b hb => hall.2 b (List.mem_of_mem_take hb))
    rw [List.length_take] at k1
    have k2 := enc_len (l.length : Int)
    have k3 := hall.1
    have i1 := hgd.id; have i2 := hgd.kind; have i3 := hgd.text; have i4 := hgd.story; have i5 := hgd.ref; have i6 := hgd.unt; have i7 := hgd.appr; have i8 := hgd.den; have i9 := hgd.len
    refine yes (by omega) ⟨B1, o1, rfl, by omega, c1, l[i].id, l[i].kind, l[i].text, l[i].story, l[i].ref, l[i].lab.unt, p6, l[i].lab.after.length, c6, l[i].lab.appr, l[i].lab.den, e2, ⟨by simpa using e4, by simpa using e3⟩, fun B2 B3 => ?_⟩
    have m1 := encIs_len [l[i].id, l[i].kind]
    have m2 := encS_len (bts l[i].text); rw [bts_len] at m2
    have m3 := encIs_len [l[i].story, l[i].ref, l[i].lab.unt, (l[i].lab.after.length : Int)]
    have m4 := encIs_len l[i].lab.after
    simp only [List.length_cons, List.length_nil] at m1 m3
    refine CallH.effWT [_, _] (putInts_e (ns := [l[i].id, l[i].kind]) (fun x hx => ?_) (by simp) (by rw [List.length_append]; omega) hF) (fun W' hm' => (ints_told (told := [_, _]) (ns := [l[i].id, l[i].kind]) (t := 3) (by simp)).mono (lkX_of hm')) fun v F2 ⟨hv, hF2⟩ => ⟨F2, hv, rfl, ?_⟩
    · rcases List.mem_cons.1 hx with rfl | hx
      · exact okI (by omega)
      · rw [List.mem_singleton.1 hx]; exact okI (by omega)
    refine CallH.pure (putS (by omega)) ⟨_, _, rfl, rfl, ?_⟩
    refine CallH.effT [_, _] (write_e hF2 (by simp only [List.length_append, ba_size]; omega)) fun v F3 ⟨hv, hF3⟩ => ⟨_, _, F3, hv, rfl, fun B4 => ?_⟩
    rw [bts_mk] at hF3
    refine CallH.effWT [_, _, _] (putInts_e (ns := [l[i].story, l[i].ref, l[i].lab.unt, (l[i].lab.after.length : Int)]) (fun x hx => ?_) (by simp) (by simp only [List.length_append]; omega) hF3) (fun W' hm' => (ints_told (told := [_, _, _]) (ns := [l[i].story, l[i].ref, l[i].lab.unt, (l[i].lab.after.length : Int)]) (t := 3) (by simp)).mono (lkX_of hm')) fun v F4 ⟨hv, hF4⟩ => ⟨F4, hv, rfl, ?_⟩
    · simp only [List.mem_cons, List.not_mem_nil, or_false] at hx
      rcases hx with rfl | rfl | rfl | rfl <;> exact okI (by omega)
    refine CallH.effWT [_, _, _] (putInts_e (ns := l[i].lab.after) (fun x hx => ?_) (by omega) (by simp only [List.length_append]; omega) hF4) (fun W' hm' => (e5.mono lkM_old).mono (lkX_of hm')) fun v F5 ⟨hv, hF5⟩ => ⟨F5, hv, rfl, fun B5 => ?_⟩
    · have := hgd.after x hx; exact okI (by omega)
    refine CallH.effWT [_, _, _, _] (putInts_e (ns := [l[i].lab.appr, l[i].lab.den]) (fun x hx => ?_) (by simp) (by simp only [List.length_append]; omega) hF5) (fun W' hm' => (ints_told (told := [_, _, _, _]) (ns := [l[i].lab.appr, l[i].lab.den]) (t := 3) (by simp)).mono (lkX_of hm')) fun v F6 ⟨hv, hF6⟩ => ⟨F6, hv, rfl, ?_⟩
    · rcases List.mem_cons.1 hx with rfl | hx
      · exact okI (by omega)
      · rw [List.mem_singleton.1 hx]; exact okI (by omega)
    rw [wi64 (by omega), show (i : Int) + 1 = ((i + 1 : Nat) : Int) by omega]
    refine encode_loop hl hok g (i + 1) F6 (by omega) ?_
    rw [encBs_take hi, ← List.append_assoc, ← enc_parts]
    exact hF6
theorem encode_c {W : World} {p : Option Addr} {c : Nat} {l : List Blk} (hl : BlksL (lkW W) p l) (hc : l.length ≤ c) : PW Tryd.prog 27 ⟨[.slice p l.length c]⟩ W (encAns l) := by
  refine encode_vc p l.length c (Mem.start [] W) (CallH.pw (fun W' hm' => validL_c (hl.mono (lkW_kept hm')) hc) ⟨_, rfl, rfl, fun h B B1 => ?_, fun h => finPW ?_⟩)
  · have h3 := (listOk_all h).1
    refine CallH.effW (L0 := [bHdr B (.pointer none) (.slice none 0 0)]) (L1 := [(B1, .cells #[.int .i64 (l.length : Int)] 3)]) (putInts_e (ns := [(l.length : Int)]) (l := []) (fun x hx => ?_) (by simp) (by simp) (BRep.new B)) (fun W' hm' => (ints_told (told := [(B1, .cells #[.int .i64 (l.length : Int)] 3)]) (ns := [(l.length : Int)]) (t := 3) (by simp)).mono (lkX_of (hm'.perm (List.perm_append_comm (l₁ := [(B1, Obj.cells #[.int .i64 (l.length : Int)] 3)]) (l₂ := [bHdr B (.pointer none) (.slice none 0 0)]))))) (List.Perm.refl _) fun v F ⟨hv, hF⟩ => ⟨_, List.perm_append_comm, F, hv, rfl, ?_⟩
    · rw [List.mem_singleton.1 hx]; exact okI (by omega)
    · refine encode_loop hl h l.length 0 F (by omega) ?_
      simpa [encIs, encBs] using hF
  · rw [encAns, if_neg (by rw [h]; simp)]
end Go.Eng
namespace Go.Eng
open Go Go.RowKit Wire
set_option linter.unusedVariables false
abbrev RS := Nat × Int
def rdI (s : List UInt8) (st : RS) : Int × RS :=
  if st.2 = 0 then match rdInt (s.drop st.1) with
    | none => (0, (st.1, 10))
    | some (n, k) => (n, (st.1 + k, 0))
  else (0, st)
def rdT (s : List UInt8) (st : RS) : ByteArray × RS :=
  if st.2 = 0 then match rdStr (s.drop st.1) with
    | none => (⟨#[]⟩, (st.1, 10))
    | some (t, k) => (⟨t.toArray⟩, (st.1 + k, 0))
  else (⟨#[]⟩, st)
def rdMany {α : Type} (f : RS → α × RS) : Nat → RS → List α × RS
  | 0, st => ([], st)
  | n + 1, st => if st.2 = 0 then ((f st).1 :: (rdMany f n (f st).2).1, (rdMany f n (f st).2).2) else ([], st)
def rdCount (s : List UInt8) (most : Int) (st : RS) : Int × RS :=
  if (rdI s st).2.2 = 0 ∧ ((rdI s st).1 < 0 ∨ most < (rdI s st).1) then ((rdI s st).1, ((rdI s st).2.1, 30)) else rdI s st
def rdList {α : Type} (f : RS → α × RS) (s : List UInt8) (most : Int) (st : RS) : List α × RS := rdMany f (rdCount s most st).1.toNat (rdCount s most st).2
def rdB1 (s : List UInt8) (st : RS) := rdI s st
def rdB2 (s : List UInt8) (st : RS) := rdI s (rdB1 s st).2
def rdB3 (s : List UInt8) (st : RS) := rdT s (rdB2 s st).2
def rdB4 (s : List UInt8) (st : RS) := rdI s (rdB3 s st).2
def rdB5 (s : List UInt8) (st : RS) := rdI s (rdB4 s st).2
def rdB6 (s : List UInt8) (st : RS) := rdI s (rdB5 s st).2
def rdB7 (s : List UInt8) (st : RS) := rdList (rdI s) s 64 (rdB6 s st).2
def rdB8 (s : List UInt8) (st : RS) := rdI s (rdB7 s st).2
def rdB9 (s : List UInt8) (st : RS) := rdI s (rdB8 s st).2
def rdBlk (s : List UInt8) (st : RS) : Blk × RS :=
  (⟨(rdB1 s st).1, (rdB2 s st).1, (rdB3 s st).1, (rdB4 s st).1, (rdB5 s st).1, ⟨(rdB6 s st).1, (rdB7 s st).1, (rdB8 s st).1, (rdB9 s st).1⟩⟩, (rdB9 s st).2)
def decRun (s : List UInt8) : List Blk × RS := rdList (rdBlk s) s 24 (0, 0)
def decSpec (s : List UInt8) : List Blk × Int :=
  if ¬ (decRun s).2.2 = 0 then ([], (decRun s).2.2) else if (decRun s).2.1 < s.length then ([], 10) else if listOk (decRun s).1 = true then ((decRun s).1, 0) else ([], 30)
theorem rdStr_inv' {l t : List UInt8} {k : Nat} (h : rdStr l = some (t, k)) : k ≤ l.length ∧ t.length ≤ 65536 := by
  unfold rdStr at h
  split at h
  · cases h
  · next n j hr =>
    split at h
    · next hc =>
      have := (rdInt_inv hr).2.1
      simp only [Option.some.injEq, Prod.mk.injEq] at h
      obtain ⟨rfl, rfl⟩ := h
      refine ⟨by omega, ?_⟩
      rw [List.length_take]; omega
    · cases h
theorem rdI_le {s : List UInt8} {st : RS} (h : st.1 ≤ s.length) : (rdI s st).2.1 ≤ s.length := by
  unfold rdI
  split
  · split
    · exact h
    · next n k hr =>
      have := (rdInt_inv hr).2.1
      rw [List.length_drop] at this
      simp only; omega
  · exact h
theorem rdT_le {s : List UInt8} {st : RS} (h : st.1 ≤ s.length) : (rdT s st).2.1 ≤ s.length ∧ (rdT s st).1.size ≤ 65536 := by
  unfold rdT
  split
  · split
    · exact ⟨h, (show (0 : Nat) ≤ 65536 by decide)⟩
    · next n k hr =>
      have := rdStr_inv' hr
      rw [List.length_drop] at this
      exact ⟨by simp only; omega, by rw [ba_size]; exact this.2⟩
  · exact ⟨h, (show (0 : Nat) ≤ 65536 by decide)⟩
theorem rdMany_le {α : Type} {f : RS → α × RS} {s : List UInt8} (hf : ∀ st, st.1 ≤ s.length → (f st).2.1 ≤ s.length) : ∀ (n : Nat) (st : RS), st.1 ≤ s.length → (rdMany f n st).2.1 ≤ s.length ∧ (rdMany f n st).1.length ≤ n
  | 0, st, h => ⟨h, Nat.le_refl _⟩
  | n + 1, st, h => by
    unfold rdMany
    split
    · have := rdMany_le hf n (f st).2 (hf st h)
      exact ⟨this.1, by simp only [List.length_cons]; omega⟩
    · exact ⟨h, by simp⟩
theorem rdMany_err {α : Type} {f : RS → α × RS} {n : Nat} {st : RS} (h : ¬ st.2 = 0) : rdMany f n st = ([], st) := by
  cases n with
  | zero => rfl
  | succ n => rw [rdMany, if_neg h]
theorem rdCount_le {s : List UInt8} {most : Int} {st : RS} (h : st.1 ≤ s.length) : (rdCount s most st).2.1 ≤ s.length := by
  unfold rdCount
  split
  · exact rdI_le h
  · exact rdI_le h
theorem rdCount_ok {s : List UInt8} {most : Int} {st : RS} (h : (rdCount s most st).2.2 = 0) : 0 ≤ (rdCount s most st).1 ∧ (rdCount s most st).1 ≤ most := by
  unfold rdCount at *
  split at h
  · simp at h
  · next hn =>
    rw [if_neg hn]
    omega
theorem rdList_le {α : Type} {f : RS → α × RS} {s : List UInt8} {most : Nat} (hf : ∀ st, st.1 ≤ s.length → (f st).2.1 ≤ s.length) {st : RS} (h : st.1 ≤ s.length) : (rdList f s most st).2.1 ≤ s.length ∧ (rdList f s most st).1.length ≤ most := by
  unfold rdList
  have := rdMany_le hf (rdCount s most st).1.toNat (rdCount s most st).2 (rdCount_le h)
  refine ⟨this.1, ?_⟩
  by_cases he : (rdCount s most st).2.2 = 0
  · have := rdCount_ok he
    omega
  · rw [rdMany_err he]; simp
theorem rdB_le {s : List UInt8} {st : RS} (h : st.1 ≤ s.length) : (rdB1 s st).2.1 ≤ s.length ∧ (rdB2 s st).2.1 ≤ s.length ∧ (rdB3 s st).2.1 ≤ s.length ∧ (rdB4 s st).2.1 ≤ s.length ∧ (rdB5 s st).2.1 ≤ s.length ∧ (rdB6 s st).2.1 ≤ s.length ∧ (rdB7 s st).2.1 ≤ s.length ∧ (rdB8 s st).2.1 ≤ s.length ∧ (rdB9 s st).2.1 ≤ s.length := by
  have h1 := rdI_le h
  have h2 := rdI_le (s := s) h1
  have h3 := (rdT_le (s := s) h2).1
  have h4 := rdI_le (s := s) h3
  have h5 := rdI_le (s := s) h4
  have h6 := rdI_le (s := s) h5
  have h7 := (rdList_le (f := rdI s) (most := 64) (fun st => rdI_le) h6).1
  have h8 := rdI_le (s := s) h7
  have h9 := rdI_le (s := s) h8
  exact ⟨h1, h2, h3, h4, h5, h6, h7, h8, h9⟩
theorem rdBlk_le {s : List UInt8} {st : RS} (h : st.1 ≤ s.length) : (rdBlk s st).2.1 ≤ s.length := (rdB_le h).2.2.2.2.2.2.2.2
theorem rdBlk_fits {s : List UInt8} {st : RS} (h : st.1 ≤ s.length) : (rdBlk s st).1.Fits := by
  obtain ⟨h1, h2, h3, h4, h5, h6, h7, h8, h9⟩ := rdB_le h
  refine ⟨?_, ?_⟩
  · have := (rdT_le (s := s) h2).2
    show (rdB3 s st).1.size ≤ _
    unfold rdB3; omega
  · have := (rdList_le (f := rdI s) (most := 64) (fun st => rdI_le) h6).2
    show (rdB7 s st).1.length ≤ _
    exact Nat.le_trans this (by decide)
end Go.Eng
namespace Go.Eng
open Go Go.RowKit Go.Proofs
set_option linter.unusedVariables false
set_option maxRecDepth 100000
noncomputable abbrev EngB9s29 := sub (Eng.body Tryd.f29)
noncomputable abbrev EngB9s54 := sub (Eng.body Tryd.f54)
noncomputable abbrev EngB9s55 := sub (Eng.body Tryd.f55)
noncomputable abbrev EngB9s77 := sub (Eng.body Tryd.f77)
noncomputable abbrev EngB9s80 := sub (Eng.body Tryd.f80)
noncomputable abbrev EngB9s82 := sub (Eng.body Tryd.f82)
theorem readI_vc (Rb : Nat) (tx : ByteArray) (ra : Int) (re : Int) {R : Ending → World → Prop} {S : List Nat} {w0 W : World} (hm : Mem [(Rb, .cells #[.string tx, .int .i64 ra, .int .i64 re] 70)] S w0 W)
  (H :
   ((¬ (re = (0 : Int))) →
    Fin R [(Rb, .cells #[.string tx, .int .i64 ra, .int .i64 re] 70)] S w0 (.int .i64 (0 : Int))) ∧
    ((re = (0 : Int)) →
    ∃ (r1 : Int) (r21 : Int) (r31 : Int), (QCall Tryd.prog 78 ⟨[.string tx, .int .i64 ra]⟩ [(Rb, .cells #[.string tx, .int .i64 ra, .int .i64 re] 70)] S w0 (.tuple #[.int .i64 r1, .int .i64 r21, .int .i64 r31])) ∧
    ((¬ (r31 = (0 : Int))) →
     Fin R [(Rb, .cells #[.string tx, .int .i64 ra, .int .i64 (10 : Int)] 70)] S w0 (.int .i64 (0 : Int))) ∧
     ((r31 = (0 : Int)) →
     Fin R [(Rb, .cells #[.string tx, .int .i64 r21, .int .i64 re] 70)] S w0 (.int .i64 r1)))) :
  Calls Tryd.prog 77 ⟨[.pointer (some ⟨Rb, 0, none⟩), .func (.func 78) #[] #[]]⟩ W R := by
 refine AtE.calls (nt := 40) Tryd.func77 (by kernel_rfl) hm ?_
 refine AtE.run 14 (fun W => by kernel_rfl) ?_
 refine AtE.load 0 2 (T := 35) (v := .int .i64 re) (by kernel_rfl) ?_
 refine AtE.run 2 (fun W => by kernel_rfl) ?_
 refine AtE.splitN 13 (p := re = (0 : Int)) (by kernel_rfl) (fun h1' => ?_) (fun h1' => ?_)
 ·replace H := H.1 h1'
  refine AtE.run 6 (fun W => by kernel_rfl) ?_
  exact AtE.ret Tryd.func77 (by kernel_rfl) H
 ·replace H := H.2 h1'
  refine AtE.run 3 (fun W => by kernel_rfl) ?_
  refine AtE.norm (k' := [.code (EngB9s77 [1,1,1,0]), .code (EngB9s77 [1,1,1,1])]) (e' := [(0, .pointer (some ⟨Rb, 0, none⟩)), (1, .func (.func 78) #[] #[]), (5, .int .i64 (0 : Int))]) (L' := [(Rb, .cells #[.string tx, .int .i64 ra, .int .i64 re] 70)]) ?_ (by kernel_rfl)
  refine AtE.draw 17 (by kernel_rfl) ?_
  refine AtQ.pure (by kernel_rfl) (fun W => by kernel_rfl) ?_
  refine AtQ.pure (by kernel_rfl) (fun W => by kernel_rfl) ?_
  refine AtQ.pure (by kernel_rfl) (fun W => by kernel_rfl) ?_
  refine AtQ.pure (by kernel_rfl) (fun W => by kernel_rfl) ?_
  refine AtQ.load 0 0 (T := 9) (v := .string tx) (by kernel_rfl) ?_
  refine AtQ.pure (by kernel_rfl) (fun W => by kernel_rfl) ?_
  refine AtQ.pure (by kernel_rfl) (fun W => by kernel_rfl) ?_
  refine AtQ.pure (by kernel_rfl) (fun W => by kernel_rfl) ?_
  refine AtQ.load 0 1 (T := 3) (v := .int .i64 ra) (by kernel_rfl) ?_
  obtain ⟨r1, r21, r31, hq, H⟩ := H
  refine AtQ.call 78 ⟨[.string tx, .int .i64 ra]⟩ (fun W => by kernel_rfl) (by kernel_rfl) hq ?_
  refine AtQ.pure (by kernel_rfl) (fun W => by kernel_rfl) ?_
  refine AtQ.pure (by kernel_rfl) (fun W => by kernel_rfl) ?_
  refine AtQ.pure (by kernel_rfl) (fun W => by kernel_rfl) ?_
  refine AtQ.pure (by kernel_rfl) (fun W => by kernel_rfl) ?_
  refine AtQ.pure (by kernel_rfl) (fun W => by kernel_rfl) ?_
  refine AtQ.pure (by kernel_rfl) (fun W => by kernel_rfl) ?_
  refine AtQ.pure (by kernel_rfl) (fun W => by kernel_rfl) ?_
  refine AtQ.done (by kernel_rfl) ?_
  refine AtE.run 7 (fun W => by kernel_rfl) ?_
  refine AtE.splitN 30 (p := r31 = (0 : Int)) (by kernel_rfl) (fun h2' => ?_) (fun h2' => ?_)
  ·replace H := H.1 h2'
   refine AtE.run 6 (fun W => by kernel_rfl) ?_
   refine AtE.store 0 2 (T := 35) (v := .int .i64 (10 : Int)) (by kernel_rfl) ?_
   refine AtE.run 6 (fun W => by kernel_rfl) ?_
   exact AtE.ret Tryd.func77 (by kernel_rfl) H
  ·replace H := H.2 h2'
   refine AtE.run 8 (fun W => by kernel_rfl) ?_
   refine AtE.store 0 1 (T := 3) (v := .int .i64 r21) (by kernel_rfl) ?_
   refine AtE.run 6 (fun W => by kernel_rfl) ?_
   exact AtE.ret Tryd.func77 (by kernel_rfl) H
theorem readS_vc (Rb : Nat) (tx : ByteArray) (ra : Int) (re : Int) {R : Ending → World → Prop} {S : List Nat} {w0 W : World} (hm : Mem [(Rb, .cells #[.string tx, .int .i64 ra, .int .i64 re] 70)] S w0 W)
  (H :
   ((¬ (re = (0 : Int))) →
    Fin R [(Rb, .cells #[.string tx, .int .i64 ra, .int .i64 re] 70)] S w0 (.string (⟨#[]⟩))) ∧
    ((re = (0 : Int)) →
    ∃ (r1 : ByteArray) (r21 : Int) (r31 : Int), (QCall Tryd.prog 81 ⟨[.string tx, .int .i64 ra]⟩ [(Rb, .cells #[.string tx, .int .i64 ra, .int .i64 re] 70)] S w0 (.tuple #[.string r1, .int .i64 r21, .int .i64 r31])) ∧
    ((¬ (r31 = (0 : Int))) →
     Fin R [(Rb, .cells #[.string tx, .int .i64 ra, .int .i64 (10 : Int)] 70)] S w0 (.string (⟨#[]⟩))) ∧
     ((r31 = (0 : Int)) →
     Fin R [(Rb, .cells #[.string tx, .int .i64 r21, .int .i64 re] 70)] S w0 (.string r1)))) :
  Calls Tryd.prog 80 ⟨[.pointer (some ⟨Rb, 0, none⟩), .func (.func 81) #[] #[]]⟩ W R := by
 refine AtE.calls (nt := 40) Tryd.func80 (by kernel_rfl) hm ?_
 refine AtE.run 14 (fun W => by kernel_rfl) ?_
 refine AtE.load 0 2 (T := 35) (v := .int .i64 re) (by kernel_rfl) ?_
 refine AtE.run 2 (fun W => by kernel_rfl) ?_
 refine AtE.splitN 13 (p := re = (0 : Int)) (by kernel_rfl) (fun h1' => ?_) (fun h1' => ?_)
 ·replace H := H.1 h1'
  refine AtE.run 6 (fun W => by kernel_rfl) ?_
  exact AtE.ret Tryd.func80 (by kernel_rfl) H
 ·replace H := H.2 h1'
  refine AtE.run 3 (fun W => by kernel_rfl) ?_
  refine AtE.norm (k' := [.code (EngB9s80 [1,1,1,0]), .code (EngB9s80 [1,1,1,1])]) (e' := [(0, .pointer (some ⟨Rb, 0, none⟩)), (1, .func (.func 81) #[] #[]), (5, .string (⟨#[]⟩))]) (L' := [(Rb, .cells #[.string tx, .int .i64 ra, .int .i64 re] 70)]) ?_ (by kernel_rfl)
  refine AtE.draw 17 (by kernel_rfl) ?_
  refine AtQ.pure (by kernel_rfl) (fun W => by kernel_rfl) ?_
  refine AtQ.pure (by kernel_rfl) (fun W => by kernel_rfl) ?_
  refine AtQ.pure (by kernel_rfl) (fun W => by kernel_rfl) ?_
  refine AtQ.pure (by kernel_rfl) (fun W => by kernel_rfl) ?_
  refine AtQ.load 0 0 (T := 9) (v := .string tx) (by kernel_rfl) ?_
  refine AtQ.pure (by kernel_rfl) (fun W => by kernel_rfl) ?_
  refine AtQ.pure (by kernel_rfl) (fun W => by kernel_rfl) ?_
  refine AtQ.pure (by kernel_rfl) (fun W => by kernel_rfl) ?_
  refine AtQ.load 0 1 (T := 3) (v := .int .i64 ra) (by kernel_rfl) ?_
  obtain ⟨r1, r21, r31, hq, H⟩ := H
  refine AtQ.call 81 ⟨[.string tx, .int .i64 ra]⟩ (fun W => by kernel_rfl) (by kernel_rfl) hq ?_
  refine AtQ.pure (by kernel_rfl) (fun W => by kernel_rfl) ?_
  refine AtQ.pure (by kernel_rfl) (fun W => by kernel_rfl) ?_
  refine AtQ.pure (by kernel_rfl) (fun W => by kernel_rfl) ?_
  refine AtQ.pure (by kernel_rfl) (fun W => by kernel_rfl) ?_
  refine AtQ.pure (by kernel_rfl) (fun W => by kernel_rfl) ?_
  refine AtQ.pure (by kernel_rfl) (fun W => by kernel_rfl) ?_
  refine AtQ.pure (by kernel_rfl) (fun W => by kernel_rfl) ?_
  refine AtQ.done (by kernel_rfl) ?_
  refine AtE.run 7 (fun W => by kernel_rfl) ?_
  refine AtE.splitN 30 (p := r31 = (0 : Int)) (by kernel_rfl) (fun h2' => ?_) (fun h2' => ?_)
  ·replace H := H.1 h2'
   refine AtE.run 6 (fun W => by kernel_rfl) ?_
   refine AtE.store 0 2 (T := 35) (v := .int .i64 (10 : Int)) (by kernel_rfl) ?_
   refine AtE.run 6 (fun W => by kernel_rfl) ?_
   exact AtE.ret Tryd.func80 (by kernel_rfl) H
  ·replace H := H.2 h2'
   refine AtE.run 8 (fun W => by kernel_rfl) ?_
   refine AtE.store 0 1 (T := 3) (v := .int .i64 r21) (by kernel_rfl) ?_
   refine AtE.run 6 (fun W => by kernel_rfl) ?_
   exact AtE.ret Tryd.func80 (by kernel_rfl) H
theorem readInt_vc (Rb : Nat) (tx : ByteArray) (ra : Int) (re : Int) {R : Ending → World → Prop} {S : List Nat} {w0 W : World} (hm : Mem [(Rb, .cells #[.string tx, .int .i64 ra, .int .i64 re] 70)] S w0 W)
  (H :
   CallH Tryd.prog 77 ⟨[.pointer (some ⟨Rb, 0, none⟩), .func (.func 78) #[] #[]]⟩ [(Rb, .cells #[.string tx, .int .i64 ra, .int .i64 re] 70)] S w0 (fun v L' => ∃ (r1 : Int) (ra1 : Int) (re1 : Int), v = (.int .i64 r1) ∧ L' = [(Rb, .cells #[.string tx, .int .i64 ra1, .int .i64 re1] 70)] ∧
    Fin R [(Rb, .cells #[.string tx, .int .i64 ra1, .int .i64 re1] 70)] S w0 (.int .i64 r1))) :
  Calls Tryd.prog 79 ⟨[.pointer (some ⟨Rb, 0, none⟩)]⟩ W R := by
 refine AtE.calls (nt := 5) Tryd.func79 (by kernel_rfl) hm ?_
 refine AtE.run 7 (fun W => by kernel_rfl) ?_
 refine AtE.call 77 ⟨[.pointer (some ⟨Rb, 0, none⟩), .func (.func 78) #[] #[]]⟩ (fun W => by kernel_rfl) (by kernel_rfl) H ?_
 clear H
 rintro _ _ ⟨r1, ra1, re1, rfl, rfl, H⟩
 refine AtE.run 2 (fun W => by kernel_rfl) ?_
 exact AtE.ret Tryd.func79 (by kernel_rfl) H
def readLI_c0 (B : Nat) (count : Int) (i : Int) (m0 : ByteArray) (m1 : Int) (m2 : Int) (S : List Nat) (w0 : World) (R : Ending → World → Prop) : Prop :=
 AtE Tryd.prog 82 48 [.code (EngB9s82 [1,1,1,1,0,1,0,0]), .inLoop (EngB9s82 [1,1,1,1,0,1,0,0]), .inBlock 0, .code (EngB9s82 [1,1,1,1,1])] [(0, .pointer (some ⟨B, 0, none⟩)), (2, .func (.func 79) #[] #[]), (7, .int .i64 count), (8, .slice none 0 0), (9, .int .i64 i)] [(B, .cells #[.string m0, .int .i64 m1, .int .i64 m2] 70)] S w0 (nrm R)
def readLI_c1 (B3 : Nat) (B4 : Nat) (count1 : Int) (l_l : Nat) (l_c : Nat) (i2 : Int) (m01 : ByteArray) (m11 : Int) (m21 : Int) (cs : List Value) (S : List Nat) (w0 : World) (R : Ending → World → Prop) : Prop :=
 AtE Tryd.prog 82 48 [.code (EngB9s82 [1,1,1,1,0,1,0,0]), .inLoop (EngB9s82 [1,1,1,1,0,1,0,0]), .inBlock 0, .code (EngB9s82 [1,1,1,1,1])] [(0, .pointer (some ⟨B3, 0, none⟩)), (2, .func (.func 79) #[] #[]), (7, .int .i64 count1), (8, .slice (some ⟨B4, 0, none⟩) l_l l_c), (9, .int .i64 i2)] [(B3, .cells #[.string m01, .int .i64 m11, .int .i64 m21] 70), (B4, .cells ⟨cs⟩ 3)] S w0 (nrm R)
theorem readLI_c0_vc (B : Nat) (count : Int) (i : Int) (m0 : ByteArray) (m1 : Int) (m2 : Int) {R : Ending → World → Prop} {S : List Nat} {w0 : World}
  (H :
   ((i < count) →
    ((m2 = (0 : Int)) →
     CallH Tryd.prog 79 ⟨[.pointer (some ⟨B, 0, none⟩)]⟩ [(B, .cells #[.string m0, .int .i64 m1, .int .i64 m2] 70)] S w0 (fun v L' => ∃ (r21 : Int) (ra2 : Int) (re2 : Int), v = (.int .i64 r21) ∧ L' = [(B, .cells #[.string m0, .int .i64 ra2, .int .i64 re2] 70)] ∧
      ∀ B1 : Nat,
      ∀ (B2 cap : Nat) (r3 : List Value), 1 ≤ cap → (([.int .i64 r21] : List Value) ++ r3).length = cap * 1 →
      ∀ i1 : Int, i1 = (IntKind.i64.wrap (i + (1 : Int))) →
      readLI_c1 B B2 count 1 cap i1 m0 ra2 re2 (([.int .i64 r21] : List Value) ++ r3) S w0 R)) ∧
     ((¬ (m2 = (0 : Int))) →
     Fin R [(B, .cells #[.string m0, .int .i64 m1, .int .i64 m2] 70)] S w0 (.slice none 0 0))) ∧
    ((¬ (i < count)) →
    Fin R [(B, .cells #[.string m0, .int .i64 m1, .int .i64 m2] 70)] S w0 (.slice none 0 0))) :
  readLI_c0 B count i m0 m1 m2 S w0 R := by
 unfold readLI_c0
 refine AtE.run 7 (fun W => by kernel_rfl) ?_
 refine AtE.splitP 32 (p := i < count) (by kernel_rfl) (fun h4' => ?_) (fun h4' => ?_)
 ·replace H := H.1 h4'
  refine AtE.run 3 (fun W => by kernel_rfl) ?_
  refine AtE.load 0 2 (T := 35) (v := .int .i64 m2) (by kernel_rfl) ?_
  refine AtE.run 3 (fun W => by kernel_rfl) ?_
  refine AtE.splitP 38 (p := m2 = (0 : Int)) (by kernel_rfl) (fun h5' => ?_) (fun h5' => ?_)
  ·replace H := H.1 h5'
   refine AtE.run 8 (fun W => by kernel_rfl) ?_
   refine AtE.call 79 ⟨[.pointer (some ⟨B, 0, none⟩)]⟩ (fun W => by kernel_rfl) (by kernel_rfl) H ?_
   clear H
   rintro _ _ ⟨r21, ra2, re2, rfl, rfl, H⟩
   refine AtE.new (fun B => .slice (some ⟨B, 0, none⟩) 1 1) (.cells #[.int .i64 r21] 3) (fun W => by kernel_rfl) (by kernel_rfl) (fun B1 => ?_)
   replace H := H B1
   refine AtE.appendN (T := 22) (E := 3) (z := .int .i64 (0 : Int)) (sz := 1) (bytes := 8) (a := ⟨B1, 0, none⟩) (m := 1) (c := 1) ([.int .i64 r21] : List Value) (by kernel_rfl) (show Src _ _ _ _ ([.int .i64 r21] : List Value) from Src.own (j := 1) (o := 0) (n := 1) (c := ([.int .i64 r21] : List Value)) (by kernel_rfl)) (by simp) (by omega) (by omega) (fun B2 cap r3 h1 h2 => ?_)
   replace H := H B2 cap r3 h1 h2
   refine AtE.run 7 (fun W => by kernel_rfl) ?_
   refine AtE.letI 9 (kd := .i64) (n := (IntKind.i64.wrap (i + (1 : Int)))) (by kernel_rfl) (fun i1 hi1 => ?_)
   replace H := H i1 hi1
   refine AtE.norm (k' := [.inRegion (regOps [.code (EngB9s82 [1,1,1,1,0,1,0,0,1,1])]) [], .inLoop (EngB9s82 [1,1,1,1,0,1,0,0]), .inBlock 0, .code (EngB9s82 [1,1,1,1,1])]) (e' := [(0, .pointer (some ⟨B, 0, none⟩)), (2, .func (.func 79) #[] #[]), (7, .int .i64 count), (8, .slice (some ⟨B2, 0, none⟩) 1 cap), (9, .int .i64 i1)]) (L' := [(B, .cells #[.string m0, .int .i64 ra2, .int .i64 re2] 70), (B1, .cells #[.int .i64 r21] 3), (B2, .cells ⟨(([.int .i64 r21] : List Value) ++ r3)⟩ 3)]) ?_ (by kernel_rfl)
   refine AtE.run 2 (fun W => by kernel_rfl) ?_
   exact AtE.cut [0,2] H (by kernel_rfl)
  ·replace H := H.2 h5'
   refine AtE.run 7 (fun W => by kernel_rfl) ?_
   exact AtE.ret Tryd.func82 (by kernel_rfl) H
 ·replace H := H.2 h4'
  refine AtE.run 14 (fun W => by kernel_rfl) ?_
  exact AtE.ret Tryd.func82 (by kernel_rfl) H
theorem readLI_c1_vc (B3 : Nat) (B4 : Nat) (count1 : Int) (l_l : Nat) (l_c : Nat) (i2 : Int) (m01 : ByteArray) (m11 : Int) (m21 : Int) (cs : List Value) {R : Ending → World → Prop} {S : List Nat} {w0 : World}
  (H :
   ((i2 < count1) →
    ((m21 = (0 : Int)) →
     CallH Tryd.prog 79 ⟨[.pointer (some ⟨B3, 0, none⟩)]⟩ [(B3, .cells #[.string m01, .int .i64 m11, .int .i64 m21] 70), (B4, .cells ⟨cs⟩ 3)] S w0 (fun v L' => ∃ (r41 : Int) (ra3 : Int) (re3 : Int), v = (.int .i64 r41) ∧ L' = [(B3, .cells #[.string m01, .int .i64 ra3, .int .i64 re3] 70), (B4, .cells ⟨cs⟩ 3)] ∧
      ∀ B5 : Nat,
      (l_l ≤ l_c ∧ (cs).length = l_c * 1) ∧ ((l_l + 1) ≤ 9223372036854775807 ∧ (l_l + 1) * 8 ≤ 140737488355328) ∧
      ∀ (B6 cap1 : Nat) (r5 : List Value), (l_l + 1) ≤ cap1 → ((cs).take (l_l * 1) ++ ([.int .i64 r41] : List Value) ++ r5).length = cap1 * 1 →
      ∀ i3 : Int, i3 = (IntKind.i64.wrap (i2 + (1 : Int))) →
      readLI_c1 B3 B6 count1 (l_l + 1) cap1 i3 m01 ra3 re3 ((cs).take (l_l * 1) ++ ([.int .i64 r41] : List Value) ++ r5) S w0 R)) ∧
     ((¬ (m21 = (0 : Int))) →
     Fin R [(B3, .cells #[.string m01, .int .i64 m11, .int .i64 m21] 70), (B4, .cells ⟨cs⟩ 3)] S w0 (.slice (some ⟨B4, 0, none⟩) l_l l_c))) ∧
    ((¬ (i2 < count1)) →
    Fin R [(B3, .cells #[.string m01, .int .i64 m11, .int .i64 m21] 70), (B4, .cells ⟨cs⟩ 3)] S w0 (.slice (some ⟨B4, 0, none⟩) l_l l_c))) :
  readLI_c1 B3 B4 count1 l_l l_c i2 m01 m11 m21 cs S w0 R := by
 unfold readLI_c1
 refine AtE.run 7 (fun W => by kernel_rfl) ?_
 refine AtE.splitP 32 (p := i2 < count1) (by kernel_rfl) (fun h6' => ?_) (fun h6' => ?_)
 ·replace H := H.1 h6'
  refine AtE.run 3 (fun W => by kernel_rfl) ?_
  refine AtE.load 0 2 (T := 35) (v := .int .i64 m21) (by kernel_rfl) ?_
  refine AtE.run 3 (fun W => by kernel_rfl) ?_
  refine AtE.splitP 38 (p := m21 = (0 : Int)) (by kernel_rfl) (fun h7' => ?_) (fun h7' => ?_)
  ·replace H := H.1 h7'
   refine AtE.run 8 (fun W => by kernel_rfl) ?_
   refine AtE.call 79 ⟨[.pointer (some ⟨B3, 0, none⟩)]⟩ (fun W => by kernel_rfl) (by kernel_rfl) H ?_
   clear H
   rintro _ _ ⟨r41, ra3, re3, rfl, rfl, H⟩
   refine AtE.new (fun B => .slice (some ⟨B, 0, none⟩) 1 1) (.cells #[.int .i64 r41] 3) (fun W => by kernel_rfl) (by kernel_rfl) (fun B5 => ?_)
   replace H := H B5
   refine AtE.appendO 1 (T := 22) (E := 3) (z := .int .i64 (0 : Int)) (sz := 1) (bytes := 8) (n := l_l) (cap := l_c) (a := ⟨B5, 0, none⟩) (m := 1) (c := 1) (cs := cs) ([.int .i64 r41] : List Value) (by kernel_rfl) (show Src _ _ _ _ ([.int .i64 r41] : List Value) from Src.own (j := 2) (o := 0) (n := 1) (c := ([.int .i64 r41] : List Value)) (by kernel_rfl)) (by simp) (by simp [Value.oneCell']) H.1 H.2.1 (fun B6 cap1 r5 h1 h2 => ?_)
   replace H := H.2.2 B6 cap1 r5 h1 h2
   refine AtE.run 7 (fun W => by kernel_rfl) ?_
   refine AtE.letI 9 (kd := .i64) (n := (IntKind.i64.wrap (i2 + (1 : Int)))) (by kernel_rfl) (fun i3 hi3 => ?_)
   replace H := H i3 hi3
   refine AtE.norm (k' := [.inRegion (regOps [.code (EngB9s82 [1,1,1,1,0,1,0,0,1,1])]) [], .inLoop (EngB9s82 [1,1,1,1,0,1,0,0]), .inBlock 0, .code (EngB9s82 [1,1,1,1,1])]) (e' := [(0, .pointer (some ⟨B3, 0, none⟩)), (2, .func (.func 79) #[] #[]), (7, .int .i64 count1), (8, .slice (some ⟨B6, 0, none⟩) (l_l + 1) cap1), (9, .int .i64 i3)]) (L' := [(B3, .cells #[.string m01, .int .i64 ra3, .int .i64 re3] 70), (B5, .cells #[.int .i64 r41] 3), (B6, .cells ⟨((cs).take (l_l * 1) ++ ([.int .i64 r41] : List Value) ++ r5)⟩ 3)]) ?_ (by kernel_rfl)
   refine AtE.run 2 (fun W => by kernel_rfl) ?_
   exact AtE.cut [0,2] H (by kernel_rfl)
  ·replace H := H.2 h7'
   refine AtE.run 7 (fun W => by kernel_rfl) ?_
   exact AtE.ret Tryd.func82 (by kernel_rfl) H
 ·replace H := H.2 h6'
  refine AtE.run 14 (fun W => by kernel_rfl) ?_
  exact AtE.ret Tryd.func82 (by kernel_rfl) H
theorem readLI_vc (Rb : Nat) (most : Int) (tx : ByteArray) (ra : Int) (re : Int) {R : Ending → World → Prop} {S : List Nat} {w0 W : World} (hm : Mem [(Rb, .cells #[.string tx, .int .i64 ra, .int .i64 re] 70)] S w0 W)
  (H :
   CallH Tryd.prog 77 ⟨[.pointer (some ⟨Rb, 0, none⟩), .func (.func 78) #[] #[]]⟩ [(Rb, .cells #[.string tx, .int .i64 ra, .int .i64 re] 70)] S w0 (fun v L' => ∃ (r1 : Int) (ra1 : Int) (re1 : Int), v = (.int .i64 r1) ∧ L' = [(Rb, .cells #[.string tx, .int .i64 ra1, .int .i64 re1] 70)] ∧
    ((re1 = (0 : Int)) →
     ((r1 < (0 : Int)) →
      readLI_c0 Rb r1 (0 : Int) tx ra1 (30 : Int) S w0 R) ∧
      ((¬ (r1 < (0 : Int))) →
      ((most < r1) →
       readLI_c0 Rb r1 (0 : Int) tx ra1 (30 : Int) S w0 R) ∧
       ((¬ (most < r1)) →
       readLI_c0 Rb r1 (0 : Int) tx ra1 re1 S w0 R))) ∧
     ((¬ (re1 = (0 : Int))) →
     readLI_c0 Rb r1 (0 : Int) tx ra1 re1 S w0 R))) :
  Calls Tryd.prog 82 ⟨[.pointer (some ⟨Rb, 0, none⟩), .int .i64 most, .func (.func 79) #[] #[]]⟩ W R := by
 refine AtE.calls (nt := 48) Tryd.func82 (by kernel_rfl) hm ?_
 refine AtE.run 7 (fun W => by kernel_rfl) ?_
 refine AtE.call 77 ⟨[.pointer (some ⟨Rb, 0, none⟩), .func (.func 78) #[] #[]]⟩ (fun W => by kernel_rfl) (by kernel_rfl) H ?_
 clear H
 rintro _ _ ⟨r1, ra1, re1, rfl, rfl, H⟩
 refine AtE.run 8 (fun W => by kernel_rfl) ?_
 refine AtE.load 0 2 (T := 35) (v := .int .i64 re1) (by kernel_rfl) ?_
 refine AtE.run 2 (fun W => by kernel_rfl) ?_
 refine AtE.splitP 17 (p := re1 = (0 : Int)) (by kernel_rfl) (fun h1' => ?_) (fun h1' => ?_)
 ·replace H := H.1 h1'
  refine AtE.run 3 (fun W => by kernel_rfl) ?_
  refine AtE.splitP 20 (p := r1 < (0 : Int)) (by kernel_rfl) (fun h2' => ?_) (fun h2' => ?_)
  ·replace H := H.1 h2'
   refine AtE.run 11 (fun W => by kernel_rfl) ?_
   refine AtE.store 0 2 (T := 35) (v := .int .i64 (30 : Int)) (by kernel_rfl) ?_
   refine AtE.run 12 (fun W => by kernel_rfl) ?_
   exact AtE.cut [0] H (by kernel_rfl)
  ·replace H := H.2 h2'
   refine AtE.run 6 (fun W => by kernel_rfl) ?_
   refine AtE.splitP 25 (p := most < r1) (by kernel_rfl) (fun h3' => ?_) (fun h3' => ?_)
   ·replace H := H.1 h3'
    refine AtE.run 5 (fun W => by kernel_rfl) ?_
    refine AtE.store 0 2 (T := 35) (v := .int .i64 (30 : Int)) (by kernel_rfl) ?_
    refine AtE.run 12 (fun W => by kernel_rfl) ?_
    exact AtE.cut [0] H (by kernel_rfl)
   ·replace H := H.2 h3'
    refine AtE.run 13 (fun W => by kernel_rfl) ?_
    exact AtE.cut [0] H (by kernel_rfl)
 ·replace H := H.2 h1'
  refine AtE.run 22 (fun W => by kernel_rfl) ?_
  exact AtE.cut [0] H (by kernel_rfl)
theorem readB_vc (Rb : Nat) (tx : ByteArray) (ra : Int) (re : Int) {R : Ending → World → Prop} {S : List Nat} {w0 W : World} (hm : Mem [(Rb, .cells #[.string tx, .int .i64 ra, .int .i64 re] 70)] S w0 W)
  (H :
   ∀ B : Nat,
   ∀ B1 : Nat,
   CallH Tryd.prog 79 ⟨[.pointer (some ⟨Rb, 0, none⟩)]⟩ [(Rb, .cells #[.string tx, .int .i64 ra, .int .i64 re] 70), (B, .cells #[.int .i64 (0 : Int), .int .i64 (0 : Int), .string (⟨#[]⟩), .int .i64 (0 : Int), .int .i64 (0 : Int), .int .i64 (0 : Int), .slice none 0 0, .int .i64 (0 : Int), .int .i64 (0 : Int)] 26), (B1, .cells #[.int .i64 (0 : Int), .int .i64 (0 : Int), .string (⟨#[]⟩), .int .i64 (0 : Int), .int .i64 (0 : Int), .int .i64 (0 : Int), .slice none 0 0, .int .i64 (0 : Int), .int .i64 (0 : Int)] 26)] S w0 (fun v L' => ∃ (r1 : Int) (ra1 : Int) (re1 : Int), v = (.int .i64 r1) ∧ L' = [(Rb, .cells #[.string tx, .int .i64 ra1, .int .i64 re1] 70), (B, .cells #[.int .i64 (0 : Int), .int .i64 (0 : Int), .string (⟨#[]⟩), .int .i64 (0 : Int), .int .i64 (0 : Int), .int .i64 (0 : Int), .slice none 0 0, .int .i64 (0 : Int), .int .i64 (0 : Int)] 26), (B1, .cells #[.int .i64 (0 : Int), .int .i64 (0 : Int), .string (⟨#[]⟩), .int .i64 (0 : Int), .int .i64 (0 : Int), .int .i64 (0 : Int), .slice none 0 0, .int .i64 (0 : Int), .int .i64 (0 : Int)] 26)] ∧
    CallH Tryd.prog 79 ⟨[.pointer (some ⟨Rb, 0, none⟩)]⟩ [(Rb, .cells #[.string tx, .int .i64 ra1, .int .i64 re1] 70), (B, .cells #[.int .i64 (0 : Int), .int .i64 (0 : Int), .string (⟨#[]⟩), .int .i64 (0 : Int), .int .i64 (0 : Int), .int .i64 (0 : Int), .slice none 0 0, .int .i64 (0 : Int), .int .i64 (0 : Int)] 26), (B1, .cells #[.int .i64 r1, .int .i64 (0 : Int), .string (⟨#[]⟩), .int .i64 (0 : Int), .int .i64 (0 : Int), .int .i64 (0 : Int), .slice none 0 0, .int .i64 (0 : Int), .int .i64 (0 : Int)] 26)] S w0 (fun v L' => ∃ (r21 : Int) (ra2 : Int) (re2 : Int), v = (.int .i64 r21) ∧ L' = [(Rb, .cells #[.string tx, .int .i64 ra2, .int .i64 re2] 70), (B, .cells #[.int .i64 (0 : Int), .int .i64 (0 : Int), .string (⟨#[]⟩), .int .i64 (0 : Int), .int .i64 (0 : Int), .int .i64 (0 : Int), .slice none 0 0, .int .i64 (0 : Int), .int .i64 (0 : Int)] 26), (B1, .cells #[.int .i64 r1, .int .i64 (0 : Int), .string (⟨#[]⟩), .int .i64 (0 : Int), .int .i64 (0 : Int), .int .i64 (0 : Int), .slice none 0 0, .int .i64 (0 : Int), .int .i64 (0 : Int)] 26)] ∧
     CallH Tryd.prog 80 ⟨[.pointer (some ⟨Rb, 0, none⟩), .func (.func 81) #[] #[]]⟩ [(Rb, .cells #[.string tx, .int .i64 ra2, .int .i64 re2] 70), (B, .cells #[.int .i64 (0 : Int), .int .i64 (0 : Int), .string (⟨#[]⟩), .int .i64 (0 : Int), .int .i64 (0 : Int), .int .i64 (0 : Int), .slice none 0 0, .int .i64 (0 : Int), .int .i64 (0 : Int)] 26), (B1, .cells #[.int .i64 r1, .int .i64 r21, .string (⟨#[]⟩), .int .i64 (0 : Int), .int .i64 (0 : Int), .int .i64 (0 : Int), .slice none 0 0, .int .i64 (0 : Int), .int .i64 (0 : Int)] 26)] S w0 (fun v L' => ∃ (r31 : ByteArray) (ra3 : Int) (re3 : Int), v = (.string r31) ∧ L' = [(Rb, .cells #[.string tx, .int .i64 ra3, .int .i64 re3] 70), (B, .cells #[.int .i64 (0 : Int), .int .i64 (0 : Int), .string (⟨#[]⟩), .int .i64 (0 : Int), .int .i64 (0 : Int), .int .i64 (0 : Int), .slice none 0 0, .int .i64 (0 : Int), .int .i64 (0 : Int)] 26), (B1, .cells #[.int .i64 r1, .int .i64 r21, .string (⟨#[]⟩), .int .i64 (0 : Int), .int .i64 (0 : Int), .int .i64 (0 : Int), .slice none 0 0, .int .i64 (0 : Int), .int .i64 (0 : Int)] 26)] ∧
      CallH Tryd.prog 79 ⟨[.pointer (some ⟨Rb, 0, none⟩)]⟩ [(Rb, .cells #[.string tx, .int .i64 ra3, .int .i64 re3] 70), (B, .cells #[.int .i64 (0 : Int), .int .i64 (0 : Int), .string (⟨#[]⟩), .int .i64 (0 : Int), .int .i64 (0 : Int), .int .i64 (0 : Int), .slice none 0 0, .int .i64 (0 : Int), .int .i64 (0 : Int)] 26), (B1, .cells #[.int .i64 r1, .int .i64 r21, .string r31, .int .i64 (0 : Int), .int .i64 (0 : Int), .int .i64 (0 : Int), .slice none 0 0, .int .i64 (0 : Int), .int .i64 (0 : Int)] 26)] S w0 (fun v L' => ∃ (r41 : Int) (ra4 : Int) (re4 : Int), v = (.int .i64 r41) ∧ L' = [(Rb, .cells #[.string tx, .int .i64 ra4, .int .i64 re4] 70), (B, .cells #[.int .i64 (0 : Int), .int .i64 (0 : Int), .string (⟨#[]⟩), .int .i64 (0 : Int), .int .i64 (0 : Int), .int .i64 (0 : Int), .slice none 0 0, .int .i64 (0 : Int), .int .i64 (0 : Int)] 26), (B1, .cells #[.int .i64 r1, .int .i64 r21, .string r31, .int .i64 (0 : Int), .int .i64 (0 : Int), .int .i64 (0 : Int), .slice none 0 0, .int .i64 (0 : Int), .int .i64 (0 : Int)] 26)] ∧
       CallH Tryd.prog 79 ⟨[.pointer (some ⟨Rb, 0, none⟩)]⟩ [(Rb, .cells #[.string tx, .int .i64 ra4, .int .i64 re4] 70), (B, .cells #[.int .i64 (0 : Int), .int .i64 (0 : Int), .string (⟨#[]⟩), .int .i64 (0 : Int), .int .i64 (0 : Int), .int .i64 (0 : Int), .slice none 0 0, .int .i64 (0 : Int), .int .i64 (0 : Int)] 26), (B1, .cells #[.int .i64 r1, .int .i64 r21, .string r31, .int .i64 r41, .int .i64 (0 : Int), .int .i64 (0 : Int), .slice none 0 0, .int .i64 (0 : Int), .int .i64 (0 : Int)] 26)] S w0 (fun v L' => ∃ (r51 : Int) (ra5 : Int) (re5 : Int), v = (.int .i64 r51) ∧ L' = [(Rb, .cells #[.string tx, .int .i64 ra5, .int .i64 re5] 70), (B, .cells #[.int .i64 (0 : Int), .int .i64 (0 : Int), .string (⟨#[]⟩), .int .i64 (0 : Int), .int .i64 (0 : Int), .int .i64 (0 : Int), .slice none 0 0, .int .i64 (0 : Int), .int .i64 (0 : Int)] 26), (B1, .cells #[.int .i64 r1, .int .i64 r21, .string r31, .int .i64 r41, .int .i64 (0 : Int), .int .i64 (0 : Int), .slice none 0 0, .int .i64 (0 : Int), .int .i64 (0 : Int)] 26)] ∧
        CallH Tryd.prog 79 ⟨[.pointer (some ⟨Rb, 0, none⟩)]⟩ [(Rb, .cells #[.string tx, .int .i64 ra5, .int .i64 re5] 70), (B, .cells #[.int .i64 (0 : Int), .int .i64 (0 : Int), .string (⟨#[]⟩), .int .i64 (0 : Int), .int .i64 (0 : Int), .int .i64 (0 : Int), .slice none 0 0, .int .i64 (0 : Int), .int .i64 (0 : Int)] 26), (B1, .cells #[.int .i64 r1, .int .i64 r21, .string r31, .int .i64 r41, .int .i64 r51, .int .i64 (0 : Int), .slice none 0 0, .int .i64 (0 : Int), .int .i64 (0 : Int)] 26)] S w0 (fun v L' => ∃ (r61 : Int) (ra6 : Int) (re6 : Int), v = (.int .i64 r61) ∧ L' = [(Rb, .cells #[.string tx, .int .i64 ra6, .int .i64 re6] 70), (B, .cells #[.int .i64 (0 : Int), .int .i64 (0 : Int), .string (⟨#[]⟩), .int .i64 (0 : Int), .int .i64 (0 : Int), .int .i64 (0 : Int), .slice none 0 0, .int .i64 (0 : Int), .int .i64 (0 : Int)] 26), (B1, .cells #[.int .i64 r1, .int .i64 r21, .string r31, .int .i64 r41, .int .i64 r51, .int .i64 (0 : Int), .slice none 0 0, .int .i64 (0 : Int), .int .i64 (0 : Int)] 26)] ∧
         CallH Tryd.prog 82 ⟨[.pointer (some ⟨Rb, 0, none⟩), .int .i64 (64 : Int), .func (.func 79) #[] #[]]⟩ [(Rb, .cells #[.string tx, .int .i64 ra6, .int .i64 re6] 70), (B, .cells #[.int .i64 (0 : Int), .int .i64 (0 : Int), .string (⟨#[]⟩), .int .i64 (0 : Int), .int .i64 (0 : Int), .int .i64 (0 : Int), .slice none 0 0, .int .i64 (0 : Int), .int .i64 (0 : Int)] 26), (B1, .cells #[.int .i64 r1, .int .i64 r21, .string r31, .int .i64 r41, .int .i64 r51, .int .i64 r61, .slice none 0 0, .int .i64 (0 : Int), .int .i64 (0 : Int)] 26)] S w0 (fun v L' => ∃ (r71_p : Option Addr) (r71_l : Nat) (r71_c : Nat) (ra7 : Int) (re7 : Int) (F : SHeap), v = (.slice r71_p r71_l r71_c) ∧ L' = ((Rb, .cells #[.string tx, .int .i64 ra7, .int .i64 re7] 70) :: (B, .cells #[.int .i64 (0 : Int), .int .i64 (0 : Int), .string (⟨#[]⟩), .int .i64 (0 : Int), .int .i64 (0 : Int), .int .i64 (0 : Int), .slice none 0 0, .int .i64 (0 : Int), .int .i64 (0 : Int)] 26) :: (B1, .cells #[.int .i64 r1, .int .i64 r21, .string r31, .int .i64 r41, .int .i64 r51, .int .i64 r61, .slice none 0 0, .int .i64 (0 : Int), .int .i64 (0 : Int)] 26) :: F) ∧
          CallH Tryd.prog 79 ⟨[.pointer (some ⟨Rb, 0, none⟩)]⟩ ((Rb, .cells #[.string tx, .int .i64 ra7, .int .i64 re7] 70) :: (B, .cells #[.int .i64 (0 : Int), .int .i64 (0 : Int), .string (⟨#[]⟩), .int .i64 (0 : Int), .int .i64 (0 : Int), .int .i64 (0 : Int), .slice none 0 0, .int .i64 (0 : Int), .int .i64 (0 : Int)] 26) :: (B1, .cells #[.int .i64 r1, .int .i64 r21, .string r31, .int .i64 r41, .int .i64 r51, .int .i64 r61, .slice r71_p r71_l r71_c, .int .i64 (0 : Int), .int .i64 (0 : Int)] 26) :: F) S w0 (fun v L' => ∃ (r81 : Int) (ra8 : Int) (re8 : Int), v = (.int .i64 r81) ∧ L' = ((Rb, .cells #[.string tx, .int .i64 ra8, .int .i64 re8] 70) :: (B, .cells #[.int .i64 (0 : Int), .int .i64 (0 : Int), .string (⟨#[]⟩), .int .i64 (0 : Int), .int .i64 (0 : Int), .int .i64 (0 : Int), .slice none 0 0, .int .i64 (0 : Int), .int .i64 (0 : Int)] 26) :: (B1, .cells #[.int .i64 r1, .int .i64 r21, .string r31, .int .i64 r41, .int .i64 r51, .int .i64 r61, .slice r71_p r71_l r71_c, .int .i64 (0 : Int), .int .i64 (0 : Int)] 26) :: F) ∧
           CallH Tryd.prog 79 ⟨[.pointer (some ⟨Rb, 0, none⟩)]⟩ ((Rb, .cells #[.string tx, .int .i64 ra8, .int .i64 re8] 70) :: (B, .cells #[.int .i64 (0 : Int), .int .i64 (0 : Int), .string (⟨#[]⟩), .int .i64 (0 : Int), .int .i64 (0 : Int), .int .i64 (0 : Int), .slice none 0 0, .int .i64 (0 : Int), .int .i64 (0 : Int)] 26) :: (B1, .cells #[.int .i64 r1, .int .i64 r21, .string r31, .int .i64 r41, .int .i64 r51, .int .i64 r61, .slice r71_p r71_l r71_c, .int .i64 r81, .int .i64 (0 : Int)] 26) :: F) S w0 (fun v L' => ∃ (r91 : Int) (ra9 : Int) (re9 : Int), v = (.int .i64 r91) ∧ L' = ((Rb, .cells #[.string tx, .int .i64 ra9, .int .i64 re9] 70) :: (B, .cells #[.int .i64 (0 : Int), .int .i64 (0 : Int), .string (⟨#[]⟩), .int .i64 (0 : Int), .int .i64 (0 : Int), .int .i64 (0 : Int), .slice none 0 0, .int .i64 (0 : Int), .int .i64 (0 : Int)] 26) :: (B1, .cells #[.int .i64 r1, .int .i64 r21, .string r31, .int .i64 r41, .int .i64 r51, .int .i64 r61, .slice r71_p r71_l r71_c, .int .i64 r81, .int .i64 (0 : Int)] 26) :: F) ∧
            Fin R ((Rb, .cells #[.string tx, .int .i64 ra9, .int .i64 re9] 70) :: (B, .cells #[.int .i64 r1, .int .i64 r21, .string r31, .int .i64 r41, .int .i64 r51, .int .i64 r61, .slice r71_p r71_l r71_c, .int .i64 r81, .int .i64 r91] 26) :: (B1, .cells #[.int .i64 r1, .int .i64 r21, .string r31, .int .i64 r41, .int .i64 r51, .int .i64 r61, .slice r71_p r71_l r71_c, .int .i64 r81, .int .i64 r91] 26) :: F) S w0 (.agg #[.int .i64 r1, .int .i64 r21, .string r31, .int .i64 r41, .int .i64 r51, .int .i64 r61, .slice r71_p r71_l r71_c, .int .i64 r81, .int .i64 r91]))))))))))) :
  Calls Tryd.prog 55 ⟨[.pointer (some ⟨Rb, 0, none⟩)]⟩ W R := by
 refine AtE.calls (nt := 36) Tryd.func55 (by kernel_rfl) hm ?_
 refine AtE.run 2 (fun W => by kernel_rfl) ?_
 refine AtE.new (fun B => .pointer (some ⟨B, 0, none⟩)) (.cells #[.int .i64 (0 : Int), .int .i64 (0 : Int), .string (⟨#[]⟩), .int .i64 (0 : Int), .int .i64 (0 : Int), .int .i64 (0 : Int), .slice none 0 0, .int .i64 (0 : Int), .int .i64 (0 : Int)] 26) (fun W => by kernel_rfl) (by kernel_rfl) (fun B => ?_)
 replace H := H B
 refine AtE.run 3 (fun W => by kernel_rfl) ?_
 refine AtE.new (fun B => .pointer (some ⟨B, 0, none⟩)) (.cells #[.int .i64 (0 : Int), .int .i64 (0 : Int), .string (⟨#[]⟩), .int .i64 (0 : Int), .int .i64 (0 : Int), .int .i64 (0 : Int), .slice none 0 0, .int .i64 (0 : Int), .int .i64 (0 : Int)] 26) (fun W => by kernel_rfl) (by kernel_rfl) (fun B1 => ?_)
 replace H := H B1
 refine AtE.run 4 (fun W => by kernel_rfl) ?_
 refine AtE.call 79 ⟨[.pointer (some ⟨Rb, 0, none⟩)]⟩ (fun W => by kernel_rfl) (by kernel_rfl) H ?_
 clear H
 rintro _ _ ⟨r1, ra1, re1, rfl, rfl, H⟩
 refine AtE.run 1 (fun W => by kernel_rfl) ?_
 refine AtE.store 2 0 (T := 3) (v := .int .i64 r1) (by kernel_rfl) ?_
 refine AtE.run 4 (fun W => by kernel_rfl) ?_
 refine AtE.call 79 ⟨[.pointer (some ⟨Rb, 0, none⟩)]⟩ (fun W => by kernel_rfl) (by kernel_rfl) H ?_
 clear H
 rintro _ _ ⟨r21, ra2, re2, rfl, rfl, H⟩
 refine AtE.run 1 (fun W => by kernel_rfl) ?_
 refine AtE.store 2 1 (T := 3) (v := .int .i64 r21) (by kernel_rfl) ?_
 refine AtE.run 4 (fun W => by kernel_rfl) ?_
 refine AtE.call 80 ⟨[.pointer (some ⟨Rb, 0, none⟩), .func (.func 81) #[] #[]]⟩ (fun W => by kernel_rfl) (by kernel_rfl) H ?_
 clear H
 rintro _ _ ⟨r31, ra3, re3, rfl, rfl, H⟩
 refine AtE.norm (k' := [.inRegion (regOps [.code (EngB9s55 [1,1,1,1,0])]) [2,3], .code (EngB9s55 [1,1,1,1,1])]) (e' := [(0, .pointer (some ⟨Rb, 0, none⟩)), (2, .pointer (some ⟨B, 0, none⟩)), (3, .pointer (some ⟨B1, 0, none⟩)), (11, .string r31)]) (L' := [(Rb, .cells #[.string tx, .int .i64 ra3, .int .i64 re3] 70), (B, .cells #[.int .i64 (0 : Int), .int .i64 (0 : Int), .string (⟨#[]⟩), .int .i64 (0 : Int), .int .i64 (0 : Int), .int .i64 (0 : Int), .slice none 0 0, .int .i64 (0 : Int), .int .i64 (0 : Int)] 26), (B1, .cells #[.int .i64 r1, .int .i64 r21, .string (⟨#[]⟩), .int .i64 (0 : Int), .int .i64 (0 : Int), .int .i64 (0 : Int), .slice none 0 0, .int .i64 (0 : Int), .int .i64 (0 : Int)] 26)]) ?_ (by kernel_rfl)
 refine AtE.run 1 (fun W => by kernel_rfl) ?_
 refine AtE.store 2 2 (T := 9) (v := .string r31) (by kernel_rfl) ?_
 refine AtE.run 4 (fun W => by kernel_rfl) ?_
 refine AtE.call 79 ⟨[.pointer (some ⟨Rb, 0, none⟩)]⟩ (fun W => by kernel_rfl) (by kernel_rfl) H ?_
 clear H
 rintro _ _ ⟨r41, ra4, re4, rfl, rfl, H⟩
 refine AtE.run 1 (fun W => by kernel_rfl) ?_
 refine AtE.store 2 3 (T := 3) (v := .int .i64 r41) (by kernel_rfl) ?_
 refine AtE.run 4 (fun W => by kernel_rfl) ?_
 refine AtE.call 79 ⟨[.pointer (some ⟨Rb, 0, none⟩)]⟩ (fun W => by kernel_rfl) (by kernel_rfl) H ?_
 clear H
 rintro _ _ ⟨r51, ra5, re5, rfl, rfl, H⟩
 refine AtE.run 1 (fun W => by kernel_rfl) ?_
 refine AtE.store 2 4 (T := 3) (v := .int .i64 r51) (by kernel_rfl) ?_
 refine AtE.run 4 (fun W => by kernel_rfl) ?_
 refine AtE.call 79 ⟨[.pointer (some ⟨Rb, 0, none⟩)]⟩ (fun W => by kernel_rfl) (by kernel_rfl) H ?_
 clear H
 rintro _ _ ⟨r61, ra6, re6, rfl, rfl, H⟩
 refine AtE.run 2 (fun W => by kernel_rfl) ?_
 refine AtE.store 2 5 (T := 3) (v := .int .i64 r61) (by kernel_rfl) ?_
 refine AtE.norm (k' := [.inRegion (regOps [.code (EngB9s55 [1,1,1,1,1,1,1,0])]) [], .code (EngB9s55 [1,1,1,1,1,1,1,1])]) (e' := [(0, .pointer (some ⟨Rb, 0, none⟩)), (2, .pointer (some ⟨B, 0, none⟩)), (3, .pointer (some ⟨B1, 0, none⟩))]) (L' := [(Rb, .cells #[.string tx, .int .i64 ra6, .int .i64 re6] 70), (B, .cells #[.int .i64 (0 : Int), .int .i64 (0 : Int), .string (⟨#[]⟩), .int .i64 (0 : Int), .int .i64 (0 : Int), .int .i64 (0 : Int), .slice none 0 0, .int .i64 (0 : Int), .int .i64 (0 : Int)] 26), (B1, .cells #[.int .i64 r1, .int .i64 r21, .string r31, .int .i64 r41, .int .i64 r51, .int .i64 r61, .slice none 0 0, .int .i64 (0 : Int), .int .i64 (0 : Int)] 26)]) ?_ (by kernel_rfl)
 refine AtE.run 4 (fun W => by kernel_rfl) ?_
 refine AtE.call 82 ⟨[.pointer (some ⟨Rb, 0, none⟩), .int .i64 (64 : Int), .func (.func 79) #[] #[]]⟩ (fun W => by kernel_rfl) (by kernel_rfl) H ?_
 clear H
 rintro _ _ ⟨r71_p, r71_l, r71_c, ra7, re7, F, rfl, rfl, H⟩
 refine AtE.run 2 (fun W => by kernel_rfl) ?_
 refine AtE.store 2 6 (T := 22) (v := .slice r71_p r71_l r71_c) (by kernel_rfl) ?_
 refine AtE.run 4 (fun W => by kernel_rfl) ?_
 refine AtE.call 79 ⟨[.pointer (some ⟨Rb, 0, none⟩)]⟩ (fun W => by kernel_rfl) (by kernel_rfl) H ?_
 clear H
 rintro _ _ ⟨r81, ra8, re8, rfl, rfl, H⟩
 refine AtE.run 2 (fun W => by kernel_rfl) ?_
 refine AtE.store 2 7 (T := 3) (v := .int .i64 r81) (by kernel_rfl) ?_
 refine AtE.run 4 (fun W => by kernel_rfl) ?_
 refine AtE.call 79 ⟨[.pointer (some ⟨Rb, 0, none⟩)]⟩ (fun W => by kernel_rfl) (by kernel_rfl) H ?_
 clear H
 rintro _ _ ⟨r91, ra9, re9, rfl, rfl, H⟩
 refine AtE.run 2 (fun W => by kernel_rfl) ?_
 refine AtE.store 2 8 (T := 3) (v := .int .i64 r91) (by kernel_rfl) ?_
 refine AtE.run 3 (fun W => by kernel_rfl) ?_
 refine AtE.load 2 0 (T := 26) (v := .agg #[.int .i64 r1, .int .i64 r21, .string r31, .int .i64 r41, .int .i64 r51, .int .i64 r61, .slice r71_p r71_l r71_c, .int .i64 r81, .int .i64 r91]) (by kernel_rfl) ?_
 refine AtE.norm (k' := [.inRegion (regOps [.code (EngB9s55 [1,1,1,1,1,1,1,1,1,1,1,0])]) [1], .code (EngB9s55 [1,1,1,1,1,1,1,1,1,1,1,1])]) (e' := [(2, .pointer (some ⟨B, 0, none⟩)), (35, .agg #[.int .i64 r1, .int .i64 r21, .string r31, .int .i64 r41, .int .i64 r51, .int .i64 r61, .slice r71_p r71_l r71_c, .int .i64 r81, .int .i64 r91])]) (L' := ((Rb, .cells #[.string tx, .int .i64 ra9, .int .i64 re9] 70) :: (B, .cells #[.int .i64 (0 : Int), .int .i64 (0 : Int), .string (⟨#[]⟩), .int .i64 (0 : Int), .int .i64 (0 : Int), .int .i64 (0 : Int), .slice none 0 0, .int .i64 (0 : Int), .int .i64 (0 : Int)] 26) :: (B1, .cells #[.int .i64 r1, .int .i64 r21, .string r31, .int .i64 r41, .int .i64 r51, .int .i64 r61, .slice r71_p r71_l r71_c, .int .i64 r81, .int .i64 r91] 26) :: F)) ?_ (by kernel_rfl)
 refine AtE.store 1 0 (T := 26) (v := .agg #[.int .i64 r1, .int .i64 r21, .string r31, .int .i64 r41, .int .i64 r51, .int .i64 r61, .slice r71_p r71_l r71_c, .int .i64 r81, .int .i64 r91]) (by kernel_rfl) ?_
 refine AtE.run 1 (fun W => by kernel_rfl) ?_
 exact AtE.retC 1 0 (a := 2) (T := 26) (v := .agg #[.int .i64 r1, .int .i64 r21, .string r31, .int .i64 r41, .int .i64 r51, .int .i64 r61, .slice r71_p r71_l r71_c, .int .i64 r81, .int .i64 r91]) Tryd.func55 (by kernel_rfl) (by kernel_rfl) H
def readLB_c0 (B : Nat) (count : Int) (i : Int) (m0 : ByteArray) (m1 : Int) (m2 : Int) (F1 : SHeap) (S : List Nat) (w0 : World) (R : Ending → World → Prop) : Prop :=
 AtE Tryd.prog 54 48 [.code (EngB9s54 [1,1,1,1,0,1,0,0]), .inLoop (EngB9s54 [1,1,1,1,0,1,0,0]), .inBlock 0, .code (EngB9s54 [1,1,1,1,1])] [(0, .pointer (some ⟨B, 0, none⟩)), (2, .func (.func 55) #[] #[]), (7, .int .i64 count), (8, .slice none 0 0), (9, .int .i64 i)] ((B, .cells #[.string m0, .int .i64 m1, .int .i64 m2] 70) :: F1) S w0 (nrm R)
def readLB_c1 (B3 : Nat) (B4 : Nat) (count1 : Int) (l_l : Nat) (l_c : Nat) (i2 : Int) (m01 : ByteArray) (m11 : Int) (m21 : Int) (cs : List Value) (F3 : SHeap) (S : List Nat) (w0 : World) (R : Ending → World → Prop) : Prop :=
 AtE Tryd.prog 54 48 [.code (EngB9s54 [1,1,1,1,0,1,0,0]), .inLoop (EngB9s54 [1,1,1,1,0,1,0,0]), .inBlock 0, .code (EngB9s54 [1,1,1,1,1])] [(0, .pointer (some ⟨B3, 0, none⟩)), (2, .func (.func 55) #[] #[]), (7, .int .i64 count1), (8, .slice (some ⟨B4, 0, none⟩) l_l l_c), (9, .int .i64 i2)] ((B3, .cells #[.string m01, .int .i64 m11, .int .i64 m21] 70) :: (B4, .cells ⟨cs⟩ 26) :: F3) S w0 (nrm R)
theorem readLB_c0_vc (B : Nat) (count : Int) (i : Int) (m0 : ByteArray) (m1 : Int) (m2 : Int) (F1 : SHeap) {R : Ending → World → Prop} {S : List Nat} {w0 : World}
  (H :
   ((i < count) →
    ((m2 = (0 : Int)) →
     CallH Tryd.prog 55 ⟨[.pointer (some ⟨B, 0, none⟩)]⟩ ((B, .cells #[.string m0, .int .i64 m1, .int .i64 m2] 70) :: F1) S w0 (fun v L' => ∃ (r2_0 : Int) (r2_1 : Int) (r2_2 : ByteArray) (r2_3 : Int) (r2_4 : Int) (r2_5 : Int) (r2_6_p : Option Addr) (r2_6_l : Nat) (r2_6_c : Nat) (r2_7 : Int) (r2_8 : Int) (ra2 : Int) (re2 : Int) (F2 : SHeap), v = (.agg #[.int .i64 r2_0, .int .i64 r2_1, .string r2_2, .int .i64 r2_3, .int .i64 r2_4, .int .i64 r2_5, .slice r2_6_p r2_6_l r2_6_c, .int .i64 r2_7, .int .i64 r2_8]) ∧ L' = ((B, .cells #[.string m0, .int .i64 ra2, .int .i64 re2] 70) :: F2) ∧
      ∀ B1 : Nat,
      ∀ (B2 cap : Nat) (r3 : List Value), 1 ≤ cap → (([.int .i64 r2_0, .int .i64 r2_1, .string r2_2, .int .i64 r2_3, .int .i64 r2_4, .int .i64 r2_5, .slice r2_6_p r2_6_l r2_6_c, .int .i64 r2_7, .int .i64 r2_8] : List Value) ++ r3).length = cap * 9 →
      ∀ i1 : Int, i1 = (IntKind.i64.wrap (i + (1 : Int))) →
      readLB_c1 B B2 count 1 cap i1 m0 ra2 re2 (([.int .i64 r2_0, .int .i64 r2_1, .string r2_2, .int .i64 r2_3, .int .i64 r2_4, .int .i64 r2_5, .slice r2_6_p r2_6_l r2_6_c, .int .i64 r2_7, .int .i64 r2_8] : List Value) ++ r3) F2 S w0 R)) ∧
     ((¬ (m2 = (0 : Int))) →
     Fin R ((B, .cells #[.string m0, .int .i64 m1, .int .i64 m2] 70) :: F1) S w0 (.slice none 0 0))) ∧
    ((¬ (i < count)) →
    Fin R ((B, .cells #[.string m0, .int .i64 m1, .int .i64 m2] 70) :: F1) S w0 (.slice none 0 0))) :
  readLB_c0 B count i m0 m1 m2 F1 S w0 R := by
 unfold readLB_c0
 refine AtE.run 7 (fun W => by kernel_rfl) ?_
 refine AtE.splitP 32 (p := i < count) (by kernel_rfl) (fun h4' => ?_) (fun h4' => ?_)
 ·replace H := H.1 h4'
  refine AtE.run 3 (fun W => by kernel_rfl) ?_
  refine AtE.load 0 2 (T := 35) (v := .int .i64 m2) (by kernel_rfl) ?_
  refine AtE.run 3 (fun W => by kernel_rfl) ?_
  refine AtE.splitP 38 (p := m2 = (0 : Int)) (by kernel_rfl) (fun h5' => ?_) (fun h5' => ?_)
  ·replace H := H.1 h5'
   refine AtE.run 8 (fun W => by kernel_rfl) ?_
   refine AtE.call 55 ⟨[.pointer (some ⟨B, 0, none⟩)]⟩ (fun W => by kernel_rfl) (by kernel_rfl) H ?_
   clear H
   rintro _ _ ⟨r2_0, r2_1, r2_2, r2_3, r2_4, r2_5, r2_6_p, r2_6_l, r2_6_c, r2_7, r2_8, ra2, re2, F2, rfl, rfl, H⟩
   refine AtE.new (fun B => .slice (some ⟨B, 0, none⟩) 1 1) (.cells #[.int .i64 r2_0, .int .i64 r2_1, .string r2_2, .int .i64 r2_3, .int .i64 r2_4, .int .i64 r2_5, .slice r2_6_p r2_6_l r2_6_c, .int .i64 r2_7, .int .i64 r2_8] 26) (fun W => by kernel_rfl) (by kernel_rfl) (fun B1 => ?_)
   replace H := H B1
   refine AtE.front ?_
   refine AtE.appendN (T := 27) (E := 26) (z := .agg #[.int .i64 (0 : Int), .int .i64 (0 : Int), .string (⟨#[]⟩), .int .i64 (0 : Int), .int .i64 (0 : Int), .int .i64 (0 : Int), .slice none 0 0, .int .i64 (0 : Int), .int .i64 (0 : Int)]) (sz := 9) (bytes := 96) (a := ⟨B1, 0, none⟩) (m := 1) (c := 1) ([.int .i64 r2_0, .int .i64 r2_1, .string r2_2, .int .i64 r2_3, .int .i64 r2_4, .int .i64 r2_5, .slice r2_6_p r2_6_l r2_6_c, .int .i64 r2_7, .int .i64 r2_8] : List Value) (by kernel_rfl) (show Src _ _ _ _ ([.int .i64 r2_0, .int .i64 r2_1, .string r2_2, .int .i64 r2_3, .int .i64 r2_4, .int .i64 r2_5, .slice r2_6_p r2_6_l r2_6_c, .int .i64 r2_7, .int .i64 r2_8] : List Value) from Src.own (j := 0) (o := 0) (n := 9) (c := ([.int .i64 r2_0, .int .i64 r2_1, .string r2_2, .int .i64 r2_3, .int .i64 r2_4, .int .i64 r2_5, .slice r2_6_p r2_6_l r2_6_c, .int .i64 r2_7, .int .i64 r2_8] : List Value)) (by kernel_rfl)) (by simp) (by omega) (by omega) (fun B2 cap r3 h1 h2 => ?_)
   replace H := H B2 cap r3 h1 h2
   refine AtE.front ?_
   refine AtE.run 7 (fun W => by kernel_rfl) ?_
   refine AtE.letI 9 (kd := .i64) (n := (IntKind.i64.wrap (i + (1 : Int)))) (by kernel_rfl) (fun i1 hi1 => ?_)
   replace H := H i1 hi1
   refine AtE.norm (k' := [.inRegion (regOps [.code (EngB9s54 [1,1,1,1,0,1,0,0,1,1])]) [], .inLoop (EngB9s54 [1,1,1,1,0,1,0,0]), .inBlock 0, .code (EngB9s54 [1,1,1,1,1])]) (e' := [(0, .pointer (some ⟨B, 0, none⟩)), (2, .func (.func 55) #[] #[]), (7, .int .i64 count), (8, .slice (some ⟨B2, 0, none⟩) 1 cap), (9, .int .i64 i1)]) (L' := ((B2, .cells ⟨(([.int .i64 r2_0, .int .i64 r2_1, .string r2_2, .int .i64 r2_3, .int .i64 r2_4, .int .i64 r2_5, .slice r2_6_p r2_6_l r2_6_c, .int .i64 r2_7, .int .i64 r2_8] : List Value) ++ r3)⟩ 26) :: (B1, .cells #[.int .i64 r2_0, .int .i64 r2_1, .string r2_2, .int .i64 r2_3, .int .i64 r2_4, .int .i64 r2_5, .slice r2_6_p r2_6_l r2_6_c, .int .i64 r2_7, .int .i64 r2_8] 26) :: (B, .cells #[.string m0, .int .i64 ra2, .int .i64 re2] 70) :: F2)) ?_ (by kernel_rfl)
   refine AtE.run 2 (fun W => by kernel_rfl) ?_
   exact AtE.cutT [2,0] 3 H (by kernel_rfl)
  ·replace H := H.2 h5'
   refine AtE.run 7 (fun W => by kernel_rfl) ?_
   exact AtE.ret Tryd.func54 (by kernel_rfl) H
 ·replace H := H.2 h4'
  refine AtE.run 14 (fun W => by kernel_rfl) ?_
  exact AtE.ret Tryd.func54 (by kernel_rfl) H
theorem readLB_c1_vc (B3 : Nat) (B4 : Nat) (count1 : Int) (l_l : Nat) (l_c : Nat) (i2 : Int) (m01 : ByteArray) (m11 : Int) (m21 : Int) (cs : List Value) (F3 : SHeap) {R : Ending → World → Prop} {S : List Nat} {w0 : World}
  (H :
   ((i2 < count1) →
    ((m21 = (0 : Int)) →
     CallH Tryd.prog 55 ⟨[.pointer (some ⟨B3, 0, none⟩)]⟩ ((B3, .cells #[.string m01, .int .i64 m11, .int .i64 m21] 70) :: (B4, .cells ⟨cs⟩ 26) :: F3) S w0 (fun v L' => ∃ (r4_0 : Int) (r4_1 : Int) (r4_2 : ByteArray) (r4_3 : Int) (r4_4 : Int) (r4_5 : Int) (r4_6_p : Option Addr) (r4_6_l : Nat) (r4_6_c : Nat) (r4_7 : Int) (r4_8 : Int) (ra3 : Int) (re3 : Int) (F4 : SHeap), v = (.agg #[.int .i64 r4_0, .int .i64 r4_1, .string r4_2, .int .i64 r4_3, .int .i64 r4_4, .int .i64 r4_5, .slice r4_6_p r4_6_l r4_6_c, .int .i64 r4_7, .int .i64 r4_8]) ∧ L' = ((B3, .cells #[.string m01, .int .i64 ra3, .int .i64 re3] 70) :: (B4, .cells ⟨cs⟩ 26) :: F4) ∧
      ∀ B5 : Nat,
      (l_l ≤ l_c ∧ (cs).length = l_c * 9) ∧ ((l_l + 1) ≤ 9223372036854775807 ∧ (l_l + 1) * 96 ≤ 140737488355328) ∧
      ∀ (B6 cap1 : Nat) (r5 : List Value), (l_l + 1) ≤ cap1 → ((cs).take (l_l * 9) ++ ([.int .i64 r4_0, .int .i64 r4_1, .string r4_2, .int .i64 r4_3, .int .i64 r4_4, .int .i64 r4_5, .slice r4_6_p r4_6_l r4_6_c, .int .i64 r4_7, .int .i64 r4_8] : List Value) ++ r5).length = cap1 * 9 →
      ∀ i3 : Int, i3 = (IntKind.i64.wrap (i2 + (1 : Int))) →
      readLB_c1 B3 B6 count1 (l_l + 1) cap1 i3 m01 ra3 re3 ((cs).take (l_l * 9) ++ ([.int .i64 r4_0, .int .i64 r4_1, .string r4_2, .int .i64 r4_3, .int .i64 r4_4, .int .i64 r4_5, .slice r4_6_p r4_6_l r4_6_c, .int .i64 r4_7, .int .i64 r4_8] : List Value) ++ r5) F4 S w0 R)) ∧
     ((¬ (m21 = (0 : Int))) →
     Fin R ((B3, .cells #[.string m01, .int .i64 m11, .int .i64 m21] 70) :: (B4, .cells ⟨cs⟩ 26) :: F3) S w0 (.slice (some ⟨B4, 0, none⟩) l_l l_c))) ∧
    ((¬ (i2 < count1)) →
    Fin R ((B3, .cells #[.string m01, .int .i64 m11, .int .i64 m21] 70) :: (B4, .cells ⟨cs⟩ 26) :: F3) S w0 (.slice (some ⟨B4, 0, none⟩) l_l l_c))) :
  readLB_c1 B3 B4 count1 l_l l_c i2 m01 m11 m21 cs F3 S w0 R := by
 unfold readLB_c1
 refine AtE.run 7 (fun W => by kernel_rfl) ?_
 refine AtE.splitP 32 (p := i2 < count1) (by kernel_rfl) (fun h6' => ?_) (fun h6' => ?_)
 ·replace H := H.1 h6'
  refine AtE.run 3 (fun W => by kernel_rfl) ?_
  refine AtE.load 0 2 (T := 35) (v := .int .i64 m21) (by kernel_rfl) ?_
  refine AtE.run 3 (fun W => by kernel_rfl) ?_
  refine AtE.splitP 38 (p := m21 = (0 : Int)) (by kernel_rfl) (fun h7' => ?_) (fun h7' => ?_)
  ·replace H := H.1 h7'
   refine AtE.run 8 (fun W => by kernel_rfl) ?_
   refine AtE.call 55 ⟨[.pointer (some ⟨B3, 0, none⟩)]⟩ (fun W => by kernel_rfl) (by kernel_rfl) H ?_
   clear H
   rintro _ _ ⟨r4_0, r4_1, r4_2, r4_3, r4_4, r4_5, r4_6_p, r4_6_l, r4_6_c, r4_7, r4_8, ra3, re3, F4, rfl, rfl, H⟩
   refine AtE.new (fun B => .slice (some ⟨B, 0, none⟩) 1 1) (.cells #[.int .i64 r4_0, .int .i64 r4_1, .string r4_2, .int .i64 r4_3, .int .i64 r4_4, .int .i64 r4_5, .slice r4_6_p r4_6_l r4_6_c, .int .i64 r4_7, .int .i64 r4_8] 26) (fun W => by kernel_rfl) (by kernel_rfl) (fun B5 => ?_)
   replace H := H B5
   refine AtE.front ?_
   refine AtE.appendO 2 (T := 27) (E := 26) (z := .agg #[.int .i64 (0 : Int), .int .i64 (0 : Int), .string (⟨#[]⟩), .int .i64 (0 : Int), .int .i64 (0 : Int), .int .i64 (0 : Int), .slice none 0 0, .int .i64 (0 : Int), .int .i64 (0 : Int)]) (sz := 9) (bytes := 96) (n := l_l) (cap := l_c) (a := ⟨B5, 0, none⟩) (m := 1) (c := 1) (cs := cs) ([.int .i64 r4_0, .int .i64 r4_1, .string r4_2, .int .i64 r4_3, .int .i64 r4_4, .int .i64 r4_5, .slice r4_6_p r4_6_l r4_6_c, .int .i64 r4_7, .int .i64 r4_8] : List Value) (by kernel_rfl) (show Src _ _ _ _ ([.int .i64 r4_0, .int .i64 r4_1, .string r4_2, .int .i64 r4_3, .int .i64 r4_4, .int .i64 r4_5, .slice r4_6_p r4_6_l r4_6_c, .int .i64 r4_7, .int .i64 r4_8] : List Value) from Src.own (j := 0) (o := 0) (n := 9) (c := ([.int .i64 r4_0, .int .i64 r4_1, .string r4_2, .int .i64 r4_3, .int .i64 r4_4, .int .i64 r4_5, .slice r4_6_p r4_6_l r4_6_c, .int .i64 r4_7, .int .i64 r4_8] : List Value)) (by kernel_rfl)) (by simp) (by simp [Value.oneCell']) H.1 H.2.1 (fun B6 cap1 r5 h1 h2 => ?_)
   replace H := H.2.2 B6 cap1 r5 h1 h2
   refine AtE.front ?_
   refine AtE.run 7 (fun W => by kernel_rfl) ?_
   refine AtE.letI 9 (kd := .i64) (n := (IntKind.i64.wrap (i2 + (1 : Int)))) (by kernel_rfl) (fun i3 hi3 => ?_)
   replace H := H i3 hi3
   refine AtE.norm (k' := [.inRegion (regOps [.code (EngB9s54 [1,1,1,1,0,1,0,0,1,1])]) [], .inLoop (EngB9s54 [1,1,1,1,0,1,0,0]), .inBlock 0, .code (EngB9s54 [1,1,1,1,1])]) (e' := [(0, .pointer (some ⟨B3, 0, none⟩)), (2, .func (.func 55) #[] #[]), (7, .int .i64 count1), (8, .slice (some ⟨B6, 0, none⟩) (l_l + 1) cap1), (9, .int .i64 i3)]) (L' := ((B6, .cells ⟨((cs).take (l_l * 9) ++ ([.int .i64 r4_0, .int .i64 r4_1, .string r4_2, .int .i64 r4_3, .int .i64 r4_4, .int .i64 r4_5, .slice r4_6_p r4_6_l r4_6_c, .int .i64 r4_7, .int .i64 r4_8] : List Value) ++ r5)⟩ 26) :: (B5, .cells #[.int .i64 r4_0, .int .i64 r4_1, .string r4_2, .int .i64 r4_3, .int .i64 r4_4, .int .i64 r4_5, .slice r4_6_p r4_6_l r4_6_c, .int .i64 r4_7, .int .i64 r4_8] 26) :: (B3, .cells #[.string m01, .int .i64 ra3, .int .i64 re3] 70) :: F4)) ?_ (by kernel_rfl)
   refine AtE.run 2 (fun W => by kernel_rfl) ?_
   exact AtE.cutT [2,0] 3 H (by kernel_rfl)
  ·replace H := H.2 h7'
   refine AtE.run 7 (fun W => by kernel_rfl) ?_
   exact AtE.ret Tryd.func54 (by kernel_rfl) H
 ·replace H := H.2 h6'
  refine AtE.run 14 (fun W => by kernel_rfl) ?_
  exact AtE.ret Tryd.func54 (by kernel_rfl) H
theorem readLB_vc (Rb : Nat) (most : Int) (tx : ByteArray) (ra : Int) (re : Int) (F : SHeap) {R : Ending → World → Prop} {S : List Nat} {w0 W : World} (hm : Mem ((Rb, .cells #[.string tx, .int .i64 ra, .int .i64 re] 70) :: F) S w0 W)
  (H :
   CallH Tryd.prog 77 ⟨[.pointer (some ⟨Rb, 0, none⟩), .func (.func 78) #[] #[]]⟩ ((Rb, .cells #[.string tx, .int .i64 ra, .int .i64 re] 70) :: F) S w0 (fun v L' => ∃ (r1 : Int) (ra1 : Int) (re1 : Int), v = (.int .i64 r1) ∧ L' = ((Rb, .cells #[.string tx, .int .i64 ra1, .int .i64 re1] 70) :: F) ∧
    ((re1 = (0 : Int)) →
     ((r1 < (0 : Int)) →
      readLB_c0 Rb r1 (0 : Int) tx ra1 (30 : Int) F S w0 R) ∧
      ((¬ (r1 < (0 : Int))) →
      ((most < r1) →
       readLB_c0 Rb r1 (0 : Int) tx ra1 (30 : Int) F S w0 R) ∧
       ((¬ (most < r1)) →
       readLB_c0 Rb r1 (0 : Int) tx ra1 re1 F S w0 R))) ∧
     ((¬ (re1 = (0 : Int))) →
     readLB_c0 Rb r1 (0 : Int) tx ra1 re1 F S w0 R))) :
  Calls Tryd.prog 54 ⟨[.pointer (some ⟨Rb, 0, none⟩), .int .i64 most, .func (.func 55) #[] #[]]⟩ W R := by
 refine AtE.calls (nt := 48) Tryd.func54 (by kernel_rfl) hm ?_
 refine AtE.run 7 (fun W => by kernel_rfl) ?_
 refine AtE.call 77 ⟨[.pointer (some ⟨Rb, 0, none⟩), .func (.func 78) #[] #[]]⟩ (fun W => by kernel_rfl) (by kernel_rfl) H ?_
 clear H
 rintro _ _ ⟨r1, ra1, re1, rfl, rfl, H⟩
 refine AtE.run 8 (fun W => by kernel_rfl) ?_
 refine AtE.load 0 2 (T := 35) (v := .int .i64 re1) (by kernel_rfl) ?_
 refine AtE.run 2 (fun W => by kernel_rfl) ?_
 refine AtE.splitP 17 (p := re1 = (0 : Int)) (by kernel_rfl) (fun h1' => ?_) (fun h1' => ?_)
 ·replace H := H.1 h1'
  refine AtE.run 3 (fun W => by kernel_rfl) ?_
  refine AtE.splitP 20 (p := r1 < (0 : Int)) (by kernel_rfl) (fun h2' => ?_) (fun h2' => ?_)
  ·replace H := H.1 h2'
   refine AtE.run 11 (fun W => by kernel_rfl) ?_
   refine AtE.store 0 2 (T := 35) (v := .int .i64 (30 : Int)) (by kernel_rfl) ?_
   refine AtE.run 12 (fun W => by kernel_rfl) ?_
   exact AtE.cutT [0] 1 H (by kernel_rfl)
  ·replace H := H.2 h2'
   refine AtE.run 6 (fun W => by kernel_rfl) ?_
   refine AtE.splitP 25 (p := most < r1) (by kernel_rfl) (fun h3' => ?_) (fun h3' => ?_)
   ·replace H := H.1 h3'
    refine AtE.run 5 (fun W => by kernel_rfl) ?_
    refine AtE.store 0 2 (T := 35) (v := .int .i64 (30 : Int)) (by kernel_rfl) ?_
    refine AtE.run 12 (fun W => by kernel_rfl) ?_
    exact AtE.cutT [0] 1 H (by kernel_rfl)
   ·replace H := H.2 h3'
    refine AtE.run 13 (fun W => by kernel_rfl) ?_
    exact AtE.cutT [0] 1 H (by kernel_rfl)
 ·replace H := H.2 h1'
  refine AtE.run 22 (fun W => by kernel_rfl) ?_
  exact AtE.cutT [0] 1 H (by kernel_rfl)
theorem decode_vc (s : ByteArray) {R : Ending → World → Prop} {w0 W : World} (hm : Mem [] [] w0 W)
  (H :
   ∀ B : Nat,
   CallH Tryd.prog 54 ⟨[.pointer (some ⟨B, 0, none⟩), .int .i64 (24 : Int), .func (.func 55) #[] #[]]⟩ [(B, .cells #[.string s, .int .i64 (0 : Int), .int .i64 (0 : Int)] 70)] [] w0 (fun v L' => ∃ (r1_p : Option Addr) (r1_l : Nat) (r1_c : Nat) (ra : Int) (re : Int) (F : SHeap), v = (.slice r1_p r1_l r1_c) ∧ L' = ((B, .cells #[.string s, .int .i64 ra, .int .i64 re] 70) :: F) ∧
    ((¬ (re = (0 : Int))) →
     Fin R ((B, .cells #[.string s, .int .i64 ra, .int .i64 re] 70) :: F) [] w0 (.tuple #[.slice none 0 0, .int .i64 re])) ∧
     ((re = (0 : Int)) →
     ((ra < (s.size : Int)) →
      Fin R ((B, .cells #[.string s, .int .i64 ra, .int .i64 re] 70) :: F) [] w0 (.tuple #[.slice none 0 0, .int .i64 (10 : Int)])) ∧
      ((¬ (ra < (s.size : Int))) →
      CallH Tryd.prog 21 ⟨[.slice r1_p r1_l r1_c]⟩ ((B, .cells #[.string s, .int .i64 ra, .int .i64 re] 70) :: F) [] w0 (fun v L' => ∃ (r21 : Bool), v = (.bool r21) ∧ L' = ((B, .cells #[.string s, .int .i64 ra, .int .i64 re] 70) :: F) ∧
       ((r21 = true) →
        Fin R ((B, .cells #[.string s, .int .i64 ra, .int .i64 re] 70) :: F) [] w0 (.tuple #[.slice r1_p r1_l r1_c, .int .i64 (0 : Int)])) ∧
        ((r21 = false) →
        Fin R ((B, .cells #[.string s, .int .i64 ra, .int .i64 re] 70) :: F) [] w0 (.tuple #[.slice none 0 0, .int .i64 (30 : Int)]))))))) :
  Calls Tryd.prog 29 ⟨[.string s]⟩ W R := by
 refine AtE.calls (nt := 34) Tryd.func29 (by kernel_rfl) hm ?_
 refine AtE.run 9 (fun W => by kernel_rfl) ?_
 refine AtE.new (fun B => .pointer (some ⟨B, 0, none⟩)) (.cells #[.string s, .int .i64 (0 : Int), .int .i64 (0 : Int)] 70) (fun W => by kernel_rfl) (by kernel_rfl) (fun B => ?_)
 replace H := H B
 refine AtE.run 5 (fun W => by kernel_rfl) ?_
 refine AtE.call 54 ⟨[.pointer (some ⟨B, 0, none⟩), .int .i64 (24 : Int), .func (.func 55) #[] #[]]⟩ (fun W => by kernel_rfl) (by kernel_rfl) H ?_
 clear H
 rintro _ _ ⟨r1_p, r1_l, r1_c, ra, re, F, rfl, rfl, H⟩
 refine AtE.run 9 (fun W => by kernel_rfl) ?_
 refine AtE.load 0 2 (T := 35) (v := .int .i64 re) (by kernel_rfl) ?_
 refine AtE.run 3 (fun W => by kernel_rfl) ?_
 refine AtE.splitN 11 (p := re = (0 : Int)) (by kernel_rfl) (fun h1' => ?_) (fun h1' => ?_)
 ·replace H := H.1 h1'
  refine AtE.run 2 (fun W => by kernel_rfl) ?_
  refine AtE.norm (k' := [.code (EngB9s29 [1,1,1,0,0,1,0,0]), .code (EngB9s29 [1,1,1,0,0,1,0,1]), .inBlock 0, .code (EngB9s29 [1,1,1,1])]) (e' := [(4, .pointer (some ⟨B, 0, none⟩))]) (L' := ((B, .cells #[.string s, .int .i64 ra, .int .i64 re] 70) :: F)) ?_ (by kernel_rfl)
  refine AtE.draw 6 (by kernel_rfl) ?_
  refine AtQ.pure (by kernel_rfl) (fun W => by kernel_rfl) ?_
  refine AtQ.pure (by kernel_rfl) (fun W => by kernel_rfl) ?_
  refine AtQ.pure (by kernel_rfl) (fun W => by kernel_rfl) ?_
  refine AtQ.load 0 2 (T := 35) (v := .int .i64 re) (by kernel_rfl) ?_
  refine AtQ.pure (by kernel_rfl) (fun W => by kernel_rfl) ?_
  refine AtQ.pure (by kernel_rfl) (fun W => by kernel_rfl) ?_
  refine AtQ.done (by kernel_rfl) ?_
  refine AtE.run 1 (fun W => by kernel_rfl) ?_
  exact AtE.ret Tryd.func29 (by kernel_rfl) H
 ·replace H := H.2 h1'
  refine AtE.run 6 (fun W => by kernel_rfl) ?_
  refine AtE.load 0 1 (T := 3) (v := .int .i64 ra) (by kernel_rfl) ?_
  refine AtE.run 5 (fun W => by kernel_rfl) ?_
  refine AtE.splitP 21 (p := ra < (s.size : Int)) (by kernel_rfl) (fun h2' => ?_) (fun h2' => ?_)
  ·replace H := H.1 h2'
   refine AtE.run 6 (fun W => by kernel_rfl) ?_
   exact AtE.ret Tryd.func29 (by kernel_rfl) H
  ·replace H := H.2 h2'
   refine AtE.run 4 (fun W => by kernel_rfl) ?_
   refine AtE.call 21 ⟨[.slice r1_p r1_l r1_c]⟩ (fun W => by kernel_rfl) (by kernel_rfl) H ?_
   clear H
   rintro _ _ ⟨r21, rfl, rfl, H⟩
   refine AtE.norm (k' := [.inRegion (regOps [.code (EngB9s29 [1,1,1,0,0,1,1,1,1,0])]) [2,3], .code (EngB9s29 [1,1,1,0,0,1,1,1,1,1]), .inBlock 0, .code (EngB9s29 [1,1,1,1])]) (e' := [(5, .slice r1_p r1_l r1_c), (31, .bool r21)]) (L' := ((B, .cells #[.string s, .int .i64 ra, .int .i64 re] 70) :: F)) ?_ (by kernel_rfl)
   refine AtE.split 31 (b := r21) (by kernel_rfl) (fun h3' => ?_) (fun h3' => ?_)
   ·replace H := H.1 h3'
    refine AtE.run 12 (fun W => by kernel_rfl) ?_
    exact AtE.ret Tryd.func29 (by kernel_rfl) H
   ·replace H := H.2 h3'
    refine AtE.run 9 (fun W => by kernel_rfl) ?_
    exact AtE.ret Tryd.func29 (by kernel_rfl) H
end Go.Eng
namespace Go.Eng
open Go Go.RowKit Go.Proofs Wire
set_option linter.unusedVariables false
abbrev rH (T Rb : Nat) (tx : ByteArray) (st : RS) : Nat × Obj := (Rb, .cells #[.string tx, .int .i64 (st.1 : Int), .int .i64 st.2] T)
def lkF (F : SHeap) : Lk := fun b c => ∃ t fz, (b, Obj.cells ⟨c⟩ t fz) ∈ F
theorem lkF_mono {F F' : SHeap} (h : ∀ x ∈ F, x ∈ F') : ∀ b c, lkF F b c → lkF F' b c := fun _ _ ⟨t, fz, h1⟩ => ⟨t, fz, h _ h1⟩
theorem lkF_W {F L : SHeap} {S : List Nat} {w0 W : World} (hm : Mem L S w0 W) (h : ∀ x ∈ F, x ∈ L) : ∀ b c, lkF F b c → lkW W b c := by
  rintro b c ⟨t, fz, h1⟩
  have := hm.here _ (h _ h1)
  simp only at this
  simp [lkW, blkW, this]
theorem CallH.one {P : Program} {S : List Nat} {w0 : World} {g : FuncId} {args : Array Value} {x y : Nat × Obj} {rest : SHeap} {v : Value} {K' : Value → SHeap → Prop} (h : EffC P g args [x] (fun v' L' => v' = v ∧ L' = [y])) (hK : K' v (y :: rest)) :
    CallH P g args (x :: rest) S w0 K' :=
  CallH.eff (L0 := [x]) (L1 := rest) h (List.Perm.refl _) fun v' L' ⟨hv, hl⟩ => ⟨y :: rest, by rw [hl]; exact List.Perm.refl _, by rw [hv]; exact hK⟩
theorem CallH.oneF {P : Program} {S : List Nat} {w0 : World} {g : FuncId} {args : Array Value} {x : Nat × Obj} {rest : SHeap} {K : Value → SHeap → Prop} {K' : Value → SHeap → Prop} (h : EffC P g args [x] K) (hK : ∀ v L', K v L' → ∃ y F, L' = y :: F ∧ K' v (y :: (rest ++ F))) :
    CallH P g args (x :: rest) S w0 K' :=
  CallH.eff (L0 := [x]) (L1 := rest) h (List.Perm.refl _) fun v' L' hk => by
    obtain ⟨y, F, rfl, h2⟩ := hK v' L' hk
    exact ⟨_, List.Perm.cons y List.perm_append_comm, h2⟩
theorem dkSelT (A : SHeap) (is : List Nat) {T : SHeap} {K : Value → SHeap → Prop} {L' : SHeap} {S : List Nat} {W : World} {v : Value} (hs : (selL A is, nodupB is) = (L', true)) (h : K v (L' ++ T)) :
    Fin (fun e W' => ∃ v L', e = .returned v ∧ Mem L' S W W' ∧ K v L') (A ++ T) S W v := by
  simp only [Prod.mk.injEq] at hs
  obtain ⟨rfl, h2⟩ := hs
  exact fun _ hm => ⟨v, _, rfl, hm.selT (nodupB_spec h2), h⟩
theorem row_old {cs x r : List Value} {n sz i : Nat} (hi : i < n) (hn : n * sz ≤ cs.length) : ((cs.take (n * sz) ++ x ++ r).drop (i * sz)).take sz = (cs.drop (i * sz)).take sz := by
  have h1 : i * sz + sz ≤ n * sz := by rw [← Nat.succ_mul]; exact Nat.mul_le_mul_right _ hi
  rw [List.append_assoc, List.drop_append_of_le_length (by rw [List.length_take]; omega), List.take_append_of_le_length (by rw [List.length_drop, List.length_take]; omega), List.drop_take, List.take_take]
  congr 1
  omega
theorem row_new {cs x r : List Value} {n sz : Nat} (hn : n * sz ≤ cs.length) (hx : x.length = sz) : ((cs.take (n * sz) ++ x ++ r).drop (n * sz)).take sz = x := by
  have h1 : (cs.take (n * sz)).length = n * sz := by rw [List.length_take]; omega
  rw [List.append_assoc, List.drop_left' h1, List.take_left' hx]
theorem at_old {cs x r : List Value} {n i : Nat} (hi : i < n) (hn : n ≤ cs.length) : (cs.take n ++ x ++ r)[i]? = cs[i]? := by
  rw [List.append_assoc, List.getElem?_append_left (by rw [List.length_take]; omega), List.getElem?_take_of_lt hi]
theorem at_new {cs r : List Value} {v : Value} {n : Nat} (hn : n ≤ cs.length) : (cs.take n ++ [v] ++ r)[n]? = some v := by
  have h1 : (cs.take n).length = n := by rw [List.length_take]; omega
  rw [List.append_assoc, List.getElem?_append_right (by omega), h1, Nat.sub_self]; rfl
theorem int_ans {s : ByteArray} {st : RS} (h : st.1 ≤ (bts s).length) (he : st.2 = 0) : intAns s (st.1 : Int) = match rdInt ((bts s).drop st.1) with
    | none => .tuple #[.int .i64 0, .int .i64 0, .int .i64 10]
    | some (n, k) => .tuple #[.int .i64 n, .int .i64 ((st.1 + k : Nat) : Int), .int .i64 0] := by
  rw [bts_len] at h
  rw [intAns, if_neg (by omega), Int.toNat_natCast]
  cases rdInt ((bts s).drop st.1) with
  | none => rfl
  | some p => rfl
theorem str_ans {s : ByteArray} {st : RS} (h : st.1 ≤ (bts s).length) (he : st.2 = 0) : strAns s (st.1 : Int) = match rdStr ((bts s).drop st.1) with
    | none => .tuple #[.string ⟨#[]⟩, .int .i64 0, .int .i64 10]
    | some (t, k) => .tuple #[.string ⟨t.toArray⟩, .int .i64 ((st.1 + k : Nat) : Int), .int .i64 0] := by
  rw [bts_len] at h
  rw [strAns, if_neg (by omega), Int.toNat_natCast]
  cases rdStr ((bts s).drop st.1) with
  | none => rfl
  | some p => rfl
theorem readI_e {Rb : Nat} {tx : ByteArray} {st : RS} (hs : tx.size < 4611686018427387904) (h : st.1 ≤ (bts tx).length) :
    EffC Tryd.prog 77 ⟨[.pointer (some ⟨Rb, 0, none⟩), .func (.func 78) #[] #[]]⟩ [rH 70 Rb tx st] (fun v L' => v = .int .i64 (rdI (bts tx) st).1 ∧ L' = [rH 70 Rb tx (rdI (bts tx) st).2]) := by
  intro W hm
  refine readI_vc Rb tx st.1 st.2 hm ⟨fun he => dkFin ?_, fun he => ?_⟩
  · rw [rdI, if_neg he]; exact ⟨rfl, rfl⟩
  · have hq : QCall Tryd.prog 78 ⟨[.string tx, .int .i64 (st.1 : Int)]⟩ [rH 70 Rb tx st] ([rH 70 Rb tx st].map (·.1)) W (intAns tx (st.1 : Int)) := QCall.of (Int_c tx _ hs)
    rw [int_ans h he] at hq
    rw [rdI, if_pos he]
    cases hr : rdInt ((bts tx).drop st.1) with
    | none =>
      rw [hr] at hq
      exact ⟨_, _, _, hq, fun _ => dkFin ⟨rfl, rfl⟩, fun h0 => absurd h0 (by decide)⟩
    | some p =>
      rw [hr] at hq
      exact ⟨_, _, _, hq, fun h0 => absurd rfl h0, fun _ => dkFin ⟨rfl, by rw [he]⟩⟩
theorem readS_e {Rb : Nat} {tx : ByteArray} {st : RS} (hs : tx.size < 4611686018427387904) (h : st.1 ≤ (bts tx).length) :
    EffC Tryd.prog 80 ⟨[.pointer (some ⟨Rb, 0, none⟩), .func (.func 81) #[] #[]]⟩ [rH 70 Rb tx st] (fun v L' => v = .string (rdT (bts tx) st).1 ∧ L' = [rH 70 Rb tx (rdT (bts tx) st).2]) := by
  intro W hm
  refine readS_vc Rb tx st.1 st.2 hm ⟨fun he => dkFin ?_, fun he => ?_⟩
  · rw [rdT, if_neg he]; exact ⟨rfl, rfl⟩
  · have hq : QCall Tryd.prog 81 ⟨[.string tx, .int .i64 (st.1 : Int)]⟩ [rH 70 Rb tx st] ([rH 70 Rb tx st].map (·.1)) W (strAns tx (st.1 : Int)) := QCall.of (String_c tx _ hs)
    rw [str_ans h he] at hq
    rw [rdT, if_pos he]
    cases hr : rdStr ((bts tx).drop st.1) with
    | none =>
      rw [hr] at hq
      exact ⟨_, _, _, hq, fun _ => dkFin ⟨rfl, rfl⟩, fun h0 => absurd h0 (by decide)⟩
    | some p =>
      rw [hr] at hq
      exact ⟨_, _, _, hq, fun h0 => absurd rfl h0, fun _ => dkFin ⟨rfl, by rw [he]⟩⟩
theorem readInt_e {Rb : Nat} {tx : ByteArray} {st : RS} (hs : tx.size < 4611686018427387904) (h : st.1 ≤ (bts tx).length) :
    EffC Tryd.prog 79 ⟨[.pointer (some ⟨Rb, 0, none⟩)]⟩ [rH 70 Rb tx st] (fun v L' => v = .int .i64 (rdI (bts tx) st).1 ∧ L' = [rH 70 Rb tx (rdI (bts tx) st).2]) := by
  intro W hm
  exact readInt_vc Rb tx st.1 st.2 hm (CallH.one (readI_e hs h) ⟨_, _, _, rfl, rfl, dkFin ⟨rfl, rfl⟩⟩)
def IntsOut (T Rb : Nat) (tx : ByteArray) (r : List Int × RS) (v : Value) (L' : SHeap) : Prop :=
  ∃ (p : Option Addr) (c : Nat) (F : SHeap), v = .slice p r.1.length c ∧ r.1.length ≤ c ∧ L' = rH T Rb tx r.2 :: F ∧ IntsL (lkF F) p r.1
theorem readLI_loop1 {Rb : Nat} {tx : ByteArray} (hs : tx.size < 4611686018427387904) {count : Int} (hc : count ≤ 64) {S : List Nat} {w0 : World} : ∀ (g : Nat) (l : List Int) (st : RS) (B4 cap : Nat) (cs : List Value), (g : Int) + l.length = count → st.1 ≤ (bts tx).length → l.length ≤ cap → cs.length = cap * 1 → (∀ i (h : i < l.length), cs[i]? = some (.int .i64 l[i])) →
      readLI_c1 Rb B4 count l.length cap (l.length : Int) tx st.1 st.2 cs S w0 (fun e W' => ∃ v L', e = .returned v ∧ Mem L' S w0 W' ∧ IntsOut 70 Rb tx (l ++ (rdMany (rdI (bts tx)) g st).1, (rdMany (rdI (bts tx)) g st).2) v L')
  | g, l, st, B4, cap, cs, hg, hst, h1, h2, h3 => by
    apply readLI_c1_vc
    have stop : IntsOut 70 Rb tx (l, st) (.slice (some ⟨B4, 0, none⟩) l.length cap) [rH 70 Rb tx st, (B4, .cells ⟨cs⟩ 3)] :=
      ⟨some ⟨B4, 0, none⟩, cap, [(B4, .cells ⟨cs⟩ 3)], rfl, h1, rfl, fun _ => ⟨B4, 0, cs, rfl, ⟨3, _, List.mem_singleton.2 rfl⟩, fun i hi => by rw [Nat.zero_add]; exact h3 i hi⟩⟩
    match g with
    | 0 =>
      refine no (by omega) (dkFin ?_)
      simpa [rdMany] using stop
    | g + 1 =>
      refine yes (by omega) ⟨fun he => ?_, fun he => dkFin ?_⟩
      · refine CallH.one (readInt_e hs hst) ⟨_, _, _, rfl, rfl, fun B5 => ⟨⟨h1, h2⟩, by omega, fun B6 cap1 r5 q1 q2 => ?_⟩⟩
        rintro _ rfl
        rw [Nat.mul_one] at q2 ⊢
        have hlen : l.length ≤ cs.length := by omega
        rw [wi64 (by omega), show (l.length : Int) + 1 = ((l ++ [(rdI (bts tx) st).1]).length : Int) by simp, show l.length + 1 = (l ++ [(rdI (bts tx) st).1]).length by simp]
        have := readLI_loop1 (Rb := Rb) hs hc (S := S) (w0 := w0) g (l ++ [(rdI (bts tx) st).1]) (rdI (bts tx) st).2 B6 cap1 (cs.take l.length ++ [.int .i64 (rdI (bts tx) st).1] ++ r5) (by simp; omega) (rdI_le hst) (by simpa using q1) q2 (fun i hi => ?_)
        · rw [rdMany, if_pos he]
          simpa using this
        · rcases Nat.lt_or_ge i l.length with hi2 | hi2
          · rw [at_old hi2 hlen, h3 i hi2, List.getElem_append_left hi2]
          · have : i = l.length := by simp at hi; omega
            subst this
            rw [at_new hlen]; simp
      · rw [rdMany_err he]
        simpa using stop
theorem readLI_loop0 {Rb : Nat} {tx : ByteArray} (hs : tx.size < 4611686018427387904) {count : Int} {S : List Nat} {w0 : World} {st : RS} (hst : st.1 ≤ (bts tx).length) (hc : st.2 = 0 → count ≤ 64) :
    readLI_c0 Rb count 0 tx st.1 st.2 S w0 (fun e W' => ∃ v L', e = .returned v ∧ Mem L' S w0 W' ∧ IntsOut 70 Rb tx (rdMany (rdI (bts tx)) count.toNat st) v L') := by
  apply readLI_c0_vc
  have stop : IntsOut 70 Rb tx ([], st) (.slice none 0 0) [rH 70 Rb tx st] := ⟨none, 0, [], rfl, Nat.le_refl _, rfl, fun h => absurd h (by simp)⟩
  refine ⟨fun hlt => ⟨fun he => ?_, fun he => dkFin ?_⟩, fun hlt => dkFin ?_⟩
  · refine CallH.one (readInt_e hs hst) ⟨_, _, _, rfl, rfl, fun B1 B2 cap r3 q1 q2 => ?_⟩
    rintro _ rfl
    obtain ⟨g, hg⟩ : ∃ g : Nat, count.toNat = g + 1 := ⟨count.toNat - 1, by omega⟩
    have hcc := hc he
    have := readLI_loop1 (Rb := Rb) hs hcc (S := S) (w0 := w0) g [(rdI (bts tx) st).1] (rdI (bts tx) st).2 B2 cap ([.int .i64 (rdI (bts tx) st).1] ++ r3) (by simp; omega) (rdI_le hst) q1 q2 (fun i hi => ?_)
    · rw [hg, rdMany, if_pos he]
      exact this
    · have : i = 0 := by simp at hi; omega
      subst this; rfl
  · rw [rdMany_err he]; exact stop
  · have : count.toNat = 0 := by omega
    rw [this]; exact stop
theorem readLI_e {Rb : Nat} {tx : ByteArray} {st : RS} (hs : tx.size < 4611686018427387904) (h : st.1 ≤ (bts tx).length) :
    EffC Tryd.prog 82 ⟨[.pointer (some ⟨Rb, 0, none⟩), .int .i64 64, .func (.func 79) #[] #[]]⟩ [rH 70 Rb tx st] (IntsOut 70 Rb tx (rdList (rdI (bts tx)) (bts tx) 64 st)) := by
  intro W hm
  refine readLI_vc Rb 64 tx st.1 st.2 hm (CallH.one (readI_e hs h) ⟨_, _, _, rfl, rfl, ?_⟩)
  unfold rdList rdCount
  refine ⟨fun he => ⟨fun h1 => ?_, fun h1 => ⟨fun h2 => ?_, fun h2 => ?_⟩⟩, fun he => ?_⟩
  · rw [if_pos ⟨he, .inl h1⟩]
    exact readLI_loop0 hs (st := ((rdI (bts tx) st).2.1, 30)) (rdI_le h) (fun h => absurd h (by simp))
  · rw [if_pos ⟨he, .inr h2⟩]
    exact readLI_loop0 hs (st := ((rdI (bts tx) st).2.1, 30)) (rdI_le h) (fun h => absurd h (by simp))
  · rw [if_neg (fun hh => by rcases hh.2 with h3 | h3 <;> omega)]
    exact readLI_loop0 hs (rdI_le h) (fun _ => by omega)
  · rw [if_neg (fun hh => he hh.1)]
    exact readLI_loop0 hs (rdI_le h) (fun h => absurd h he)
end Go.Eng
