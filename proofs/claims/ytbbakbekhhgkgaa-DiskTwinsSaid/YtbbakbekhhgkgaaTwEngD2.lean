/- Verification conditions of the functions, written by a program of the prover, checked here. -/
import Derived.Test.YtbbakbekhhgkgaaTwEngInl

import Derived.Test.YtbbakbekhhgkgaaTwEngFreeRules

import Derived.Test.YtbbakbekhhgkgaaChecked

namespace Go.Eng

open Go Go.RowKit Go.Proofs

set_option linter.unusedVariables false

set_option maxRecDepth 100000

def CrashN_c0 (B1 : Nat) (B2 : Nat) (B3 : Nat) (B4 : Nat) (torn1 : Int) (survives_l : Nat) (survives_c : Nat) (last : Int) (t22_p : Option Addr) (t22_l : Nat) (t22_c : Nat) (t23 : Int) (t24 : Int) (m0 : Bool) (m1 : Int) (m2_l : Nat) (m2_c : Nat) (m3_l : Nat) (m3_c : Nat) (cs : List Value) (cs1 : List Value) (cs2 : List Value) (S : List Nat) (w0 : World) (R : Ending → World → Prop) : Prop :=
  AtE Try.prog 21 103 [.code (sub (Eng.body Try.f21) [1, 1, 1, 1, 0, 1, 0, 0]), .inLoop (sub (Eng.body Try.f21) [1, 1, 1, 1, 0, 1, 0, 0]), .inBlock 0, .code (sub (Eng.body Try.f21) [1, 1, 1, 1, 1])] [(0, .pointer (some ⟨B1, 0, none⟩)), (2, .int .i64 torn1), (7, .slice (some ⟨B4, 0, none⟩) survives_l survives_c), (8, .int .i64 last), (22, .slice t22_p t22_l t22_c), (23, .int .i64 t23), (24, .int .i64 t24)] [(B1, .cells #[.bool m0, .int .i64 m1, .slice (some ⟨B2, 0, none⟩) m2_l m2_c, .slice (some ⟨B3, 0, none⟩) m3_l m3_c, .slice none 0 0] 54), (B2, .cells ⟨cs⟩ 5), (B3, .cells ⟨cs1⟩ 5), (B4, .cells ⟨cs2⟩ 4)] S w0 (nrm R)

def CrashN_c1 (B5 : Nat) (B6 : Nat) (B7 : Nat) (B8 : Nat) (torn2 : Int) (survives1_l : Nat) (survives1_c : Nat) (last2 : Int) (t47 : Int) (t48 : Int) (m01 : Bool) (m11 : Int) (m21_l : Nat) (m21_c : Nat) (m31_l : Nat) (m31_c : Nat) (cs3 : List Value) (cs4 : List Value) (cs5 : List Value) (S : List Nat) (w0 : World) (R : Ending → World → Prop) : Prop :=
  AtE Try.prog 21 103 [.code (sub (Eng.body Try.f21) [1, 1, 1, 1, 1, 0, 1, 0, 0]), .inLoop (sub (Eng.body Try.f21) [1, 1, 1, 1, 1, 0, 1, 0, 0]), .inBlock 2, .code (sub (Eng.body Try.f21) [1, 1, 1, 1, 1, 1])] [(0, .pointer (some ⟨B5, 0, none⟩)), (2, .int .i64 torn2), (7, .slice (some ⟨B8, 0, none⟩) survives1_l survives1_c), (8, .int .i64 last2), (46, .slice none 0 0), (47, .int .i64 t47), (48, .int .i64 t48)] [(B5, .cells #[.bool m01, .int .i64 m11, .slice (some ⟨B6, 0, none⟩) m21_l m21_c, .slice (some ⟨B7, 0, none⟩) m31_l m31_c, .slice none 0 0] 54), (B6, .cells ⟨cs3⟩ 5), (B7, .cells ⟨cs4⟩ 5), (B8, .cells ⟨cs5⟩ 4)] S w0 (nrm R)

theorem CrashN_c0_vc (B1 : Nat) (B2 : Nat) (B3 : Nat) (B4 : Nat) (torn1 : Int) (survives_l : Nat) (survives_c : Nat) (last : Int) (t22_p : Option Addr) (t22_l : Nat) (t22_c : Nat) (t23 : Int) (t24 : Int) (m0 : Bool) (m1 : Int) (m2_l : Nat) (m2_c : Nat) (m3_l : Nat) (m3_c : Nat) (cs : List Value) (cs1 : List Value) (cs2 : List Value) {R : Ending → World → Prop} {S : List Nat} {w0 : World}
    (H :
      ((t24 < t23) →
        ∃ t22_pb t22_po : Nat, t22_p = some ⟨t22_pb, t22_po, none⟩ ∧
        (0 ≤ t24 ∧ t24 < t22_l) ∧
        ∃ (cw : List Value) (m4 : Int), t22_pb ∉ S ∧ blkW w0 t22_pb = some cw ∧ cw[(t22_po + (Int.toNat t24))]? = some (.int .i64 m4) ∧
        (((0 : Int) ≤ m4) →
          ((m4 < (survives_l : Int)) →
            (0 ≤ m4 ∧ m4 < survives_l) ∧
            ((Int.toNat m4) < (cs2).length) ∧
            ∀ last1 : Int, last1 = (if m4 > last then m4 else last) →
            CrashN_c0 B1 B2 B3 B4 torn1 survives_l survives_c last1 (some ⟨t22_pb, t22_po, none⟩) t22_l t22_c t23 (IntKind.i64.wrap (t24 + (1 : Int))) m0 m1 m2_l m2_c m3_l m3_c cs cs1 ((cs2).set (Int.toNat m4) (.bool true)) S w0 R) ∧
           ((¬ (m4 < (survives_l : Int))) →
            CrashN_c0 B1 B2 B3 B4 torn1 survives_l survives_c last (some ⟨t22_pb, t22_po, none⟩) t22_l t22_c t23 (IntKind.i64.wrap (t24 + (1 : Int))) m0 m1 m2_l m2_c m3_l m3_c cs cs1 cs2 S w0 R)) ∧
         ((¬ ((0 : Int) ≤ m4)) →
          CrashN_c0 B1 B2 B3 B4 torn1 survives_l survives_c last (some ⟨t22_pb, t22_po, none⟩) t22_l t22_c t23 (IntKind.i64.wrap (t24 + (1 : Int))) m0 m1 m2_l m2_c m3_l m3_c cs cs1 cs2 S w0 R)) ∧
       ((¬ (t24 < t23)) →
        CrashN_c1 B1 B2 B3 B4 torn1 survives_l survives_c last (0 : Int) (0 : Int) m0 m1 m2_l m2_c m3_l m3_c cs cs1 cs2 S w0 R)) :
    CrashN_c0 B1 B2 B3 B4 torn1 survives_l survives_c last t22_p t22_l t22_c t23 t24 m0 m1 m2_l m2_c m3_l m3_c cs cs1 cs2 S w0 R := by
  unfold CrashN_c0
  refine AtE.run 5 (fun W => by kernel_rfl) ?_
  refine AtE.splitP 25 (p := t24 < t23) (by kernel_rfl) (fun h2' => ?_) (fun h2' => ?_)
  · replace H := H.1 h2'
    refine AtE.run 6 (fun W => by kernel_rfl) ?_
    obtain ⟨t22_pb, t22_po, rfl, H⟩ := H
    refine AtE.indexAddrL (E := 3) (b := t22_pb) (o := t22_po) (len := t22_l) (cap := t22_c) (sz := 1) (o' := (t22_po + (Int.toNat t24))) (kd := .i64) (i := t24) (by kernel_rfl) H.1 (by omega) ?_
    replace H := H.2
    obtain ⟨cw, m4, hs, hw, hx, H⟩ := H
    refine AtE.loadW (b := t22_pb) (off := (t22_po + (Int.toNat t24))) (T := 3) (v := .int .i64 m4) (by kernel_rfl) hs hw (valAt_one hx (by kernel_rfl)) ?_
    refine AtE.run 7 (fun W => by kernel_rfl) ?_
    refine AtE.splitP 30 (p := (0 : Int) ≤ m4) (by kernel_rfl) (fun h3' => ?_) (fun h3' => ?_)
    · replace H := H.1 h3'
      refine AtE.run 6 (fun W => by kernel_rfl) ?_
      refine AtE.splitP 35 (p := m4 < (survives_l : Int)) (by kernel_rfl) (fun h4' => ?_) (fun h4' => ?_)
      · replace H := H.1 h4'
        refine AtE.run 5 (fun W => by kernel_rfl) ?_
        refine AtE.indexAddrL (E := 4) (b := B4) (o := 0) (len := survives_l) (cap := survives_c) (sz := 1) (o' := (Int.toNat m4)) (kd := .i64) (i := m4) (by kernel_rfl) H.1 (by omega) ?_
        replace H := H.2
        refine AtE.norm (k' := [.inRegion (regOps [.code (sub (Eng.body Try.f21) [1, 1, 1, 1, 0, 1, 0, 0, 1, 1, 0, 0, 1, 1, 0, 0])]) [3], .code (sub (Eng.body Try.f21) [1, 1, 1, 1, 0, 1, 0, 0, 1, 1, 0, 0, 1, 1, 0, 1]), .inBlock 1, .code (sub (Eng.body Try.f21) [1, 1, 1, 1, 0, 1, 0, 0, 1, 1, 1]), .inLoop (sub (Eng.body Try.f21) [1, 1, 1, 1, 0, 1, 0, 0]), .inBlock 0, .code (sub (Eng.body Try.f21) [1, 1, 1, 1, 1])]) (e' := [(0, .pointer (some ⟨B1, 0, none⟩)), (2, .int .i64 torn1), (7, .slice (some ⟨B4, 0, none⟩) survives_l survives_c), (8, .int .i64 last), (10, .int .i64 m4), (22, .slice (some ⟨t22_pb, t22_po, none⟩) t22_l t22_c), (23, .int .i64 t23), (24, .int .i64 t24), (38, .pointer (some ⟨B4, (Int.toNat m4), none⟩))]) (L' := [(B1, .cells #[.bool m0, .int .i64 m1, .slice (some ⟨B2, 0, none⟩) m2_l m2_c, .slice (some ⟨B3, 0, none⟩) m3_l m3_c, .slice none 0 0] 54), (B2, .cells ⟨cs⟩ 5), (B3, .cells ⟨cs1⟩ 5), (B4, .cells ⟨cs2⟩ 4)]) ?_ (by kernel_rfl)
        refine AtE.storeS 3 (off := (Int.toNat m4)) (lo := 0) (hi := 0) (T := 4) (v := .bool true) (c := cs2) (by kernel_rfl) H.1 (.inr (Nat.zero_le _)) ?_
        replace H := H.2
        refine AtE.run 6 (fun W => by kernel_rfl) ?_
        refine AtE.letI 8 (kd := .i64) (n := (if m4 > last then m4 else last)) (by kernel_rfl) (fun last1 hlast1 => ?_)
        replace H := H last1 hlast1
        refine AtE.run 7 (fun W => by kernel_rfl) ?_
        exact AtE.cut [0, 1, 2, 3] H (by kernel_rfl)
      · replace H := H.2 h4'
        refine AtE.run 8 (fun W => by kernel_rfl) ?_
        exact AtE.cut [0, 1, 2, 3] H (by kernel_rfl)
    · replace H := H.2 h3'
      refine AtE.run 14 (fun W => by kernel_rfl) ?_
      exact AtE.cut [0, 1, 2, 3] H (by kernel_rfl)
  · replace H := H.2 h2'
    refine AtE.run 8 (fun W => by kernel_rfl) ?_
    refine AtE.load 0 4 (T := 52) (v := .slice none 0 0) (by kernel_rfl) ?_
    refine AtE.run 5 (fun W => by kernel_rfl) ?_
    exact AtE.cut [0, 1, 2, 3] H (by kernel_rfl)

theorem CrashN_c1_vc (B5 : Nat) (B6 : Nat) (B7 : Nat) (B8 : Nat) (torn2 : Int) (survives1_l : Nat) (survives1_c : Nat) (last2 : Int) (t47 : Int) (t48 : Int) (m01 : Bool) (m11 : Int) (m21_l : Nat) (m21_c : Nat) (m31_l : Nat) (m31_c : Nat) (cs3 : List Value) (cs4 : List Value) (cs5 : List Value) {R : Ending → World → Prop} {S : List Nat} {w0 : World}
    (H :
      ((t48 < t47) →
        False) ∧
       ((¬ (t48 < t47)) →
        ((((cs3).drop 0).take (min m21_l m31_l)).length = min m21_l m31_l) ∧ (∀ u ∈ (((cs3).drop 0).take (min m21_l m31_l)), u.oneCell' = true) ∧ (0 + (((cs3).drop 0).take (min m21_l m31_l)).length ≤ (cs4).length) ∧
        Fin R [(B5, .cells #[.bool true, .int .i64 (0 : Int), .slice (some ⟨B6, 0, none⟩) m21_l m21_c, .slice (some ⟨B7, 0, none⟩) m31_l m31_c, .slice none 0 0] 54), (B6, .cells ⟨cs3⟩ 5), (B7, .cells ⟨(over (cs4) 0 (((cs3).drop 0).take (min m21_l m31_l)))⟩ 5), (B8, .cells ⟨cs5⟩ 4)] S w0 (.int .i64 (0 : Int)))) :
    CrashN_c1 B5 B6 B7 B8 torn2 survives1_l survives1_c last2 t47 t48 m01 m11 m21_l m21_c m31_l m31_c cs3 cs4 cs5 S w0 R := by
  unfold CrashN_c1
  refine AtE.run 5 (fun W => by kernel_rfl) ?_
  refine AtE.splitP 49 (p := t48 < t47) (by kernel_rfl) (fun h5' => ?_) (fun h5' => ?_)
  · replace H := H.1 h5'
    exact H.elim
  · replace H := H.2 h5'
    refine AtE.run 3 (fun W => by kernel_rfl) ?_
    refine AtE.norm (k' := [.code (sub (Eng.body Try.f21) [1, 1, 1, 1, 1, 1, 0]), .code (sub (Eng.body Try.f21) [1, 1, 1, 1, 1, 1, 1])]) (e' := [(0, .pointer (some ⟨B5, 0, none⟩))]) (L' := [(B5, .cells #[.bool m01, .int .i64 m11, .slice (some ⟨B6, 0, none⟩) m21_l m21_c, .slice (some ⟨B7, 0, none⟩) m31_l m31_c, .slice none 0 0] 54), (B6, .cells ⟨cs3⟩ 5), (B7, .cells ⟨cs4⟩ 5), (B8, .cells ⟨cs5⟩ 4)]) ?_ (by kernel_rfl)
    refine AtE.draw 8 (by kernel_rfl) ?_
    refine AtQ.pure (by kernel_rfl) (fun W => by kernel_rfl) ?_
    refine AtQ.pure (by kernel_rfl) (fun W => by kernel_rfl) ?_
    refine AtQ.pure (by kernel_rfl) (fun W => by kernel_rfl) ?_
    refine AtQ.load 0 3 (T := 40) (v := .slice (some ⟨B7, 0, none⟩) m31_l m31_c) (by kernel_rfl) ?_
    refine AtQ.pure (by kernel_rfl) (fun W => by kernel_rfl) ?_
    refine AtQ.pure (by kernel_rfl) (fun W => by kernel_rfl) ?_
    refine AtQ.pure (by kernel_rfl) (fun W => by kernel_rfl) ?_
    refine AtQ.load 0 2 (T := 40) (v := .slice (some ⟨B6, 0, none⟩) m21_l m21_c) (by kernel_rfl) ?_
    refine AtQ.done (by kernel_rfl) ?_
    refine AtE.copyO 2 (T := 40) (E := 5) (o := 0) (dl := m31_l) (dc := m31_c) (n := m21_l) (m := m21_c) (a := ⟨B6, 0, none⟩) (c := cs4) (((cs3).drop 0).take (min m21_l m31_l)) (by kernel_rfl) (Src.own (j := 1) (o := 0) (n := (min m21_l m31_l)) (c := cs3) (by kernel_rfl)) H.1 H.2.1 H.2.2.1 ?_
    replace H := H.2.2.2
    refine AtE.run 4 (fun W => by kernel_rfl) ?_
    refine AtE.norm (k' := [.inRegion (regOps [.code (sub (Eng.body Try.f21) [1, 1, 1, 1, 1, 1, 1, 0])]) [1], .code (sub (Eng.body Try.f21) [1, 1, 1, 1, 1, 1, 1, 1])]) (e' := [(0, .pointer (some ⟨B5, 0, none⟩)), (97, .pointer (some ⟨B5, 0, none⟩))]) (L' := [(B5, .cells #[.bool m01, .int .i64 m11, .slice (some ⟨B6, 0, none⟩) m21_l m21_c, .slice (some ⟨B7, 0, none⟩) m31_l m31_c, .slice none 0 0] 54), (B6, .cells ⟨cs3⟩ 5), (B7, .cells ⟨(over (cs4) 0 (((cs3).drop 0).take (min m21_l m31_l)))⟩ 5), (B8, .cells ⟨cs5⟩ 4)]) ?_ (by kernel_rfl)
    refine AtE.inl 28 ⟨[.pointer (some ⟨B5, 0, none⟩)]⟩ (fun W => by kernel_rfl) (by kernel_rfl) (fun W hm => AtE.calls (nt := 14) Try.func28 (by kernel_rfl) hm ?_)
    refine AtE.run 5 (fun W => by kernel_rfl) ?_
    refine AtE.load 0 4 (T := 52) (v := .slice none 0 0) (by kernel_rfl) ?_
    refine AtE.run 7 (fun W => by kernel_rfl) ?_
    refine AtE.load 0 4 (T := 52) (v := .slice none 0 0) (by kernel_rfl) ?_
    refine AtE.run 3 (fun W => by kernel_rfl) ?_
    refine AtE.store 0 4 (T := 52) (v := .slice none 0 0) (by kernel_rfl) ?_
    refine AtE.run 1 (fun W => by kernel_rfl) ?_
    refine AtE.retK (v := .tuple #[]) Try.func28 (by kernel_rfl) ?_
    refine AtE.run 6 (fun W => by kernel_rfl) ?_
    refine AtE.norm (k' := [.inRegion (regOps [.code (sub (Eng.body Try.f21) [1, 1, 1, 1, 1, 1, 1, 1, 0])]) [3], .code (sub (Eng.body Try.f21) [1, 1, 1, 1, 1, 1, 1, 1, 1])]) (e' := [(101, .pointer (some ⟨B5, 0, none⟩))]) (L' := [(B5, .cells #[.bool m01, .int .i64 m11, .slice (some ⟨B6, 0, none⟩) m21_l m21_c, .slice (some ⟨B7, 0, none⟩) m31_l m31_c, .slice none 0 0] 54), (B6, .cells ⟨cs3⟩ 5), (B7, .cells ⟨(over (cs4) 0 (((cs3).drop 0).take (min m21_l m31_l)))⟩ 5), (B8, .cells ⟨cs5⟩ 4)]) ?_ (by kernel_rfl)
    refine AtE.inl 24 ⟨[.pointer (some ⟨B5, 0, none⟩)]⟩ (fun W => by kernel_rfl) (by kernel_rfl) (fun W hm => AtE.calls (nt := 8) Try.func24 (by kernel_rfl) hm ?_)
    refine AtE.run 5 (fun W => by kernel_rfl) ?_
    refine AtE.store 0 0 (T := 4) (v := .bool true) (by kernel_rfl) ?_
    refine AtE.run 2 (fun W => by kernel_rfl) ?_
    refine AtE.store 0 1 (T := 3) (v := .int .i64 (0 : Int)) (by kernel_rfl) ?_
    refine AtE.run 1 (fun W => by kernel_rfl) ?_
    refine AtE.retK (v := .tuple #[]) Try.func24 (by kernel_rfl) ?_
    refine AtE.run 5 (fun W => by kernel_rfl) ?_
    exact AtE.ret Try.func21 (by kernel_rfl) H

theorem CrashN_vc (D : Nat) (on : Bool) (cut : Int) (DB : Nat) (n : Nat) (VB : Nat) (dur : List Value) (vis : List Value) (keep_p : Option Addr) (keep_l : Nat) (keep_c : Nat) (torn : Int) {R : Ending → World → Prop} {S : List Nat} {w0 W : World} (hm : Mem [(D, .cells #[.bool on, .int .i64 cut, .slice (some ⟨DB, 0, none⟩) n n, .slice (some ⟨VB, 0, none⟩) n n, .slice none 0 0] 54), (DB, .cells ⟨dur⟩ 5), (VB, .cells ⟨vis⟩ 5)] S w0 W)
    (H :
      ∀ t2 : Int, t2 = (n : Int) →
      ((t2 = (0 : Int)) →
        Fin R [(D, .cells #[.bool on, .int .i64 cut, .slice (some ⟨DB, 0, none⟩) n n, .slice (some ⟨VB, 0, none⟩) n n, .slice none 0 0] 54), (DB, .cells ⟨dur⟩ 5), (VB, .cells ⟨vis⟩ 5)] S w0 (.int .i64 (1 : Int))) ∧
       ((¬ (t2 = (0 : Int))) →
        (0 ≤ (0 : Int) ∧ (0 : Int) ≤ (0 : Int) ∧ 1 * (0 : Int) ≤ 281474976710656 ∧ (0 : Int) ≤ 9223372036854775807) ∧
        ∀ B : Nat,
        CrashN_c0 D DB VB B torn (Int.toNat (0 : Int)) (Int.toNat (0 : Int)) (-1 : Int) keep_p keep_l keep_c (keep_l : Int) (0 : Int) on cut n n n n dur vis (List.replicate (Int.toNat (0 : Int)) (.bool false)) S w0 R)) :
    Calls Try.prog 21 ⟨[.pointer (some ⟨D, 0, none⟩), .slice keep_p keep_l keep_c, .int .i64 torn]⟩ W R := by
  refine AtE.calls (nt := 103) Try.func21 (by kernel_rfl) hm ?_
  refine AtE.run 8 (fun W => by kernel_rfl) ?_
  refine AtE.inl 15 ⟨[.pointer (some ⟨D, 0, none⟩)]⟩ (fun W => by kernel_rfl) (by kernel_rfl) (fun W hm => AtE.calls (nt := 10) Try.func15 (by kernel_rfl) hm ?_)
  refine AtE.run 17 (fun W => by kernel_rfl) ?_
  refine AtE.load 0 2 (T := 40) (v := .slice (some ⟨DB, 0, none⟩) n n) (by kernel_rfl) ?_
  refine AtE.run 2 (fun W => by kernel_rfl) ?_
  refine AtE.letI 2 (kd := .i64) (n := (n : Int)) (by kernel_rfl) (fun t2 ht2 => ?_)
  replace H := H t2 ht2
  refine AtE.run 1 (fun W => by kernel_rfl) ?_
  refine AtE.retK (v := (.int .i64 t2)) Try.func15 (by kernel_rfl) ?_
  refine AtE.run 2 (fun W => by kernel_rfl) ?_
  refine AtE.splitP 15 (p := t2 = (0 : Int)) (by kernel_rfl) (fun h1' => ?_) (fun h1' => ?_)
  · replace H := H.1 h1'
    refine AtE.run 5 (fun W => by kernel_rfl) ?_
    exact AtE.ret Try.func21 (by kernel_rfl) H
  · replace H := H.2 h1'
    refine AtE.run 7 (fun W => by kernel_rfl) ?_
    refine AtE.load 0 4 (T := 52) (v := .slice none 0 0) (by kernel_rfl) ?_
    refine AtE.run 1 (fun W => by kernel_rfl) ?_
    refine AtE.make (E := 4) (kl := .i64) (kc := .i64) (n := (0 : Int)) (m := (0 : Int)) (z := .bool false) (bytes := 1) (by kernel_rfl) H.1 (fun B => ?_)
    replace H := H.2 B
    refine AtE.norm (k' := [.inRegion (regOps [.code (sub (Eng.body Try.f21) [1, 1, 0])]) [6], .code (sub (Eng.body Try.f21) [1, 1, 1])]) (e' := [(0, .pointer (some ⟨D, 0, none⟩)), (1, .slice keep_p keep_l keep_c), (2, .int .i64 torn), (21, .slice (some ⟨B, 0, none⟩) (Int.toNat (0 : Int)) (Int.toNat (0 : Int)))]) (L' := [(D, .cells #[.bool on, .int .i64 cut, .slice (some ⟨DB, 0, none⟩) n n, .slice (some ⟨VB, 0, none⟩) n n, .slice none 0 0] 54), (DB, .cells ⟨dur⟩ 5), (VB, .cells ⟨vis⟩ 5), (B, .cells ⟨(List.replicate (Int.toNat (0 : Int)) (.bool false))⟩ 4)]) ?_ (by kernel_rfl)
    refine AtE.run 15 (fun W => by kernel_rfl) ?_
    exact AtE.cut [0, 1, 2, 3] H (by kernel_rfl)

def CrashR_c0 (B1 : Nat) (B2 : Nat) (B3 : Nat) (B4 : Nat) (B5 : Nat) (torn1 : Int) (survives_l : Nat) (survives_c : Nat) (last : Int) (t22_p : Option Addr) (t22_l : Nat) (t22_c : Nat) (t23 : Int) (t24 : Int) (m0 : Bool) (m1 : Int) (m2_l : Nat) (m2_c : Nat) (m3_l : Nat) (m3_c : Nat) (m4_l : Nat) (m4_c : Nat) (cs : List Value) (cs1 : List Value) (cs2 : List Value) (cs3 : List Value) (S : List Nat) (w0 : World) (R : Ending → World → Prop) : Prop :=
  AtE Try.prog 21 103 [.code (sub (Eng.body Try.f21) [1, 1, 1, 1, 0, 1, 0, 0]), .inLoop (sub (Eng.body Try.f21) [1, 1, 1, 1, 0, 1, 0, 0]), .inBlock 0, .code (sub (Eng.body Try.f21) [1, 1, 1, 1, 1])] [(0, .pointer (some ⟨B1, 0, none⟩)), (2, .int .i64 torn1), (7, .slice (some ⟨B5, 0, none⟩) survives_l survives_c), (8, .int .i64 last), (22, .slice t22_p t22_l t22_c), (23, .int .i64 t23), (24, .int .i64 t24)] [(B1, .cells #[.bool m0, .int .i64 m1, .slice (some ⟨B2, 0, none⟩) m2_l m2_c, .slice (some ⟨B3, 0, none⟩) m3_l m3_c, .slice (some ⟨B4, 0, none⟩) m4_l m4_c] 54), (B2, .cells ⟨cs⟩ 5), (B3, .cells ⟨cs1⟩ 5), (B4, .cells ⟨cs2⟩ 56), (B5, .cells ⟨cs3⟩ 4)] S w0 (nrm R)

def CrashR_c1 (B6 : Nat) (B7 : Nat) (B8 : Nat) (B9 : Nat) (B10 : Nat) (torn2 : Int) (survives1_l : Nat) (survives1_c : Nat) (last2 : Int) (t46_l : Nat) (t46_c : Nat) (t47 : Int) (t48 : Int) (m01 : Bool) (m11 : Int) (m21_l : Nat) (m21_c : Nat) (m31_l : Nat) (m31_c : Nat) (m41_l : Nat) (m41_c : Nat) (cs4 : List Value) (cs5 : List Value) (cs6 : List Value) (cs7 : List Value) (S : List Nat) (w0 : World) (R : Ending → World → Prop) : Prop :=
  AtE Try.prog 21 103 [.code (sub (Eng.body Try.f21) [1, 1, 1, 1, 1, 0, 1, 0, 0]), .inLoop (sub (Eng.body Try.f21) [1, 1, 1, 1, 1, 0, 1, 0, 0]), .inBlock 2, .code (sub (Eng.body Try.f21) [1, 1, 1, 1, 1, 1])] [(0, .pointer (some ⟨B6, 0, none⟩)), (2, .int .i64 torn2), (7, .slice (some ⟨B10, 0, none⟩) survives1_l survives1_c), (8, .int .i64 last2), (46, .slice (some ⟨B9, 0, none⟩) t46_l t46_c), (47, .int .i64 t47), (48, .int .i64 t48)] [(B6, .cells #[.bool m01, .int .i64 m11, .slice (some ⟨B7, 0, none⟩) m21_l m21_c, .slice (some ⟨B8, 0, none⟩) m31_l m31_c, .slice (some ⟨B9, 0, none⟩) m41_l m41_c] 54), (B7, .cells ⟨cs4⟩ 5), (B8, .cells ⟨cs5⟩ 5), (B9, .cells ⟨cs6⟩ 56), (B10, .cells ⟨cs7⟩ 4)] S w0 (nrm R)

theorem CrashR_c0_vc (B1 : Nat) (B2 : Nat) (B3 : Nat) (B4 : Nat) (B5 : Nat) (torn1 : Int) (survives_l : Nat) (survives_c : Nat) (last : Int) (t22_p : Option Addr) (t22_l : Nat) (t22_c : Nat) (t23 : Int) (t24 : Int) (m0 : Bool) (m1 : Int) (m2_l : Nat) (m2_c : Nat) (m3_l : Nat) (m3_c : Nat) (m4_l : Nat) (m4_c : Nat) (cs : List Value) (cs1 : List Value) (cs2 : List Value) (cs3 : List Value) {R : Ending → World → Prop} {S : List Nat} {w0 : World}
    (H :
      ((t24 < t23) →
        ∃ t22_pb t22_po : Nat, t22_p = some ⟨t22_pb, t22_po, none⟩ ∧
        (0 ≤ t24 ∧ t24 < t22_l) ∧
        ∃ (cw : List Value) (m5 : Int), t22_pb ∉ S ∧ blkW w0 t22_pb = some cw ∧ cw[(t22_po + (Int.toNat t24))]? = some (.int .i64 m5) ∧
        (((0 : Int) ≤ m5) →
          ((m5 < (survives_l : Int)) →
            (0 ≤ m5 ∧ m5 < survives_l) ∧
            ((Int.toNat m5) < (cs3).length) ∧
            ∀ last1 : Int, last1 = (if m5 > last then m5 else last) →
            CrashR_c0 B1 B2 B3 B4 B5 torn1 survives_l survives_c last1 (some ⟨t22_pb, t22_po, none⟩) t22_l t22_c t23 (IntKind.i64.wrap (t24 + (1 : Int))) m0 m1 m2_l m2_c m3_l m3_c m4_l m4_c cs cs1 cs2 ((cs3).set (Int.toNat m5) (.bool true)) S w0 R) ∧
           ((¬ (m5 < (survives_l : Int))) →
            CrashR_c0 B1 B2 B3 B4 B5 torn1 survives_l survives_c last (some ⟨t22_pb, t22_po, none⟩) t22_l t22_c t23 (IntKind.i64.wrap (t24 + (1 : Int))) m0 m1 m2_l m2_c m3_l m3_c m4_l m4_c cs cs1 cs2 cs3 S w0 R)) ∧
         ((¬ ((0 : Int) ≤ m5)) →
          CrashR_c0 B1 B2 B3 B4 B5 torn1 survives_l survives_c last (some ⟨t22_pb, t22_po, none⟩) t22_l t22_c t23 (IntKind.i64.wrap (t24 + (1 : Int))) m0 m1 m2_l m2_c m3_l m3_c m4_l m4_c cs cs1 cs2 cs3 S w0 R)) ∧
       ((¬ (t24 < t23)) →
        CrashR_c1 B1 B2 B3 B4 B5 torn1 survives_l survives_c last m4_l m4_c (m4_l : Int) (0 : Int) m0 m1 m2_l m2_c m3_l m3_c m4_l m4_c cs cs1 cs2 cs3 S w0 R)) :
    CrashR_c0 B1 B2 B3 B4 B5 torn1 survives_l survives_c last t22_p t22_l t22_c t23 t24 m0 m1 m2_l m2_c m3_l m3_c m4_l m4_c cs cs1 cs2 cs3 S w0 R := by
  unfold CrashR_c0
  refine AtE.run 5 (fun W => by kernel_rfl) ?_
  refine AtE.splitP 25 (p := t24 < t23) (by kernel_rfl) (fun h2' => ?_) (fun h2' => ?_)
  · replace H := H.1 h2'
    refine AtE.run 6 (fun W => by kernel_rfl) ?_
    obtain ⟨t22_pb, t22_po, rfl, H⟩ := H
    refine AtE.indexAddrL (E := 3) (b := t22_pb) (o := t22_po) (len := t22_l) (cap := t22_c) (sz := 1) (o' := (t22_po + (Int.toNat t24))) (kd := .i64) (i := t24) (by kernel_rfl) H.1 (by omega) ?_
    replace H := H.2
    obtain ⟨cw, m5, hs, hw, hx, H⟩ := H
    refine AtE.loadW (b := t22_pb) (off := (t22_po + (Int.toNat t24))) (T := 3) (v := .int .i64 m5) (by kernel_rfl) hs hw (valAt_one hx (by kernel_rfl)) ?_
    refine AtE.run 7 (fun W => by kernel_rfl) ?_
    refine AtE.splitP 30 (p := (0 : Int) ≤ m5) (by kernel_rfl) (fun h3' => ?_) (fun h3' => ?_)
    · replace H := H.1 h3'
      refine AtE.run 6 (fun W => by kernel_rfl) ?_
      refine AtE.splitP 35 (p := m5 < (survives_l : Int)) (by kernel_rfl) (fun h4' => ?_) (fun h4' => ?_)
      · replace H := H.1 h4'
        refine AtE.run 5 (fun W => by kernel_rfl) ?_
        refine AtE.indexAddrL (E := 4) (b := B5) (o := 0) (len := survives_l) (cap := survives_c) (sz := 1) (o' := (Int.toNat m5)) (kd := .i64) (i := m5) (by kernel_rfl) H.1 (by omega) ?_
        replace H := H.2
        refine AtE.norm (k' := [.inRegion (regOps [.code (sub (Eng.body Try.f21) [1, 1, 1, 1, 0, 1, 0, 0, 1, 1, 0, 0, 1, 1, 0, 0])]) [3], .code (sub (Eng.body Try.f21) [1, 1, 1, 1, 0, 1, 0, 0, 1, 1, 0, 0, 1, 1, 0, 1]), .inBlock 1, .code (sub (Eng.body Try.f21) [1, 1, 1, 1, 0, 1, 0, 0, 1, 1, 1]), .inLoop (sub (Eng.body Try.f21) [1, 1, 1, 1, 0, 1, 0, 0]), .inBlock 0, .code (sub (Eng.body Try.f21) [1, 1, 1, 1, 1])]) (e' := [(0, .pointer (some ⟨B1, 0, none⟩)), (2, .int .i64 torn1), (7, .slice (some ⟨B5, 0, none⟩) survives_l survives_c), (8, .int .i64 last), (10, .int .i64 m5), (22, .slice (some ⟨t22_pb, t22_po, none⟩) t22_l t22_c), (23, .int .i64 t23), (24, .int .i64 t24), (38, .pointer (some ⟨B5, (Int.toNat m5), none⟩))]) (L' := [(B1, .cells #[.bool m0, .int .i64 m1, .slice (some ⟨B2, 0, none⟩) m2_l m2_c, .slice (some ⟨B3, 0, none⟩) m3_l m3_c, .slice (some ⟨B4, 0, none⟩) m4_l m4_c] 54), (B2, .cells ⟨cs⟩ 5), (B3, .cells ⟨cs1⟩ 5), (B4, .cells ⟨cs2⟩ 56), (B5, .cells ⟨cs3⟩ 4)]) ?_ (by kernel_rfl)
        refine AtE.storeS 4 (off := (Int.toNat m5)) (lo := 0) (hi := 0) (T := 4) (v := .bool true) (c := cs3) (by kernel_rfl) H.1 (.inr (Nat.zero_le _)) ?_
        replace H := H.2
        refine AtE.run 6 (fun W => by kernel_rfl) ?_
        refine AtE.letI 8 (kd := .i64) (n := (if m5 > last then m5 else last)) (by kernel_rfl) (fun last1 hlast1 => ?_)
        replace H := H last1 hlast1
        refine AtE.run 7 (fun W => by kernel_rfl) ?_
        exact AtE.cut [0, 1, 2, 3, 4] H (by kernel_rfl)
      · replace H := H.2 h4'
        refine AtE.run 8 (fun W => by kernel_rfl) ?_
        exact AtE.cut [0, 1, 2, 3, 4] H (by kernel_rfl)
    · replace H := H.2 h3'
      refine AtE.run 14 (fun W => by kernel_rfl) ?_
      exact AtE.cut [0, 1, 2, 3, 4] H (by kernel_rfl)
  · replace H := H.2 h2'
    refine AtE.run 8 (fun W => by kernel_rfl) ?_
    refine AtE.load 0 4 (T := 52) (v := .slice (some ⟨B4, 0, none⟩) m4_l m4_c) (by kernel_rfl) ?_
    refine AtE.run 5 (fun W => by kernel_rfl) ?_
    exact AtE.cut [0, 1, 2, 3, 4] H (by kernel_rfl)

theorem CrashR_c1_vc (B6 : Nat) (B7 : Nat) (B8 : Nat) (B9 : Nat) (B10 : Nat) (torn2 : Int) (survives1_l : Nat) (survives1_c : Nat) (last2 : Int) (t46_l : Nat) (t46_c : Nat) (t47 : Int) (t48 : Int) (m01 : Bool) (m11 : Int) (m21_l : Nat) (m21_c : Nat) (m31_l : Nat) (m31_c : Nat) (m41_l : Nat) (m41_c : Nat) (cs4 : List Value) (cs5 : List Value) (cs6 : List Value) (cs7 : List Value) {R : Ending → World → Prop} {S : List Nat} {w0 : World}
    (H :
      ((t48 < t47) →
        (0 ≤ t48 ∧ t48 < t46_l) ∧
        ∃ (m6_0 : Int) (m6_1 : ByteArray), (((cs6).drop ((Int.toNat t48) * 2)).take 2 = [.int .i64 m6_0, .string m6_1] ∧ ((Int.toNat t48) * 2) + 2 ≤ (cs6).length) ∧
        ∀ B11 : Nat,
        (0 ≤ t48 ∧ t48 < survives1_l) ∧
        ∃ (m71 : Bool), (cs7)[(Int.toNat t48)]? = some (.bool m71) ∧
        ((m71 = true) →
          ((t48 = last2) →
            (((0 : Int) ≤ torn2) →
              ((torn2 < (m6_1.size : Int)) →
                (0 ≤ (0 : Int) ∧ (0 : Int) ≤ torn2 ∧ torn2 ≤ m6_1.size) ∧
                (0 ≤ m6_0 ∧ m6_0 ≤ (m21_l : Int) ∧ (m21_l : Int) ≤ (m21_c : Int)) ∧
                ∀ o : Nat, o = (if (Int.toNat m6_0) = m21_c then 0 else 0 + (Int.toNat m6_0) * 1) →
                (o + (m21_l - (Int.toNat m6_0)) ≤ (cs4).length) ∧
                CrashR_c1 B6 B7 B8 B9 B10 torn2 survives1_l survives1_c last2 t46_l t46_c t47 (IntKind.i64.wrap (t48 + (1 : Int))) m01 m11 m21_l m21_c m31_l m31_c m41_l m41_c (over (cs4) o (bytesL ((m6_1.extract 0 (Int.toNat torn2)).data.toList.take (m21_l - (Int.toNat m6_0))))) cs5 cs6 cs7 S w0 R) ∧
               ((¬ (torn2 < (m6_1.size : Int))) →
                (0 ≤ m6_0 ∧ m6_0 ≤ (m21_l : Int) ∧ (m21_l : Int) ≤ (m21_c : Int)) ∧
                ∀ o1 : Nat, o1 = (if (Int.toNat m6_0) = m21_c then 0 else 0 + (Int.toNat m6_0) * 1) →
                (o1 + (m21_l - (Int.toNat m6_0)) ≤ (cs4).length) ∧
                CrashR_c1 B6 B7 B8 B9 B10 torn2 survives1_l survives1_c last2 t46_l t46_c t47 (IntKind.i64.wrap (t48 + (1 : Int))) m01 m11 m21_l m21_c m31_l m31_c m41_l m41_c (over (cs4) o1 (bytesL (m6_1.data.toList.take (m21_l - (Int.toNat m6_0))))) cs5 cs6 cs7 S w0 R)) ∧
             ((¬ ((0 : Int) ≤ torn2)) →
              (0 ≤ m6_0 ∧ m6_0 ≤ (m21_l : Int) ∧ (m21_l : Int) ≤ (m21_c : Int)) ∧
              ∀ o2 : Nat, o2 = (if (Int.toNat m6_0) = m21_c then 0 else 0 + (Int.toNat m6_0) * 1) →
              (o2 + (m21_l - (Int.toNat m6_0)) ≤ (cs4).length) ∧
              CrashR_c1 B6 B7 B8 B9 B10 torn2 survives1_l survives1_c last2 t46_l t46_c t47 (IntKind.i64.wrap (t48 + (1 : Int))) m01 m11 m21_l m21_c m31_l m31_c m41_l m41_c (over (cs4) o2 (bytesL (m6_1.data.toList.take (m21_l - (Int.toNat m6_0))))) cs5 cs6 cs7 S w0 R)) ∧
           ((¬ (t48 = last2)) →
            (0 ≤ m6_0 ∧ m6_0 ≤ (m21_l : Int) ∧ (m21_l : Int) ≤ (m21_c : Int)) ∧
            ∀ o3 : Nat, o3 = (if (Int.toNat m6_0) = m21_c then 0 else 0 + (Int.toNat m6_0) * 1) →
            (o3 + (m21_l - (Int.toNat m6_0)) ≤ (cs4).length) ∧
            CrashR_c1 B6 B7 B8 B9 B10 torn2 survives1_l survives1_c last2 t46_l t46_c t47 (IntKind.i64.wrap (t48 + (1 : Int))) m01 m11 m21_l m21_c m31_l m31_c m41_l m41_c (over (cs4) o3 (bytesL (m6_1.data.toList.take (m21_l - (Int.toNat m6_0))))) cs5 cs6 cs7 S w0 R)) ∧
         ((m71 = false) →
          CrashR_c1 B6 B7 B8 B9 B10 torn2 survives1_l survives1_c last2 t46_l t46_c t47 (IntKind.i64.wrap (t48 + (1 : Int))) m01 m11 m21_l m21_c m31_l m31_c m41_l m41_c cs4 cs5 cs6 cs7 S w0 R)) ∧
       ((¬ (t48 < t47)) →
        ((((cs4).drop 0).take (min m21_l m31_l)).length = min m21_l m31_l) ∧ (∀ u ∈ (((cs4).drop 0).take (min m21_l m31_l)), u.oneCell' = true) ∧ (0 + (((cs4).drop 0).take (min m21_l m31_l)).length ≤ (cs5).length) ∧
        (0 + m41_l * 2 ≤ (cs6).length) ∧
        (0 ≤ (0 : Int) ∧ (0 : Int) ≤ (0 : Int) ∧ (0 : Int) ≤ (m41_c : Int)) ∧
        Fin R [(B6, .cells #[.bool true, .int .i64 (0 : Int), .slice (some ⟨B7, 0, none⟩) m21_l m21_c, .slice (some ⟨B8, 0, none⟩) m31_l m31_c, .slice (some ⟨B9, 0, none⟩) (Int.toNat (0 : Int)) m41_c] 54), (B7, .cells ⟨cs4⟩ 5), (B8, .cells ⟨(over (cs5) 0 (((cs4).drop 0).take (min m21_l m31_l)))⟩ 5), (B9, .cells ⟨(over (cs6) 0 (noughtL #[.int .i64 (0 : Int), .string (⟨#[]⟩)] m41_l))⟩ 56), (B10, .cells ⟨cs7⟩ 4)] S w0 (.int .i64 (0 : Int)))) :
    CrashR_c1 B6 B7 B8 B9 B10 torn2 survives1_l survives1_c last2 t46_l t46_c t47 t48 m01 m11 m21_l m21_c m31_l m31_c m41_l m41_c cs4 cs5 cs6 cs7 S w0 R := by
  unfold CrashR_c1
  refine AtE.run 5 (fun W => by kernel_rfl) ?_
  refine AtE.splitP 49 (p := t48 < t47) (by kernel_rfl) (fun h5' => ?_) (fun h5' => ?_)
  · replace H := H.1 h5'
    refine AtE.run 7 (fun W => by kernel_rfl) ?_
    refine AtE.indexAddrL (E := 56) (b := B9) (o := 0) (len := t46_l) (cap := t46_c) (sz := 2) (o' := ((Int.toNat t48) * 2)) (kd := .i64) (i := t48) (by kernel_rfl) H.1 (by omega) ?_
    replace H := H.2
    obtain ⟨m6_0, m6_1, hx, H⟩ := H
    refine AtE.loadS 3 (off := ((Int.toNat t48) * 2)) (T := 56) (v := .agg #[.int .i64 m6_0, .string m6_1]) (by kernel_rfl) (valAt_agg hx.1 hx.2 (by kernel_rfl) (by kernel_rfl)) ?_
    refine AtE.new (fun B => .pointer (some ⟨B, 0, none⟩)) (.cells #[.int .i64 (0 : Int), .string (⟨#[]⟩)] 56) (fun W => by kernel_rfl) (by kernel_rfl) (fun B11 => ?_)
    replace H := H B11
    refine AtE.run 1 (fun W => by kernel_rfl) ?_
    refine AtE.store 5 0 (T := 56) (v := .agg #[.int .i64 m6_0, .string m6_1]) (by kernel_rfl) ?_
    refine AtE.run 6 (fun W => by kernel_rfl) ?_
    refine AtE.indexAddrL (E := 4) (b := B10) (o := 0) (len := survives1_l) (cap := survives1_c) (sz := 1) (o' := (Int.toNat t48)) (kd := .i64) (i := t48) (by kernel_rfl) H.1 (by omega) ?_
    replace H := H.2
    obtain ⟨m71, hx, H⟩ := H
    refine AtE.loadS 4 (off := (Int.toNat t48)) (T := 4) (v := .bool m71) (by kernel_rfl) (valAt_one hx (by kernel_rfl)) ?_
    refine AtE.norm (k' := [.inRegion (regOps [.code (sub (Eng.body Try.f21) [1, 1, 1, 1, 1, 0, 1, 0, 0, 1, 1, 0, 0, 1, 0, 0])]) [4], .code (sub (Eng.body Try.f21) [1, 1, 1, 1, 1, 0, 1, 0, 0, 1, 1, 0, 0, 1, 0, 1]), .code (sub (Eng.body Try.f21) [1, 1, 1, 1, 1, 0, 1, 0, 0, 1, 1, 0, 0, 1, 1]), .inBlock 3, .code (sub (Eng.body Try.f21) [1, 1, 1, 1, 1, 0, 1, 0, 0, 1, 1, 1]), .inLoop (sub (Eng.body Try.f21) [1, 1, 1, 1, 1, 0, 1, 0, 0]), .inBlock 2, .code (sub (Eng.body Try.f21) [1, 1, 1, 1, 1, 1])]) (e' := [(0, .pointer (some ⟨B6, 0, none⟩)), (2, .int .i64 torn2), (7, .slice (some ⟨B10, 0, none⟩) survives1_l survives1_c), (8, .int .i64 last2), (11, .int .i64 t48), (12, .pointer (some ⟨B11, 0, none⟩)), (46, .slice (some ⟨B9, 0, none⟩) t46_l t46_c), (47, .int .i64 t47), (48, .int .i64 t48), (56, .bool m71)]) (L' := [(B6, .cells #[.bool m01, .int .i64 m11, .slice (some ⟨B7, 0, none⟩) m21_l m21_c, .slice (some ⟨B8, 0, none⟩) m31_l m31_c, .slice (some ⟨B9, 0, none⟩) m41_l m41_c] 54), (B7, .cells ⟨cs4⟩ 5), (B8, .cells ⟨cs5⟩ 5), (B9, .cells ⟨cs6⟩ 56), (B10, .cells ⟨cs7⟩ 4), (B11, .cells #[.int .i64 m6_0, .string m6_1] 56)]) ?_ (by kernel_rfl)
    refine AtE.split 56 (b := m71) (by kernel_rfl) (fun h6' => ?_) (fun h6' => ?_)
    · replace H := H.1 h6'
      refine AtE.run 11 (fun W => by kernel_rfl) ?_
      refine AtE.splitP 61 (p := t48 = last2) (by kernel_rfl) (fun h7' => ?_) (fun h7' => ?_)
      · replace H := H.1 h7'
        refine AtE.run 4 (fun W => by kernel_rfl) ?_
        refine AtE.splitP 65 (p := (0 : Int) ≤ torn2) (by kernel_rfl) (fun h8' => ?_) (fun h8' => ?_)
        · replace H := H.1 h8'
          refine AtE.run 2 (fun W => by kernel_rfl) ?_
          refine AtE.load 5 1 (T := 9) (v := .string m6_1) (by kernel_rfl) ?_
          refine AtE.run 4 (fun W => by kernel_rfl) ?_
          refine AtE.splitP 71 (p := torn2 < (m6_1.size : Int)) (by kernel_rfl) (fun h9' => ?_) (fun h9' => ?_)
          · replace H := H.1 h9'
            refine AtE.run 3 (fun W => by kernel_rfl) ?_
            refine AtE.load 5 1 (T := 9) (v := .string m6_1) (by kernel_rfl) ?_
            refine AtE.run 1 (fun W => by kernel_rfl) ?_
            refine AtE.sliceS (s := m6_1) (lo := none) (hi := some (.int .i64 torn2)) (a := (0 : Int)) (b := torn2) (by kernel_rfl) (.inr ⟨rfl, rfl⟩) (.inl ⟨.i64, rfl⟩) H.1 ?_
            replace H := H.2
            refine AtE.norm (k' := [.inRegion (regOps [.code (sub (Eng.body Try.f21) [1, 1, 1, 1, 1, 0, 1, 0, 0, 1, 1, 0, 0, 1, 1, 0, 1, 0])]) [4, 5], .code (sub (Eng.body Try.f21) [1, 1, 1, 1, 1, 0, 1, 0, 0, 1, 1, 0, 0, 1, 1, 1]), .inBlock 3, .code (sub (Eng.body Try.f21) [1, 1, 1, 1, 1, 0, 1, 0, 0, 1, 1, 1]), .inLoop (sub (Eng.body Try.f21) [1, 1, 1, 1, 1, 0, 1, 0, 0]), .inBlock 2, .code (sub (Eng.body Try.f21) [1, 1, 1, 1, 1, 1])]) (e' := [(0, .pointer (some ⟨B6, 0, none⟩)), (2, .int .i64 torn2), (7, .slice (some ⟨B10, 0, none⟩) survives1_l survives1_c), (8, .int .i64 last2), (12, .pointer (some ⟨B11, 0, none⟩)), (46, .slice (some ⟨B9, 0, none⟩) t46_l t46_c), (47, .int .i64 t47), (48, .int .i64 t48), (75, .string (m6_1.extract 0 (Int.toNat torn2)))]) (L' := [(B6, .cells #[.bool m01, .int .i64 m11, .slice (some ⟨B7, 0, none⟩) m21_l m21_c, .slice (some ⟨B8, 0, none⟩) m31_l m31_c, .slice (some ⟨B9, 0, none⟩) m41_l m41_c] 54), (B7, .cells ⟨cs4⟩ 5), (B8, .cells ⟨cs5⟩ 5), (B9, .cells ⟨cs6⟩ 56), (B10, .cells ⟨cs7⟩ 4), (B11, .cells #[.int .i64 m6_0, .string m6_1] 56)]) ?_ (by kernel_rfl)
            refine AtE.run 1 (fun W => by kernel_rfl) ?_
            refine AtE.store 5 1 (T := 9) (v := .string (m6_1.extract 0 (Int.toNat torn2))) (by kernel_rfl) ?_
            refine AtE.run 1 (fun W => by kernel_rfl) ?_
            refine AtE.norm (k' := [.code (sub (Eng.body Try.f21) [1, 1, 1, 1, 1, 0, 1, 0, 0, 1, 1, 0, 0, 1, 1, 1]), .inBlock 3, .code (sub (Eng.body Try.f21) [1, 1, 1, 1, 1, 0, 1, 0, 0, 1, 1, 1]), .inLoop (sub (Eng.body Try.f21) [1, 1, 1, 1, 1, 0, 1, 0, 0]), .inBlock 2, .code (sub (Eng.body Try.f21) [1, 1, 1, 1, 1, 1])]) (e' := [(0, .pointer (some ⟨B6, 0, none⟩)), (2, .int .i64 torn2), (7, .slice (some ⟨B10, 0, none⟩) survives1_l survives1_c), (8, .int .i64 last2), (12, .pointer (some ⟨B11, 0, none⟩)), (46, .slice (some ⟨B9, 0, none⟩) t46_l t46_c), (47, .int .i64 t47), (48, .int .i64 t48)]) (L' := [(B6, .cells #[.bool m01, .int .i64 m11, .slice (some ⟨B7, 0, none⟩) m21_l m21_c, .slice (some ⟨B8, 0, none⟩) m31_l m31_c, .slice (some ⟨B9, 0, none⟩) m41_l m41_c] 54), (B7, .cells ⟨cs4⟩ 5), (B8, .cells ⟨cs5⟩ 5), (B9, .cells ⟨cs6⟩ 56), (B10, .cells ⟨cs7⟩ 4), (B11, .cells #[.int .i64 m6_0, .string (m6_1.extract 0 (Int.toNat torn2))] 56)]) ?_ (by kernel_rfl)
            refine AtE.draw 9 (by kernel_rfl) ?_
            refine AtQ.pure (by kernel_rfl) (fun W => by kernel_rfl) ?_
            refine AtQ.pure (by kernel_rfl) (fun W => by kernel_rfl) ?_
            refine AtQ.pure (by kernel_rfl) (fun W => by kernel_rfl) ?_
            refine AtQ.load 0 2 (T := 40) (v := .slice (some ⟨B7, 0, none⟩) m21_l m21_c) (by kernel_rfl) ?_
            refine AtQ.pure (by kernel_rfl) (fun W => by kernel_rfl) ?_
            refine AtQ.load 5 0 (T := 3) (v := .int .i64 m6_0) (by kernel_rfl) ?_
            obtain ⟨o, ho⟩ : ∃ x : Nat, x = (if (Int.toNat m6_0) = m21_c then 0 else 0 + (Int.toNat m6_0) * 1) := ⟨_, rfl⟩
            refine AtQ.sliceL (E := 5) (b := B7) (o := 0) (len := m21_l) (cap := m21_c) (sz := 1) (o' := o) (l' := (m21_l - (Int.toNat m6_0))) (c' := (m21_c - (Int.toNat m6_0))) (lo := some (.int .i64 m6_0)) (hi := none) (x := m6_0) (y := (m21_l : Int)) (by kernel_rfl) (.inl ⟨.i64, rfl⟩) (.inr ⟨rfl, rfl, by omega⟩) H.1 ho (by simp) rfl ?_
            replace H := H.2 o ho
            refine AtQ.pure (by kernel_rfl) (fun W => by kernel_rfl) ?_
            refine AtQ.load 5 1 (T := 9) (v := .string (m6_1.extract 0 (Int.toNat torn2))) (by kernel_rfl) ?_
            refine AtQ.done (by kernel_rfl) ?_
            refine AtE.copyS 1 (T := 40) (E := 5) (U := 9) (o := o) (dl := (m21_l - (Int.toNat m6_0))) (dc := (m21_c - (Int.toNat m6_0))) (s := (m6_1.extract 0 (Int.toNat torn2))) (c := cs4) (by kernel_rfl) H.1 ?_
            replace H := H.2
            refine AtE.run 7 (fun W => by kernel_rfl) ?_
            exact AtE.cut [0, 1, 2, 3, 4] H (by kernel_rfl)
          · replace H := H.2 h9'
            refine AtE.run 2 (fun W => by kernel_rfl) ?_
            refine AtE.norm (k' := [.code (sub (Eng.body Try.f21) [1, 1, 1, 1, 1, 0, 1, 0, 0, 1, 1, 0, 0, 1, 1, 1]), .inBlock 3, .code (sub (Eng.body Try.f21) [1, 1, 1, 1, 1, 0, 1, 0, 0, 1, 1, 1]), .inLoop (sub (Eng.body Try.f21) [1, 1, 1, 1, 1, 0, 1, 0, 0]), .inBlock 2, .code (sub (Eng.body Try.f21) [1, 1, 1, 1, 1, 1])]) (e' := [(0, .pointer (some ⟨B6, 0, none⟩)), (2, .int .i64 torn2), (7, .slice (some ⟨B10, 0, none⟩) survives1_l survives1_c), (8, .int .i64 last2), (12, .pointer (some ⟨B11, 0, none⟩)), (46, .slice (some ⟨B9, 0, none⟩) t46_l t46_c), (47, .int .i64 t47), (48, .int .i64 t48)]) (L' := [(B6, .cells #[.bool m01, .int .i64 m11, .slice (some ⟨B7, 0, none⟩) m21_l m21_c, .slice (some ⟨B8, 0, none⟩) m31_l m31_c, .slice (some ⟨B9, 0, none⟩) m41_l m41_c] 54), (B7, .cells ⟨cs4⟩ 5), (B8, .cells ⟨cs5⟩ 5), (B9, .cells ⟨cs6⟩ 56), (B10, .cells ⟨cs7⟩ 4), (B11, .cells #[.int .i64 m6_0, .string m6_1] 56)]) ?_ (by kernel_rfl)
            refine AtE.draw 9 (by kernel_rfl) ?_
            refine AtQ.pure (by kernel_rfl) (fun W => by kernel_rfl) ?_
            refine AtQ.pure (by kernel_rfl) (fun W => by kernel_rfl) ?_
            refine AtQ.pure (by kernel_rfl) (fun W => by kernel_rfl) ?_
            refine AtQ.load 0 2 (T := 40) (v := .slice (some ⟨B7, 0, none⟩) m21_l m21_c) (by kernel_rfl) ?_
            refine AtQ.pure (by kernel_rfl) (fun W => by kernel_rfl) ?_
            refine AtQ.load 5 0 (T := 3) (v := .int .i64 m6_0) (by kernel_rfl) ?_
            obtain ⟨o1, ho1⟩ : ∃ x : Nat, x = (if (Int.toNat m6_0) = m21_c then 0 else 0 + (Int.toNat m6_0) * 1) := ⟨_, rfl⟩
            refine AtQ.sliceL (E := 5) (b := B7) (o := 0) (len := m21_l) (cap := m21_c) (sz := 1) (o' := o1) (l' := (m21_l - (Int.toNat m6_0))) (c' := (m21_c - (Int.toNat m6_0))) (lo := some (.int .i64 m6_0)) (hi := none) (x := m6_0) (y := (m21_l : Int)) (by kernel_rfl) (.inl ⟨.i64, rfl⟩) (.inr ⟨rfl, rfl, by omega⟩) H.1 ho1 (by simp) rfl ?_
            replace H := H.2 o1 ho1
            refine AtQ.pure (by kernel_rfl) (fun W => by kernel_rfl) ?_
            refine AtQ.load 5 1 (T := 9) (v := .string m6_1) (by kernel_rfl) ?_
            refine AtQ.done (by kernel_rfl) ?_
            refine AtE.copyS 1 (T := 40) (E := 5) (U := 9) (o := o1) (dl := (m21_l - (Int.toNat m6_0))) (dc := (m21_c - (Int.toNat m6_0))) (s := m6_1) (c := cs4) (by kernel_rfl) H.1 ?_
            replace H := H.2
            refine AtE.run 7 (fun W => by kernel_rfl) ?_
            exact AtE.cut [0, 1, 2, 3, 4] H (by kernel_rfl)
        · replace H := H.2 h8'
          refine AtE.run 9 (fun W => by kernel_rfl) ?_
          refine AtE.norm (k' := [.code (sub (Eng.body Try.f21) [1, 1, 1, 1, 1, 0, 1, 0, 0, 1, 1, 0, 0, 1, 1, 1]), .inBlock 3, .code (sub (Eng.body Try.f21) [1, 1, 1, 1, 1, 0, 1, 0, 0, 1, 1, 1]), .inLoop (sub (Eng.body Try.f21) [1, 1, 1, 1, 1, 0, 1, 0, 0]), .inBlock 2, .code (sub (Eng.body Try.f21) [1, 1, 1, 1, 1, 1])]) (e' := [(0, .pointer (some ⟨B6, 0, none⟩)), (2, .int .i64 torn2), (7, .slice (some ⟨B10, 0, none⟩) survives1_l survives1_c), (8, .int .i64 last2), (12, .pointer (some ⟨B11, 0, none⟩)), (46, .slice (some ⟨B9, 0, none⟩) t46_l t46_c), (47, .int .i64 t47), (48, .int .i64 t48)]) (L' := [(B6, .cells #[.bool m01, .int .i64 m11, .slice (some ⟨B7, 0, none⟩) m21_l m21_c, .slice (some ⟨B8, 0, none⟩) m31_l m31_c, .slice (some ⟨B9, 0, none⟩) m41_l m41_c] 54), (B7, .cells ⟨cs4⟩ 5), (B8, .cells ⟨cs5⟩ 5), (B9, .cells ⟨cs6⟩ 56), (B10, .cells ⟨cs7⟩ 4), (B11, .cells #[.int .i64 m6_0, .string m6_1] 56)]) ?_ (by kernel_rfl)
          refine AtE.draw 9 (by kernel_rfl) ?_
          refine AtQ.pure (by kernel_rfl) (fun W => by kernel_rfl) ?_
          refine AtQ.pure (by kernel_rfl) (fun W => by kernel_rfl) ?_
          refine AtQ.pure (by kernel_rfl) (fun W => by kernel_rfl) ?_
          refine AtQ.load 0 2 (T := 40) (v := .slice (some ⟨B7, 0, none⟩) m21_l m21_c) (by kernel_rfl) ?_
          refine AtQ.pure (by kernel_rfl) (fun W => by kernel_rfl) ?_
          refine AtQ.load 5 0 (T := 3) (v := .int .i64 m6_0) (by kernel_rfl) ?_
          obtain ⟨o2, ho2⟩ : ∃ x : Nat, x = (if (Int.toNat m6_0) = m21_c then 0 else 0 + (Int.toNat m6_0) * 1) := ⟨_, rfl⟩
          refine AtQ.sliceL (E := 5) (b := B7) (o := 0) (len := m21_l) (cap := m21_c) (sz := 1) (o' := o2) (l' := (m21_l - (Int.toNat m6_0))) (c' := (m21_c - (Int.toNat m6_0))) (lo := some (.int .i64 m6_0)) (hi := none) (x := m6_0) (y := (m21_l : Int)) (by kernel_rfl) (.inl ⟨.i64, rfl⟩) (.inr ⟨rfl, rfl, by omega⟩) H.1 ho2 (by simp) rfl ?_
          replace H := H.2 o2 ho2
          refine AtQ.pure (by kernel_rfl) (fun W => by kernel_rfl) ?_
          refine AtQ.load 5 1 (T := 9) (v := .string m6_1) (by kernel_rfl) ?_
          refine AtQ.done (by kernel_rfl) ?_
          refine AtE.copyS 1 (T := 40) (E := 5) (U := 9) (o := o2) (dl := (m21_l - (Int.toNat m6_0))) (dc := (m21_c - (Int.toNat m6_0))) (s := m6_1) (c := cs4) (by kernel_rfl) H.1 ?_
          replace H := H.2
          refine AtE.run 7 (fun W => by kernel_rfl) ?_
          exact AtE.cut [0, 1, 2, 3, 4] H (by kernel_rfl)
      · replace H := H.2 h7'
        refine AtE.run 13 (fun W => by kernel_rfl) ?_
        refine AtE.norm (k' := [.code (sub (Eng.body Try.f21) [1, 1, 1, 1, 1, 0, 1, 0, 0, 1, 1, 0, 0, 1, 1, 1]), .inBlock 3, .code (sub (Eng.body Try.f21) [1, 1, 1, 1, 1, 0, 1, 0, 0, 1, 1, 1]), .inLoop (sub (Eng.body Try.f21) [1, 1, 1, 1, 1, 0, 1, 0, 0]), .inBlock 2, .code (sub (Eng.body Try.f21) [1, 1, 1, 1, 1, 1])]) (e' := [(0, .pointer (some ⟨B6, 0, none⟩)), (2, .int .i64 torn2), (7, .slice (some ⟨B10, 0, none⟩) survives1_l survives1_c), (8, .int .i64 last2), (12, .pointer (some ⟨B11, 0, none⟩)), (46, .slice (some ⟨B9, 0, none⟩) t46_l t46_c), (47, .int .i64 t47), (48, .int .i64 t48)]) (L' := [(B6, .cells #[.bool m01, .int .i64 m11, .slice (some ⟨B7, 0, none⟩) m21_l m21_c, .slice (some ⟨B8, 0, none⟩) m31_l m31_c, .slice (some ⟨B9, 0, none⟩) m41_l m41_c] 54), (B7, .cells ⟨cs4⟩ 5), (B8, .cells ⟨cs5⟩ 5), (B9, .cells ⟨cs6⟩ 56), (B10, .cells ⟨cs7⟩ 4), (B11, .cells #[.int .i64 m6_0, .string m6_1] 56)]) ?_ (by kernel_rfl)
        refine AtE.draw 9 (by kernel_rfl) ?_
        refine AtQ.pure (by kernel_rfl) (fun W => by kernel_rfl) ?_
        refine AtQ.pure (by kernel_rfl) (fun W => by kernel_rfl) ?_
        refine AtQ.pure (by kernel_rfl) (fun W => by kernel_rfl) ?_
        refine AtQ.load 0 2 (T := 40) (v := .slice (some ⟨B7, 0, none⟩) m21_l m21_c) (by kernel_rfl) ?_
        refine AtQ.pure (by kernel_rfl) (fun W => by kernel_rfl) ?_
        refine AtQ.load 5 0 (T := 3) (v := .int .i64 m6_0) (by kernel_rfl) ?_
        obtain ⟨o3, ho3⟩ : ∃ x : Nat, x = (if (Int.toNat m6_0) = m21_c then 0 else 0 + (Int.toNat m6_0) * 1) := ⟨_, rfl⟩
        refine AtQ.sliceL (E := 5) (b := B7) (o := 0) (len := m21_l) (cap := m21_c) (sz := 1) (o' := o3) (l' := (m21_l - (Int.toNat m6_0))) (c' := (m21_c - (Int.toNat m6_0))) (lo := some (.int .i64 m6_0)) (hi := none) (x := m6_0) (y := (m21_l : Int)) (by kernel_rfl) (.inl ⟨.i64, rfl⟩) (.inr ⟨rfl, rfl, by omega⟩) H.1 ho3 (by simp) rfl ?_
        replace H := H.2 o3 ho3
        refine AtQ.pure (by kernel_rfl) (fun W => by kernel_rfl) ?_
        refine AtQ.load 5 1 (T := 9) (v := .string m6_1) (by kernel_rfl) ?_
        refine AtQ.done (by kernel_rfl) ?_
        refine AtE.copyS 1 (T := 40) (E := 5) (U := 9) (o := o3) (dl := (m21_l - (Int.toNat m6_0))) (dc := (m21_c - (Int.toNat m6_0))) (s := m6_1) (c := cs4) (by kernel_rfl) H.1 ?_
        replace H := H.2
        refine AtE.run 7 (fun W => by kernel_rfl) ?_
        exact AtE.cut [0, 1, 2, 3, 4] H (by kernel_rfl)
    · replace H := H.2 h6'
      refine AtE.run 9 (fun W => by kernel_rfl) ?_
      exact AtE.cut [0, 1, 2, 3, 4] H (by kernel_rfl)
  · replace H := H.2 h5'
    refine AtE.run 3 (fun W => by kernel_rfl) ?_
    refine AtE.norm (k' := [.code (sub (Eng.body Try.f21) [1, 1, 1, 1, 1, 1, 0]), .code (sub (Eng.body Try.f21) [1, 1, 1, 1, 1, 1, 1])]) (e' := [(0, .pointer (some ⟨B6, 0, none⟩))]) (L' := [(B6, .cells #[.bool m01, .int .i64 m11, .slice (some ⟨B7, 0, none⟩) m21_l m21_c, .slice (some ⟨B8, 0, none⟩) m31_l m31_c, .slice (some ⟨B9, 0, none⟩) m41_l m41_c] 54), (B7, .cells ⟨cs4⟩ 5), (B8, .cells ⟨cs5⟩ 5), (B9, .cells ⟨cs6⟩ 56), (B10, .cells ⟨cs7⟩ 4)]) ?_ (by kernel_rfl)
    refine AtE.draw 8 (by kernel_rfl) ?_
    refine AtQ.pure (by kernel_rfl) (fun W => by kernel_rfl) ?_
    refine AtQ.pure (by kernel_rfl) (fun W => by kernel_rfl) ?_
    refine AtQ.pure (by kernel_rfl) (fun W => by kernel_rfl) ?_
    refine AtQ.load 0 3 (T := 40) (v := .slice (some ⟨B8, 0, none⟩) m31_l m31_c) (by kernel_rfl) ?_
    refine AtQ.pure (by kernel_rfl) (fun W => by kernel_rfl) ?_
    refine AtQ.pure (by kernel_rfl) (fun W => by kernel_rfl) ?_
    refine AtQ.pure (by kernel_rfl) (fun W => by kernel_rfl) ?_
    refine AtQ.load 0 2 (T := 40) (v := .slice (some ⟨B7, 0, none⟩) m21_l m21_c) (by kernel_rfl) ?_
    refine AtQ.done (by kernel_rfl) ?_
    refine AtE.copyO 2 (T := 40) (E := 5) (o := 0) (dl := m31_l) (dc := m31_c) (n := m21_l) (m := m21_c) (a := ⟨B7, 0, none⟩) (c := cs5) (((cs4).drop 0).take (min m21_l m31_l)) (by kernel_rfl) (Src.own (j := 1) (o := 0) (n := (min m21_l m31_l)) (c := cs4) (by kernel_rfl)) H.1 H.2.1 H.2.2.1 ?_
    replace H := H.2.2.2
    refine AtE.run 4 (fun W => by kernel_rfl) ?_
    refine AtE.norm (k' := [.inRegion (regOps [.code (sub (Eng.body Try.f21) [1, 1, 1, 1, 1, 1, 1, 0])]) [1], .code (sub (Eng.body Try.f21) [1, 1, 1, 1, 1, 1, 1, 1])]) (e' := [(0, .pointer (some ⟨B6, 0, none⟩)), (97, .pointer (some ⟨B6, 0, none⟩))]) (L' := [(B6, .cells #[.bool m01, .int .i64 m11, .slice (some ⟨B7, 0, none⟩) m21_l m21_c, .slice (some ⟨B8, 0, none⟩) m31_l m31_c, .slice (some ⟨B9, 0, none⟩) m41_l m41_c] 54), (B7, .cells ⟨cs4⟩ 5), (B8, .cells ⟨(over (cs5) 0 (((cs4).drop 0).take (min m21_l m31_l)))⟩ 5), (B9, .cells ⟨cs6⟩ 56), (B10, .cells ⟨cs7⟩ 4)]) ?_ (by kernel_rfl)
    refine AtE.inl 28 ⟨[.pointer (some ⟨B6, 0, none⟩)]⟩ (fun W => by kernel_rfl) (by kernel_rfl) (fun W hm => AtE.calls (nt := 14) Try.func28 (by kernel_rfl) hm ?_)
    refine AtE.run 5 (fun W => by kernel_rfl) ?_
    refine AtE.load 0 4 (T := 52) (v := .slice (some ⟨B9, 0, none⟩) m41_l m41_c) (by kernel_rfl) ?_
    refine AtE.clearO 3 (T := 52) (E := 56) (o := 0) (n := m41_l) (cap := m41_c) (z := .agg #[.int .i64 (0 : Int), .string (⟨#[]⟩)]) (sz := 2) (bytes := 24) (c := cs6) (by kernel_rfl) (by kernel_rfl) H.1 ?_
    replace H := H.2
    refine AtE.run 6 (fun W => by kernel_rfl) ?_
    refine AtE.load 0 4 (T := 52) (v := .slice (some ⟨B9, 0, none⟩) m41_l m41_c) (by kernel_rfl) ?_
    refine AtE.sliceL (E := 56) (b := B9) (o := 0) (len := m41_l) (cap := m41_c) (sz := 2) (o' := 0) (l' := (Int.toNat (0 : Int))) (c' := m41_c) (lo := none) (hi := some (.int .i64 (0 : Int))) (x := (0 : Int)) (y := (0 : Int)) (by kernel_rfl) (.inr ⟨rfl, rfl⟩) (.inl ⟨.i64, rfl⟩) H.1 (by simp) (by simp) (by simp) ?_
    replace H := H.2
    refine AtE.run 2 (fun W => by kernel_rfl) ?_
    refine AtE.store 0 4 (T := 52) (v := .slice (some ⟨B9, 0, none⟩) (Int.toNat (0 : Int)) m41_c) (by kernel_rfl) ?_
    refine AtE.run 1 (fun W => by kernel_rfl) ?_
    refine AtE.retK (v := .tuple #[]) Try.func28 (by kernel_rfl) ?_
    refine AtE.run 6 (fun W => by kernel_rfl) ?_
    refine AtE.norm (k' := [.inRegion (regOps [.code (sub (Eng.body Try.f21) [1, 1, 1, 1, 1, 1, 1, 1, 0])]) [3], .code (sub (Eng.body Try.f21) [1, 1, 1, 1, 1, 1, 1, 1, 1])]) (e' := [(101, .pointer (some ⟨B6, 0, none⟩))]) (L' := [(B6, .cells #[.bool m01, .int .i64 m11, .slice (some ⟨B7, 0, none⟩) m21_l m21_c, .slice (some ⟨B8, 0, none⟩) m31_l m31_c, .slice (some ⟨B9, 0, none⟩) (Int.toNat (0 : Int)) m41_c] 54), (B7, .cells ⟨cs4⟩ 5), (B8, .cells ⟨(over (cs5) 0 (((cs4).drop 0).take (min m21_l m31_l)))⟩ 5), (B9, .cells ⟨(over (cs6) 0 (noughtL #[.int .i64 (0 : Int), .string (⟨#[]⟩)] m41_l))⟩ 56), (B10, .cells ⟨cs7⟩ 4)]) ?_ (by kernel_rfl)
    refine AtE.inl 24 ⟨[.pointer (some ⟨B6, 0, none⟩)]⟩ (fun W => by kernel_rfl) (by kernel_rfl) (fun W hm => AtE.calls (nt := 8) Try.func24 (by kernel_rfl) hm ?_)
    refine AtE.run 5 (fun W => by kernel_rfl) ?_
    refine AtE.store 0 0 (T := 4) (v := .bool true) (by kernel_rfl) ?_
    refine AtE.run 2 (fun W => by kernel_rfl) ?_
    refine AtE.store 0 1 (T := 3) (v := .int .i64 (0 : Int)) (by kernel_rfl) ?_
    refine AtE.run 1 (fun W => by kernel_rfl) ?_
    refine AtE.retK (v := .tuple #[]) Try.func24 (by kernel_rfl) ?_
    refine AtE.run 5 (fun W => by kernel_rfl) ?_
    exact AtE.ret Try.func21 (by kernel_rfl) H

theorem CrashR_vc (D : Nat) (on : Bool) (cut : Int) (DB : Nat) (n : Nat) (VB : Nat) (dur : List Value) (vis : List Value) (PB : Nat) (pl : Nat) (pc : Nat) (pd : List Value) (keep_p : Option Addr) (keep_l : Nat) (keep_c : Nat) (torn : Int) {R : Ending → World → Prop} {S : List Nat} {w0 W : World} (hm : Mem [(D, .cells #[.bool on, .int .i64 cut, .slice (some ⟨DB, 0, none⟩) n n, .slice (some ⟨VB, 0, none⟩) n n, .slice (some ⟨PB, 0, none⟩) pl pc] 54), (DB, .cells ⟨dur⟩ 5), (VB, .cells ⟨vis⟩ 5), (PB, .cells ⟨pd⟩ 56)] S w0 W)
    (H :
      ∀ t2 : Int, t2 = (n : Int) →
      ((t2 = (0 : Int)) →
        Fin R [(D, .cells #[.bool on, .int .i64 cut, .slice (some ⟨DB, 0, none⟩) n n, .slice (some ⟨VB, 0, none⟩) n n, .slice (some ⟨PB, 0, none⟩) pl pc] 54), (DB, .cells ⟨dur⟩ 5), (VB, .cells ⟨vis⟩ 5), (PB, .cells ⟨pd⟩ 56)] S w0 (.int .i64 (1 : Int))) ∧
       ((¬ (t2 = (0 : Int))) →
        (0 ≤ (pl : Int) ∧ (pl : Int) ≤ (pl : Int) ∧ 1 * (pl : Int) ≤ 281474976710656 ∧ (pl : Int) ≤ 9223372036854775807) ∧
        ∀ B : Nat,
        CrashR_c0 D DB VB PB B torn (Int.toNat (pl : Int)) (Int.toNat (pl : Int)) (-1 : Int) keep_p keep_l keep_c (keep_l : Int) (0 : Int) on cut n n n n pl pc dur vis pd (List.replicate (Int.toNat (pl : Int)) (.bool false)) S w0 R)) :
    Calls Try.prog 21 ⟨[.pointer (some ⟨D, 0, none⟩), .slice keep_p keep_l keep_c, .int .i64 torn]⟩ W R := by
  refine AtE.calls (nt := 103) Try.func21 (by kernel_rfl) hm ?_
  refine AtE.run 8 (fun W => by kernel_rfl) ?_
  refine AtE.inl 15 ⟨[.pointer (some ⟨D, 0, none⟩)]⟩ (fun W => by kernel_rfl) (by kernel_rfl) (fun W hm => AtE.calls (nt := 10) Try.func15 (by kernel_rfl) hm ?_)
  refine AtE.run 17 (fun W => by kernel_rfl) ?_
  refine AtE.load 0 2 (T := 40) (v := .slice (some ⟨DB, 0, none⟩) n n) (by kernel_rfl) ?_
  refine AtE.run 2 (fun W => by kernel_rfl) ?_
  refine AtE.letI 2 (kd := .i64) (n := (n : Int)) (by kernel_rfl) (fun t2 ht2 => ?_)
  replace H := H t2 ht2
  refine AtE.run 1 (fun W => by kernel_rfl) ?_
  refine AtE.retK (v := (.int .i64 t2)) Try.func15 (by kernel_rfl) ?_
  refine AtE.run 2 (fun W => by kernel_rfl) ?_
  refine AtE.splitP 15 (p := t2 = (0 : Int)) (by kernel_rfl) (fun h1' => ?_) (fun h1' => ?_)
  · replace H := H.1 h1'
    refine AtE.run 5 (fun W => by kernel_rfl) ?_
    exact AtE.ret Try.func21 (by kernel_rfl) H
  · replace H := H.2 h1'
    refine AtE.run 7 (fun W => by kernel_rfl) ?_
    refine AtE.load 0 4 (T := 52) (v := .slice (some ⟨PB, 0, none⟩) pl pc) (by kernel_rfl) ?_
    refine AtE.run 1 (fun W => by kernel_rfl) ?_
    refine AtE.make (E := 4) (kl := .i64) (kc := .i64) (n := (pl : Int)) (m := (pl : Int)) (z := .bool false) (bytes := 1) (by kernel_rfl) H.1 (fun B => ?_)
    replace H := H.2 B
    refine AtE.norm (k' := [.inRegion (regOps [.code (sub (Eng.body Try.f21) [1, 1, 0])]) [6], .code (sub (Eng.body Try.f21) [1, 1, 1])]) (e' := [(0, .pointer (some ⟨D, 0, none⟩)), (1, .slice keep_p keep_l keep_c), (2, .int .i64 torn), (21, .slice (some ⟨B, 0, none⟩) (Int.toNat (pl : Int)) (Int.toNat (pl : Int)))]) (L' := [(D, .cells #[.bool on, .int .i64 cut, .slice (some ⟨DB, 0, none⟩) n n, .slice (some ⟨VB, 0, none⟩) n n, .slice (some ⟨PB, 0, none⟩) pl pc] 54), (DB, .cells ⟨dur⟩ 5), (VB, .cells ⟨vis⟩ 5), (PB, .cells ⟨pd⟩ 56), (B, .cells ⟨(List.replicate (Int.toNat (pl : Int)) (.bool false))⟩ 4)]) ?_ (by kernel_rfl)
    refine AtE.run 15 (fun W => by kernel_rfl) ?_
    exact AtE.cut [0, 1, 2, 3, 4] H (by kernel_rfl)

end Go.Eng
