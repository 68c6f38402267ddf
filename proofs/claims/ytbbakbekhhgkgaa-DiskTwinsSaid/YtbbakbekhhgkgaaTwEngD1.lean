/- Verification conditions of the functions, written by a program of the prover, checked here. -/
import Derived.Test.YtbbakbekhhgkgaaTwEngInl

import Derived.Test.YtbbakbekhhgkgaaTwEngFreeRules

import Derived.Test.YtbbakbekhhgkgaaChecked

namespace Go.Eng

open Go Go.RowKit Go.Proofs

set_option linter.unusedVariables false

set_option maxRecDepth 100000

theorem SizeN_vc (D : Nat) (on : Bool) (cut : Int) (DB : Nat) (n : Nat) (VB : Nat) (dur : List Value) (vis : List Value) {R : Ending → World → Prop} {S : List Nat} {w0 W : World} (hm : Mem [(D, .cells #[.bool on, .int .i64 cut, .slice (some ⟨DB, 0, none⟩) n n, .slice (some ⟨VB, 0, none⟩) n n, .slice none 0 0] 54), (DB, .cells ⟨dur⟩ 5), (VB, .cells ⟨vis⟩ 5)] S w0 W)
    (H :
      ∀ t2 : Int, t2 = (n : Int) →
      Fin R [(D, .cells #[.bool on, .int .i64 cut, .slice (some ⟨DB, 0, none⟩) n n, .slice (some ⟨VB, 0, none⟩) n n, .slice none 0 0] 54), (DB, .cells ⟨dur⟩ 5), (VB, .cells ⟨vis⟩ 5)] S w0 (.int .i64 t2)) :
    Calls Try.prog 15 ⟨[.pointer (some ⟨D, 0, none⟩)]⟩ W R := by
  refine AtE.calls (nt := 10) Try.func15 (by kernel_rfl) hm ?_
  refine AtE.run 17 (fun W => by kernel_rfl) ?_
  refine AtE.load 0 2 (T := 40) (v := .slice (some ⟨DB, 0, none⟩) n n) (by kernel_rfl) ?_
  refine AtE.run 2 (fun W => by kernel_rfl) ?_
  refine AtE.letI 2 (kd := .i64) (n := (n : Int)) (by kernel_rfl) (fun t2 ht2 => ?_)
  replace H := H t2 ht2
  refine AtE.run 1 (fun W => by kernel_rfl) ?_
  exact AtE.ret Try.func15 (by kernel_rfl) H

theorem SizeR_vc (D : Nat) (on : Bool) (cut : Int) (DB : Nat) (n : Nat) (VB : Nat) (dur : List Value) (vis : List Value) (PB : Nat) (pl : Nat) (pc : Nat) (pd : List Value) {R : Ending → World → Prop} {S : List Nat} {w0 W : World} (hm : Mem [(D, .cells #[.bool on, .int .i64 cut, .slice (some ⟨DB, 0, none⟩) n n, .slice (some ⟨VB, 0, none⟩) n n, .slice (some ⟨PB, 0, none⟩) pl pc] 54), (DB, .cells ⟨dur⟩ 5), (VB, .cells ⟨vis⟩ 5), (PB, .cells ⟨pd⟩ 56)] S w0 W)
    (H :
      ∀ t2 : Int, t2 = (n : Int) →
      Fin R [(D, .cells #[.bool on, .int .i64 cut, .slice (some ⟨DB, 0, none⟩) n n, .slice (some ⟨VB, 0, none⟩) n n, .slice (some ⟨PB, 0, none⟩) pl pc] 54), (DB, .cells ⟨dur⟩ 5), (VB, .cells ⟨vis⟩ 5), (PB, .cells ⟨pd⟩ 56)] S w0 (.int .i64 t2)) :
    Calls Try.prog 15 ⟨[.pointer (some ⟨D, 0, none⟩)]⟩ W R := by
  refine AtE.calls (nt := 10) Try.func15 (by kernel_rfl) hm ?_
  refine AtE.run 17 (fun W => by kernel_rfl) ?_
  refine AtE.load 0 2 (T := 40) (v := .slice (some ⟨DB, 0, none⟩) n n) (by kernel_rfl) ?_
  refine AtE.run 2 (fun W => by kernel_rfl) ?_
  refine AtE.letI 2 (kd := .i64) (n := (n : Int)) (by kernel_rfl) (fun t2 ht2 => ?_)
  replace H := H t2 ht2
  refine AtE.run 1 (fun W => by kernel_rfl) ?_
  exact AtE.ret Try.func15 (by kernel_rfl) H

theorem PendingN_vc (D : Nat) (on : Bool) (cut : Int) (DB : Nat) (n : Nat) (VB : Nat) (dur : List Value) (vis : List Value) {R : Ending → World → Prop} {S : List Nat} {w0 W : World} (hm : Mem [(D, .cells #[.bool on, .int .i64 cut, .slice (some ⟨DB, 0, none⟩) n n, .slice (some ⟨VB, 0, none⟩) n n, .slice none 0 0] 54), (DB, .cells ⟨dur⟩ 5), (VB, .cells ⟨vis⟩ 5)] S w0 W)
    (H :
      Fin R [(D, .cells #[.bool on, .int .i64 cut, .slice (some ⟨DB, 0, none⟩) n n, .slice (some ⟨VB, 0, none⟩) n n, .slice none 0 0] 54), (DB, .cells ⟨dur⟩ 5), (VB, .cells ⟨vis⟩ 5)] S w0 (.int .i64 (0 : Int))) :
    Calls Try.prog 16 ⟨[.pointer (some ⟨D, 0, none⟩)]⟩ W R := by
  refine AtE.calls (nt := 10) Try.func16 (by kernel_rfl) hm ?_
  refine AtE.run 17 (fun W => by kernel_rfl) ?_
  refine AtE.load 0 4 (T := 52) (v := .slice none 0 0) (by kernel_rfl) ?_
  refine AtE.run 3 (fun W => by kernel_rfl) ?_
  exact AtE.ret Try.func16 (by kernel_rfl) H

theorem PendingR_vc (D : Nat) (on : Bool) (cut : Int) (DB : Nat) (n : Nat) (VB : Nat) (dur : List Value) (vis : List Value) (PB : Nat) (pl : Nat) (pc : Nat) (pd : List Value) {R : Ending → World → Prop} {S : List Nat} {w0 W : World} (hm : Mem [(D, .cells #[.bool on, .int .i64 cut, .slice (some ⟨DB, 0, none⟩) n n, .slice (some ⟨VB, 0, none⟩) n n, .slice (some ⟨PB, 0, none⟩) pl pc] 54), (DB, .cells ⟨dur⟩ 5), (VB, .cells ⟨vis⟩ 5), (PB, .cells ⟨pd⟩ 56)] S w0 W)
    (H :
      ∀ t2 : Int, t2 = (pl : Int) →
      Fin R [(D, .cells #[.bool on, .int .i64 cut, .slice (some ⟨DB, 0, none⟩) n n, .slice (some ⟨VB, 0, none⟩) n n, .slice (some ⟨PB, 0, none⟩) pl pc] 54), (DB, .cells ⟨dur⟩ 5), (VB, .cells ⟨vis⟩ 5), (PB, .cells ⟨pd⟩ 56)] S w0 (.int .i64 t2)) :
    Calls Try.prog 16 ⟨[.pointer (some ⟨D, 0, none⟩)]⟩ W R := by
  refine AtE.calls (nt := 10) Try.func16 (by kernel_rfl) hm ?_
  refine AtE.run 17 (fun W => by kernel_rfl) ?_
  refine AtE.load 0 4 (T := 52) (v := .slice (some ⟨PB, 0, none⟩) pl pc) (by kernel_rfl) ?_
  refine AtE.run 2 (fun W => by kernel_rfl) ?_
  refine AtE.letI 2 (kd := .i64) (n := (pl : Int)) (by kernel_rfl) (fun t2 ht2 => ?_)
  replace H := H t2 ht2
  refine AtE.run 1 (fun W => by kernel_rfl) ?_
  exact AtE.ret Try.func16 (by kernel_rfl) H

theorem ReadN_vc (D : Nat) (on : Bool) (cut : Int) (DB : Nat) (n : Nat) (VB : Nat) (dur : List Value) (vis : List Value) (off : Int) (n1 : Int) {R : Ending → World → Prop} {S : List Nat} {w0 W : World} (hm : Mem [(D, .cells #[.bool on, .int .i64 cut, .slice (some ⟨DB, 0, none⟩) n n, .slice (some ⟨VB, 0, none⟩) n n, .slice none 0 0] 54), (DB, .cells ⟨dur⟩ 5), (VB, .cells ⟨vis⟩ 5)] S w0 W)
    (H :
      ∀ t2 : Int, t2 = (n : Int) →
      ((t2 = (0 : Int)) →
        Fin R [(D, .cells #[.bool on, .int .i64 cut, .slice (some ⟨DB, 0, none⟩) n n, .slice (some ⟨VB, 0, none⟩) n n, .slice none 0 0] 54), (DB, .cells ⟨dur⟩ 5), (VB, .cells ⟨vis⟩ 5)] S w0 (.tuple #[.string (⟨#[]⟩), .int .i64 (1 : Int)])) ∧
       ((¬ (t2 = (0 : Int))) →
        ((on = true) →
          (((0 : Int) ≤ off) →
            (((0 : Int) ≤ n1) →
              ∀ t21 : Int, t21 = (n : Int) →
              ((n1 ≤ t21) →
                ∀ t22 : Int, t22 = (n : Int) →
                ((¬ (off ≤ (IntKind.i64.wrap (t22 - n1)))) →
                  Fin R [(D, .cells #[.bool on, .int .i64 cut, .slice (some ⟨DB, 0, none⟩) n n, .slice (some ⟨VB, 0, none⟩) n n, .slice none 0 0] 54), (DB, .cells ⟨dur⟩ 5), (VB, .cells ⟨vis⟩ 5)] S w0 (.tuple #[.string (⟨#[]⟩), .int .i64 (230 : Int)])) ∧
                 ((off ≤ (IntKind.i64.wrap (t22 - n1))) →
                  (0 ≤ off ∧ off ≤ (IntKind.i64.wrap (off + n1)) ∧ (IntKind.i64.wrap (off + n1)) ≤ (n : Int)) ∧
                  ∀ o : Nat, o = (if (Int.toNat off) = n then 0 else 0 + (Int.toNat off) * 1) →
                  ∃ bs : List UInt8, (((vis).drop o).take ((Int.toNat (IntKind.i64.wrap (off + n1))) - (Int.toNat off)) = bytesL bs ∧ bs.length = ((Int.toNat (IntKind.i64.wrap (off + n1))) - (Int.toNat off))) ∧
                  ∀ t6 : ByteArray, t6 = ⟨bs.toArray⟩ →
                  Fin R [(D, .cells #[.bool on, .int .i64 cut, .slice (some ⟨DB, 0, none⟩) n n, .slice (some ⟨VB, 0, none⟩) n n, .slice none 0 0] 54), (DB, .cells ⟨dur⟩ 5), (VB, .cells ⟨vis⟩ 5)] S w0 (.tuple #[.string t6, .int .i64 (0 : Int)]))) ∧
               ((¬ (n1 ≤ t21)) →
                Fin R [(D, .cells #[.bool on, .int .i64 cut, .slice (some ⟨DB, 0, none⟩) n n, .slice (some ⟨VB, 0, none⟩) n n, .slice none 0 0] 54), (DB, .cells ⟨dur⟩ 5), (VB, .cells ⟨vis⟩ 5)] S w0 (.tuple #[.string (⟨#[]⟩), .int .i64 (230 : Int)]))) ∧
             ((¬ ((0 : Int) ≤ n1)) →
              Fin R [(D, .cells #[.bool on, .int .i64 cut, .slice (some ⟨DB, 0, none⟩) n n, .slice (some ⟨VB, 0, none⟩) n n, .slice none 0 0] 54), (DB, .cells ⟨dur⟩ 5), (VB, .cells ⟨vis⟩ 5)] S w0 (.tuple #[.string (⟨#[]⟩), .int .i64 (230 : Int)]))) ∧
           ((¬ ((0 : Int) ≤ off)) →
            Fin R [(D, .cells #[.bool on, .int .i64 cut, .slice (some ⟨DB, 0, none⟩) n n, .slice (some ⟨VB, 0, none⟩) n n, .slice none 0 0] 54), (DB, .cells ⟨dur⟩ 5), (VB, .cells ⟨vis⟩ 5)] S w0 (.tuple #[.string (⟨#[]⟩), .int .i64 (230 : Int)]))) ∧
         ((on = false) →
          Fin R [(D, .cells #[.bool on, .int .i64 cut, .slice (some ⟨DB, 0, none⟩) n n, .slice (some ⟨VB, 0, none⟩) n n, .slice none 0 0] 54), (DB, .cells ⟨dur⟩ 5), (VB, .cells ⟨vis⟩ 5)] S w0 (.tuple #[.string (⟨#[]⟩), .int .i64 (231 : Int)])))) :
    Calls Try.prog 13 ⟨[.pointer (some ⟨D, 0, none⟩), .int .i64 off, .int .i64 n1]⟩ W R := by
  refine AtE.calls (nt := 29) Try.func13 (by kernel_rfl) hm ?_
  refine AtE.run 9 (fun W => by kernel_rfl) ?_
  refine AtE.inl 25 ⟨[.pointer (some ⟨D, 0, none⟩)]⟩ (fun W => by kernel_rfl) (by kernel_rfl) (fun W hm => AtE.calls (nt := 12) Try.func25 (by kernel_rfl) hm ?_)
  refine AtE.run 8 (fun W => by kernel_rfl) ?_
  refine AtE.norm (k' := [.inRegion (regOps [.code (sub (Eng.body Try.f25) [1, 0, 0])]) [1, 2], .code (sub (Eng.body Try.f25) [1, 0, 1]), .code (sub (Eng.body Try.f25) [1, 1])]) (e' := [(0, .pointer (some ⟨D, 0, none⟩)), (3, .pointer (some ⟨D, 0, none⟩))]) (L' := [(D, .cells #[.bool on, .int .i64 cut, .slice (some ⟨DB, 0, none⟩) n n, .slice (some ⟨VB, 0, none⟩) n n, .slice none 0 0] 54), (DB, .cells ⟨dur⟩ 5), (VB, .cells ⟨vis⟩ 5)]) ?_ (by kernel_rfl)
  refine AtE.inl 15 ⟨[.pointer (some ⟨D, 0, none⟩)]⟩ (fun W => by kernel_rfl) (by kernel_rfl) (fun W hm => AtE.calls (nt := 10) Try.func15 (by kernel_rfl) hm ?_)
  refine AtE.run 17 (fun W => by kernel_rfl) ?_
  refine AtE.load 0 2 (T := 40) (v := .slice (some ⟨DB, 0, none⟩) n n) (by kernel_rfl) ?_
  refine AtE.run 2 (fun W => by kernel_rfl) ?_
  refine AtE.letI 2 (kd := .i64) (n := (n : Int)) (by kernel_rfl) (fun t2 ht2 => ?_)
  replace H := H t2 ht2
  refine AtE.run 1 (fun W => by kernel_rfl) ?_
  refine AtE.retK (v := (.int .i64 t2)) Try.func15 (by kernel_rfl) ?_
  refine AtE.run 2 (fun W => by kernel_rfl) ?_
  refine AtE.splitP 5 (p := t2 = (0 : Int)) (by kernel_rfl) (fun h1' => ?_) (fun h1' => ?_)
  · replace H := H.1 h1'
    refine AtE.run 5 (fun W => by kernel_rfl) ?_
    refine AtE.retK (v := (.int .i64 (1 : Int))) Try.func25 (by kernel_rfl) ?_
    refine AtE.run 14 (fun W => by kernel_rfl) ?_
    exact AtE.ret Try.func13 (by kernel_rfl) H
  · replace H := H.2 h1'
    refine AtE.run 9 (fun W => by kernel_rfl) ?_
    refine AtE.load 0 0 (T := 4) (v := .bool on) (by kernel_rfl) ?_
    refine AtE.split 10 (b := on) (by kernel_rfl) (fun h2' => ?_) (fun h2' => ?_)
    · replace H := H.1 h2'
      refine AtE.run 8 (fun W => by kernel_rfl) ?_
      refine AtE.retK (v := (.int .i64 (0 : Int))) Try.func25 (by kernel_rfl) ?_
      refine AtE.norm (k' := [.inRegion (regOps [.code (sub (Eng.body Try.f13) [1, 0, 0])]) [2], .code (sub (Eng.body Try.f13) [1, 0, 1]), .code (sub (Eng.body Try.f13) [1, 1])]) (e' := [(0, .pointer (some ⟨D, 0, none⟩)), (1, .int .i64 off), (2, .int .i64 n1), (10, .int .i64 (0 : Int))]) (L' := [(D, .cells #[.bool on, .int .i64 cut, .slice (some ⟨DB, 0, none⟩) n n, .slice (some ⟨VB, 0, none⟩) n n, .slice none 0 0] 54), (DB, .cells ⟨dur⟩ 5), (VB, .cells ⟨vis⟩ 5)]) ?_ (by kernel_rfl)
      refine AtE.run 15 (fun W => by kernel_rfl) ?_
      refine AtE.inl 26 ⟨[.pointer (some ⟨D, 0, none⟩), .int .i64 off, .int .i64 n1]⟩ (fun W => by kernel_rfl) (by kernel_rfl) (fun W hm => AtE.calls (nt := 27) Try.func26 (by kernel_rfl) hm ?_)
      refine AtE.run 9 (fun W => by kernel_rfl) ?_
      refine AtE.splitP 9 (p := (0 : Int) ≤ off) (by kernel_rfl) (fun h3' => ?_) (fun h3' => ?_)
      · replace H := H.1 h3'
        refine AtE.run 4 (fun W => by kernel_rfl) ?_
        refine AtE.splitP 13 (p := (0 : Int) ≤ n1) (by kernel_rfl) (fun h4' => ?_) (fun h4' => ?_)
        · replace H := H.1 h4'
          refine AtE.run 2 (fun W => by kernel_rfl) ?_
          refine AtE.norm (k' := [.inRegion (regOps [.code (sub (Eng.body Try.f26) [1, 0])]) [9, 10, 11, 12, 13, 14, 15, 16, 17, 18, 19, 20], .code (sub (Eng.body Try.f26) [1, 1])]) (e' := [(0, .pointer (some ⟨D, 0, none⟩)), (1, .int .i64 off), (2, .int .i64 n1), (13, .bool true), (14, .int .i64 n1), (15, .pointer (some ⟨D, 0, none⟩))]) (L' := [(D, .cells #[.bool on, .int .i64 cut, .slice (some ⟨DB, 0, none⟩) n n, .slice (some ⟨VB, 0, none⟩) n n, .slice none 0 0] 54), (DB, .cells ⟨dur⟩ 5), (VB, .cells ⟨vis⟩ 5)]) ?_ (by kernel_rfl)
          refine AtE.inl 15 ⟨[.pointer (some ⟨D, 0, none⟩)]⟩ (fun W => by kernel_rfl) (by kernel_rfl) (fun W hm => AtE.calls (nt := 10) Try.func15 (by kernel_rfl) hm ?_)
          refine AtE.run 17 (fun W => by kernel_rfl) ?_
          refine AtE.load 0 2 (T := 40) (v := .slice (some ⟨DB, 0, none⟩) n n) (by kernel_rfl) ?_
          refine AtE.run 2 (fun W => by kernel_rfl) ?_
          refine AtE.letI 2 (kd := .i64) (n := (n : Int)) (by kernel_rfl) (fun t21 ht21 => ?_)
          replace H := H t21 ht21
          refine AtE.run 1 (fun W => by kernel_rfl) ?_
          refine AtE.retK (v := (.int .i64 t21)) Try.func15 (by kernel_rfl) ?_
          refine AtE.run 3 (fun W => by kernel_rfl) ?_
          refine AtE.splitP 19 (p := n1 ≤ t21) (by kernel_rfl) (fun h5' => ?_) (fun h5' => ?_)
          · replace H := H.1 h5'
            refine AtE.run 2 (fun W => by kernel_rfl) ?_
            refine AtE.norm (k' := [.inRegion (regOps [.code (sub (Eng.body Try.f26) [1, 0])]) [15, 16, 17, 18, 19, 20], .code (sub (Eng.body Try.f26) [1, 1])]) (e' := [(2, .int .i64 n1), (19, .bool true), (20, .int .i64 off), (21, .pointer (some ⟨D, 0, none⟩))]) (L' := [(D, .cells #[.bool on, .int .i64 cut, .slice (some ⟨DB, 0, none⟩) n n, .slice (some ⟨VB, 0, none⟩) n n, .slice none 0 0] 54), (DB, .cells ⟨dur⟩ 5), (VB, .cells ⟨vis⟩ 5)]) ?_ (by kernel_rfl)
            refine AtE.inl 15 ⟨[.pointer (some ⟨D, 0, none⟩)]⟩ (fun W => by kernel_rfl) (by kernel_rfl) (fun W hm => AtE.calls (nt := 10) Try.func15 (by kernel_rfl) hm ?_)
            refine AtE.run 17 (fun W => by kernel_rfl) ?_
            refine AtE.load 0 2 (T := 40) (v := .slice (some ⟨DB, 0, none⟩) n n) (by kernel_rfl) ?_
            refine AtE.run 2 (fun W => by kernel_rfl) ?_
            refine AtE.letI 2 (kd := .i64) (n := (n : Int)) (by kernel_rfl) (fun t22 ht22 => ?_)
            replace H := H t22 ht22
            refine AtE.run 1 (fun W => by kernel_rfl) ?_
            refine AtE.retK (v := (.int .i64 t22)) Try.func15 (by kernel_rfl) ?_
            refine AtE.run 6 (fun W => by kernel_rfl) ?_
            refine AtE.retK (v := (.bool (decide (off ≤ (IntKind.i64.wrap (t22 - n1)))))) Try.func26 (by kernel_rfl) ?_
            refine AtE.run 2 (fun W => by kernel_rfl) ?_
            refine AtE.splitN 18 (p := off ≤ (IntKind.i64.wrap (t22 - n1))) (by kernel_rfl) (fun h6' => ?_) (fun h6' => ?_)
            · replace H := H.1 h6'
              refine AtE.run 6 (fun W => by kernel_rfl) ?_
              exact AtE.ret Try.func13 (by kernel_rfl) H
            · replace H := H.2 h6'
              refine AtE.run 7 (fun W => by kernel_rfl) ?_
              refine AtE.load 0 3 (T := 40) (v := .slice (some ⟨VB, 0, none⟩) n n) (by kernel_rfl) ?_
              refine AtE.run 4 (fun W => by kernel_rfl) ?_
              obtain ⟨o, ho⟩ : ∃ x : Nat, x = (if (Int.toNat off) = n then 0 else 0 + (Int.toNat off) * 1) := ⟨_, rfl⟩
              refine AtE.sliceL (E := 5) (b := VB) (o := 0) (len := n) (cap := n) (sz := 1) (o' := o) (l' := ((Int.toNat (IntKind.i64.wrap (off + n1))) - (Int.toNat off))) (c' := (n - (Int.toNat off))) (lo := some (.int .i64 off)) (hi := some (.int .i64 (IntKind.i64.wrap (off + n1)))) (x := off) (y := (IntKind.i64.wrap (off + n1))) (by kernel_rfl) (.inl ⟨.i64, rfl⟩) (.inl ⟨.i64, rfl⟩) H.1 ho rfl rfl ?_
              replace H := H.2 o ho
              refine AtE.norm (k' := [.inRegion (regOps [.code (sub (Eng.body Try.f13) [1, 1, 1, 0])]) [9, 10, 11], .code (sub (Eng.body Try.f13) [1, 1, 1, 1])]) (e' := [(27, .slice (some ⟨VB, o, none⟩) ((Int.toNat (IntKind.i64.wrap (off + n1))) - (Int.toNat off)) (n - (Int.toNat off)))]) (L' := [(D, .cells #[.bool on, .int .i64 cut, .slice (some ⟨DB, 0, none⟩) n n, .slice (some ⟨VB, 0, none⟩) n n, .slice none 0 0] 54), (DB, .cells ⟨dur⟩ 5), (VB, .cells ⟨vis⟩ 5)]) ?_ (by kernel_rfl)
              obtain ⟨bs, hb, H⟩ := H
              refine AtE.toString 2 (E := 5) (o := o) (len := ((Int.toNat (IntKind.i64.wrap (off + n1))) - (Int.toNat off))) (cap := (n - (Int.toNat off))) (c := vis) (l := bs) (by kernel_rfl) hb ?_
              refine AtE.run 1 (fun W => by kernel_rfl) ?_
              refine AtE.letS 6 (n := ⟨bs.toArray⟩) (by kernel_rfl) (fun t6 ht6 => ?_)
              replace H := H t6 ht6
              refine AtE.run 2 (fun W => by kernel_rfl) ?_
              exact AtE.ret Try.func13 (by kernel_rfl) H
          · replace H := H.2 h5'
            refine AtE.run 9 (fun W => by kernel_rfl) ?_
            refine AtE.retK (v := (.bool false)) Try.func26 (by kernel_rfl) ?_
            refine AtE.run 8 (fun W => by kernel_rfl) ?_
            exact AtE.ret Try.func13 (by kernel_rfl) H
        · replace H := H.2 h4'
          refine AtE.run 15 (fun W => by kernel_rfl) ?_
          refine AtE.retK (v := (.bool false)) Try.func26 (by kernel_rfl) ?_
          refine AtE.run 8 (fun W => by kernel_rfl) ?_
          exact AtE.ret Try.func13 (by kernel_rfl) H
      · replace H := H.2 h3'
        refine AtE.run 19 (fun W => by kernel_rfl) ?_
        refine AtE.retK (v := (.bool false)) Try.func26 (by kernel_rfl) ?_
        refine AtE.run 8 (fun W => by kernel_rfl) ?_
        exact AtE.ret Try.func13 (by kernel_rfl) H
    · replace H := H.2 h2'
      refine AtE.run 7 (fun W => by kernel_rfl) ?_
      refine AtE.retK (v := (.int .i64 (231 : Int))) Try.func25 (by kernel_rfl) ?_
      refine AtE.norm (k' := [.inRegion (regOps [.code (sub (Eng.body Try.f13) [1, 0, 0])]) [2], .code (sub (Eng.body Try.f13) [1, 0, 1]), .code (sub (Eng.body Try.f13) [1, 1])]) (e' := [(0, .pointer (some ⟨D, 0, none⟩)), (1, .int .i64 off), (2, .int .i64 n1), (10, .int .i64 (231 : Int))]) (L' := [(D, .cells #[.bool on, .int .i64 cut, .slice (some ⟨DB, 0, none⟩) n n, .slice (some ⟨VB, 0, none⟩) n n, .slice none 0 0] 54), (DB, .cells ⟨dur⟩ 5), (VB, .cells ⟨vis⟩ 5)]) ?_ (by kernel_rfl)
      refine AtE.run 14 (fun W => by kernel_rfl) ?_
      exact AtE.ret Try.func13 (by kernel_rfl) H

theorem ReadR_vc (D : Nat) (on : Bool) (cut : Int) (DB : Nat) (n : Nat) (VB : Nat) (dur : List Value) (vis : List Value) (PB : Nat) (pl : Nat) (pc : Nat) (pd : List Value) (off : Int) (n1 : Int) {R : Ending → World → Prop} {S : List Nat} {w0 W : World} (hm : Mem [(D, .cells #[.bool on, .int .i64 cut, .slice (some ⟨DB, 0, none⟩) n n, .slice (some ⟨VB, 0, none⟩) n n, .slice (some ⟨PB, 0, none⟩) pl pc] 54), (DB, .cells ⟨dur⟩ 5), (VB, .cells ⟨vis⟩ 5), (PB, .cells ⟨pd⟩ 56)] S w0 W)
    (H :
      ∀ t2 : Int, t2 = (n : Int) →
      ((t2 = (0 : Int)) →
        Fin R [(D, .cells #[.bool on, .int .i64 cut, .slice (some ⟨DB, 0, none⟩) n n, .slice (some ⟨VB, 0, none⟩) n n, .slice (some ⟨PB, 0, none⟩) pl pc] 54), (DB, .cells ⟨dur⟩ 5), (VB, .cells ⟨vis⟩ 5), (PB, .cells ⟨pd⟩ 56)] S w0 (.tuple #[.string (⟨#[]⟩), .int .i64 (1 : Int)])) ∧
       ((¬ (t2 = (0 : Int))) →
        ((on = true) →
          (((0 : Int) ≤ off) →
            (((0 : Int) ≤ n1) →
              ∀ t21 : Int, t21 = (n : Int) →
              ((n1 ≤ t21) →
                ∀ t22 : Int, t22 = (n : Int) →
                ((¬ (off ≤ (IntKind.i64.wrap (t22 - n1)))) →
                  Fin R [(D, .cells #[.bool on, .int .i64 cut, .slice (some ⟨DB, 0, none⟩) n n, .slice (some ⟨VB, 0, none⟩) n n, .slice (some ⟨PB, 0, none⟩) pl pc] 54), (DB, .cells ⟨dur⟩ 5), (VB, .cells ⟨vis⟩ 5), (PB, .cells ⟨pd⟩ 56)] S w0 (.tuple #[.string (⟨#[]⟩), .int .i64 (230 : Int)])) ∧
                 ((off ≤ (IntKind.i64.wrap (t22 - n1))) →
                  (0 ≤ off ∧ off ≤ (IntKind.i64.wrap (off + n1)) ∧ (IntKind.i64.wrap (off + n1)) ≤ (n : Int)) ∧
                  ∀ o : Nat, o = (if (Int.toNat off) = n then 0 else 0 + (Int.toNat off) * 1) →
                  ∃ bs : List UInt8, (((vis).drop o).take ((Int.toNat (IntKind.i64.wrap (off + n1))) - (Int.toNat off)) = bytesL bs ∧ bs.length = ((Int.toNat (IntKind.i64.wrap (off + n1))) - (Int.toNat off))) ∧
                  ∀ t6 : ByteArray, t6 = ⟨bs.toArray⟩ →
                  Fin R [(D, .cells #[.bool on, .int .i64 cut, .slice (some ⟨DB, 0, none⟩) n n, .slice (some ⟨VB, 0, none⟩) n n, .slice (some ⟨PB, 0, none⟩) pl pc] 54), (DB, .cells ⟨dur⟩ 5), (VB, .cells ⟨vis⟩ 5), (PB, .cells ⟨pd⟩ 56)] S w0 (.tuple #[.string t6, .int .i64 (0 : Int)]))) ∧
               ((¬ (n1 ≤ t21)) →
                Fin R [(D, .cells #[.bool on, .int .i64 cut, .slice (some ⟨DB, 0, none⟩) n n, .slice (some ⟨VB, 0, none⟩) n n, .slice (some ⟨PB, 0, none⟩) pl pc] 54), (DB, .cells ⟨dur⟩ 5), (VB, .cells ⟨vis⟩ 5), (PB, .cells ⟨pd⟩ 56)] S w0 (.tuple #[.string (⟨#[]⟩), .int .i64 (230 : Int)]))) ∧
             ((¬ ((0 : Int) ≤ n1)) →
              Fin R [(D, .cells #[.bool on, .int .i64 cut, .slice (some ⟨DB, 0, none⟩) n n, .slice (some ⟨VB, 0, none⟩) n n, .slice (some ⟨PB, 0, none⟩) pl pc] 54), (DB, .cells ⟨dur⟩ 5), (VB, .cells ⟨vis⟩ 5), (PB, .cells ⟨pd⟩ 56)] S w0 (.tuple #[.string (⟨#[]⟩), .int .i64 (230 : Int)]))) ∧
           ((¬ ((0 : Int) ≤ off)) →
            Fin R [(D, .cells #[.bool on, .int .i64 cut, .slice (some ⟨DB, 0, none⟩) n n, .slice (some ⟨VB, 0, none⟩) n n, .slice (some ⟨PB, 0, none⟩) pl pc] 54), (DB, .cells ⟨dur⟩ 5), (VB, .cells ⟨vis⟩ 5), (PB, .cells ⟨pd⟩ 56)] S w0 (.tuple #[.string (⟨#[]⟩), .int .i64 (230 : Int)]))) ∧
         ((on = false) →
          Fin R [(D, .cells #[.bool on, .int .i64 cut, .slice (some ⟨DB, 0, none⟩) n n, .slice (some ⟨VB, 0, none⟩) n n, .slice (some ⟨PB, 0, none⟩) pl pc] 54), (DB, .cells ⟨dur⟩ 5), (VB, .cells ⟨vis⟩ 5), (PB, .cells ⟨pd⟩ 56)] S w0 (.tuple #[.string (⟨#[]⟩), .int .i64 (231 : Int)])))) :
    Calls Try.prog 13 ⟨[.pointer (some ⟨D, 0, none⟩), .int .i64 off, .int .i64 n1]⟩ W R := by
  refine AtE.calls (nt := 29) Try.func13 (by kernel_rfl) hm ?_
  refine AtE.run 9 (fun W => by kernel_rfl) ?_
  refine AtE.inl 25 ⟨[.pointer (some ⟨D, 0, none⟩)]⟩ (fun W => by kernel_rfl) (by kernel_rfl) (fun W hm => AtE.calls (nt := 12) Try.func25 (by kernel_rfl) hm ?_)
  refine AtE.run 8 (fun W => by kernel_rfl) ?_
  refine AtE.norm (k' := [.inRegion (regOps [.code (sub (Eng.body Try.f25) [1, 0, 0])]) [1, 2], .code (sub (Eng.body Try.f25) [1, 0, 1]), .code (sub (Eng.body Try.f25) [1, 1])]) (e' := [(0, .pointer (some ⟨D, 0, none⟩)), (3, .pointer (some ⟨D, 0, none⟩))]) (L' := [(D, .cells #[.bool on, .int .i64 cut, .slice (some ⟨DB, 0, none⟩) n n, .slice (some ⟨VB, 0, none⟩) n n, .slice (some ⟨PB, 0, none⟩) pl pc] 54), (DB, .cells ⟨dur⟩ 5), (VB, .cells ⟨vis⟩ 5), (PB, .cells ⟨pd⟩ 56)]) ?_ (by kernel_rfl)
  refine AtE.inl 15 ⟨[.pointer (some ⟨D, 0, none⟩)]⟩ (fun W => by kernel_rfl) (by kernel_rfl) (fun W hm => AtE.calls (nt := 10) Try.func15 (by kernel_rfl) hm ?_)
  refine AtE.run 17 (fun W => by kernel_rfl) ?_
  refine AtE.load 0 2 (T := 40) (v := .slice (some ⟨DB, 0, none⟩) n n) (by kernel_rfl) ?_
  refine AtE.run 2 (fun W => by kernel_rfl) ?_
  refine AtE.letI 2 (kd := .i64) (n := (n : Int)) (by kernel_rfl) (fun t2 ht2 => ?_)
  replace H := H t2 ht2
  refine AtE.run 1 (fun W => by kernel_rfl) ?_
  refine AtE.retK (v := (.int .i64 t2)) Try.func15 (by kernel_rfl) ?_
  refine AtE.run 2 (fun W => by kernel_rfl) ?_
  refine AtE.splitP 5 (p := t2 = (0 : Int)) (by kernel_rfl) (fun h1' => ?_) (fun h1' => ?_)
  · replace H := H.1 h1'
    refine AtE.run 5 (fun W => by kernel_rfl) ?_
    refine AtE.retK (v := (.int .i64 (1 : Int))) Try.func25 (by kernel_rfl) ?_
    refine AtE.run 14 (fun W => by kernel_rfl) ?_
    exact AtE.ret Try.func13 (by kernel_rfl) H
  · replace H := H.2 h1'
    refine AtE.run 9 (fun W => by kernel_rfl) ?_
    refine AtE.load 0 0 (T := 4) (v := .bool on) (by kernel_rfl) ?_
    refine AtE.split 10 (b := on) (by kernel_rfl) (fun h2' => ?_) (fun h2' => ?_)
    · replace H := H.1 h2'
      refine AtE.run 8 (fun W => by kernel_rfl) ?_
      refine AtE.retK (v := (.int .i64 (0 : Int))) Try.func25 (by kernel_rfl) ?_
      refine AtE.norm (k' := [.inRegion (regOps [.code (sub (Eng.body Try.f13) [1, 0, 0])]) [2], .code (sub (Eng.body Try.f13) [1, 0, 1]), .code (sub (Eng.body Try.f13) [1, 1])]) (e' := [(0, .pointer (some ⟨D, 0, none⟩)), (1, .int .i64 off), (2, .int .i64 n1), (10, .int .i64 (0 : Int))]) (L' := [(D, .cells #[.bool on, .int .i64 cut, .slice (some ⟨DB, 0, none⟩) n n, .slice (some ⟨VB, 0, none⟩) n n, .slice (some ⟨PB, 0, none⟩) pl pc] 54), (DB, .cells ⟨dur⟩ 5), (VB, .cells ⟨vis⟩ 5), (PB, .cells ⟨pd⟩ 56)]) ?_ (by kernel_rfl)
      refine AtE.run 15 (fun W => by kernel_rfl) ?_
      refine AtE.inl 26 ⟨[.pointer (some ⟨D, 0, none⟩), .int .i64 off, .int .i64 n1]⟩ (fun W => by kernel_rfl) (by kernel_rfl) (fun W hm => AtE.calls (nt := 27) Try.func26 (by kernel_rfl) hm ?_)
      refine AtE.run 9 (fun W => by kernel_rfl) ?_
      refine AtE.splitP 9 (p := (0 : Int) ≤ off) (by kernel_rfl) (fun h3' => ?_) (fun h3' => ?_)
      · replace H := H.1 h3'
        refine AtE.run 4 (fun W => by kernel_rfl) ?_
        refine AtE.splitP 13 (p := (0 : Int) ≤ n1) (by kernel_rfl) (fun h4' => ?_) (fun h4' => ?_)
        · replace H := H.1 h4'
          refine AtE.run 2 (fun W => by kernel_rfl) ?_
          refine AtE.norm (k' := [.inRegion (regOps [.code (sub (Eng.body Try.f26) [1, 0])]) [9, 10, 11, 12, 13, 14, 15, 16, 17, 18, 19, 20], .code (sub (Eng.body Try.f26) [1, 1])]) (e' := [(0, .pointer (some ⟨D, 0, none⟩)), (1, .int .i64 off), (2, .int .i64 n1), (13, .bool true), (14, .int .i64 n1), (15, .pointer (some ⟨D, 0, none⟩))]) (L' := [(D, .cells #[.bool on, .int .i64 cut, .slice (some ⟨DB, 0, none⟩) n n, .slice (some ⟨VB, 0, none⟩) n n, .slice (some ⟨PB, 0, none⟩) pl pc] 54), (DB, .cells ⟨dur⟩ 5), (VB, .cells ⟨vis⟩ 5), (PB, .cells ⟨pd⟩ 56)]) ?_ (by kernel_rfl)
          refine AtE.inl 15 ⟨[.pointer (some ⟨D, 0, none⟩)]⟩ (fun W => by kernel_rfl) (by kernel_rfl) (fun W hm => AtE.calls (nt := 10) Try.func15 (by kernel_rfl) hm ?_)
          refine AtE.run 17 (fun W => by kernel_rfl) ?_
          refine AtE.load 0 2 (T := 40) (v := .slice (some ⟨DB, 0, none⟩) n n) (by kernel_rfl) ?_
          refine AtE.run 2 (fun W => by kernel_rfl) ?_
          refine AtE.letI 2 (kd := .i64) (n := (n : Int)) (by kernel_rfl) (fun t21 ht21 => ?_)
          replace H := H t21 ht21
          refine AtE.run 1 (fun W => by kernel_rfl) ?_
          refine AtE.retK (v := (.int .i64 t21)) Try.func15 (by kernel_rfl) ?_
          refine AtE.run 3 (fun W => by kernel_rfl) ?_
          refine AtE.splitP 19 (p := n1 ≤ t21) (by kernel_rfl) (fun h5' => ?_) (fun h5' => ?_)
          · replace H := H.1 h5'
            refine AtE.run 2 (fun W => by kernel_rfl) ?_
            refine AtE.norm (k' := [.inRegion (regOps [.code (sub (Eng.body Try.f26) [1, 0])]) [15, 16, 17, 18, 19, 20], .code (sub (Eng.body Try.f26) [1, 1])]) (e' := [(2, .int .i64 n1), (19, .bool true), (20, .int .i64 off), (21, .pointer (some ⟨D, 0, none⟩))]) (L' := [(D, .cells #[.bool on, .int .i64 cut, .slice (some ⟨DB, 0, none⟩) n n, .slice (some ⟨VB, 0, none⟩) n n, .slice (some ⟨PB, 0, none⟩) pl pc] 54), (DB, .cells ⟨dur⟩ 5), (VB, .cells ⟨vis⟩ 5), (PB, .cells ⟨pd⟩ 56)]) ?_ (by kernel_rfl)
            refine AtE.inl 15 ⟨[.pointer (some ⟨D, 0, none⟩)]⟩ (fun W => by kernel_rfl) (by kernel_rfl) (fun W hm => AtE.calls (nt := 10) Try.func15 (by kernel_rfl) hm ?_)
            refine AtE.run 17 (fun W => by kernel_rfl) ?_
            refine AtE.load 0 2 (T := 40) (v := .slice (some ⟨DB, 0, none⟩) n n) (by kernel_rfl) ?_
            refine AtE.run 2 (fun W => by kernel_rfl) ?_
            refine AtE.letI 2 (kd := .i64) (n := (n : Int)) (by kernel_rfl) (fun t22 ht22 => ?_)
            replace H := H t22 ht22
            refine AtE.run 1 (fun W => by kernel_rfl) ?_
            refine AtE.retK (v := (.int .i64 t22)) Try.func15 (by kernel_rfl) ?_
            refine AtE.run 6 (fun W => by kernel_rfl) ?_
            refine AtE.retK (v := (.bool (decide (off ≤ (IntKind.i64.wrap (t22 - n1)))))) Try.func26 (by kernel_rfl) ?_
            refine AtE.run 2 (fun W => by kernel_rfl) ?_
            refine AtE.splitN 18 (p := off ≤ (IntKind.i64.wrap (t22 - n1))) (by kernel_rfl) (fun h6' => ?_) (fun h6' => ?_)
            · replace H := H.1 h6'
              refine AtE.run 6 (fun W => by kernel_rfl) ?_
              exact AtE.ret Try.func13 (by kernel_rfl) H
            · replace H := H.2 h6'
              refine AtE.run 7 (fun W => by kernel_rfl) ?_
              refine AtE.load 0 3 (T := 40) (v := .slice (some ⟨VB, 0, none⟩) n n) (by kernel_rfl) ?_
              refine AtE.run 4 (fun W => by kernel_rfl) ?_
              obtain ⟨o, ho⟩ : ∃ x : Nat, x = (if (Int.toNat off) = n then 0 else 0 + (Int.toNat off) * 1) := ⟨_, rfl⟩
              refine AtE.sliceL (E := 5) (b := VB) (o := 0) (len := n) (cap := n) (sz := 1) (o' := o) (l' := ((Int.toNat (IntKind.i64.wrap (off + n1))) - (Int.toNat off))) (c' := (n - (Int.toNat off))) (lo := some (.int .i64 off)) (hi := some (.int .i64 (IntKind.i64.wrap (off + n1)))) (x := off) (y := (IntKind.i64.wrap (off + n1))) (by kernel_rfl) (.inl ⟨.i64, rfl⟩) (.inl ⟨.i64, rfl⟩) H.1 ho rfl rfl ?_
              replace H := H.2 o ho
              refine AtE.norm (k' := [.inRegion (regOps [.code (sub (Eng.body Try.f13) [1, 1, 1, 0])]) [9, 10, 11], .code (sub (Eng.body Try.f13) [1, 1, 1, 1])]) (e' := [(27, .slice (some ⟨VB, o, none⟩) ((Int.toNat (IntKind.i64.wrap (off + n1))) - (Int.toNat off)) (n - (Int.toNat off)))]) (L' := [(D, .cells #[.bool on, .int .i64 cut, .slice (some ⟨DB, 0, none⟩) n n, .slice (some ⟨VB, 0, none⟩) n n, .slice (some ⟨PB, 0, none⟩) pl pc] 54), (DB, .cells ⟨dur⟩ 5), (VB, .cells ⟨vis⟩ 5), (PB, .cells ⟨pd⟩ 56)]) ?_ (by kernel_rfl)
              obtain ⟨bs, hb, H⟩ := H
              refine AtE.toString 2 (E := 5) (o := o) (len := ((Int.toNat (IntKind.i64.wrap (off + n1))) - (Int.toNat off))) (cap := (n - (Int.toNat off))) (c := vis) (l := bs) (by kernel_rfl) hb ?_
              refine AtE.run 1 (fun W => by kernel_rfl) ?_
              refine AtE.letS 6 (n := ⟨bs.toArray⟩) (by kernel_rfl) (fun t6 ht6 => ?_)
              replace H := H t6 ht6
              refine AtE.run 2 (fun W => by kernel_rfl) ?_
              exact AtE.ret Try.func13 (by kernel_rfl) H
          · replace H := H.2 h5'
            refine AtE.run 9 (fun W => by kernel_rfl) ?_
            refine AtE.retK (v := (.bool false)) Try.func26 (by kernel_rfl) ?_
            refine AtE.run 8 (fun W => by kernel_rfl) ?_
            exact AtE.ret Try.func13 (by kernel_rfl) H
        · replace H := H.2 h4'
          refine AtE.run 15 (fun W => by kernel_rfl) ?_
          refine AtE.retK (v := (.bool false)) Try.func26 (by kernel_rfl) ?_
          refine AtE.run 8 (fun W => by kernel_rfl) ?_
          exact AtE.ret Try.func13 (by kernel_rfl) H
      · replace H := H.2 h3'
        refine AtE.run 19 (fun W => by kernel_rfl) ?_
        refine AtE.retK (v := (.bool false)) Try.func26 (by kernel_rfl) ?_
        refine AtE.run 8 (fun W => by kernel_rfl) ?_
        exact AtE.ret Try.func13 (by kernel_rfl) H
    · replace H := H.2 h2'
      refine AtE.run 7 (fun W => by kernel_rfl) ?_
      refine AtE.retK (v := (.int .i64 (231 : Int))) Try.func25 (by kernel_rfl) ?_
      refine AtE.norm (k' := [.inRegion (regOps [.code (sub (Eng.body Try.f13) [1, 0, 0])]) [2], .code (sub (Eng.body Try.f13) [1, 0, 1]), .code (sub (Eng.body Try.f13) [1, 1])]) (e' := [(0, .pointer (some ⟨D, 0, none⟩)), (1, .int .i64 off), (2, .int .i64 n1), (10, .int .i64 (231 : Int))]) (L' := [(D, .cells #[.bool on, .int .i64 cut, .slice (some ⟨DB, 0, none⟩) n n, .slice (some ⟨VB, 0, none⟩) n n, .slice (some ⟨PB, 0, none⟩) pl pc] 54), (DB, .cells ⟨dur⟩ 5), (VB, .cells ⟨vis⟩ 5), (PB, .cells ⟨pd⟩ 56)]) ?_ (by kernel_rfl)
      refine AtE.run 14 (fun W => by kernel_rfl) ?_
      exact AtE.ret Try.func13 (by kernel_rfl) H

theorem SyncN_vc (D : Nat) (on : Bool) (cut : Int) (DB : Nat) (n : Nat) (VB : Nat) (dur : List Value) (vis : List Value) {R : Ending → World → Prop} {S : List Nat} {w0 W : World} (hm : Mem [(D, .cells #[.bool on, .int .i64 cut, .slice (some ⟨DB, 0, none⟩) n n, .slice (some ⟨VB, 0, none⟩) n n, .slice none 0 0] 54), (DB, .cells ⟨dur⟩ 5), (VB, .cells ⟨vis⟩ 5)] S w0 W)
    (H :
      ∀ t2 : Int, t2 = (n : Int) →
      ((t2 = (0 : Int)) →
        Fin R [(D, .cells #[.bool on, .int .i64 cut, .slice (some ⟨DB, 0, none⟩) n n, .slice (some ⟨VB, 0, none⟩) n n, .slice none 0 0] 54), (DB, .cells ⟨dur⟩ 5), (VB, .cells ⟨vis⟩ 5)] S w0 (.int .i64 (1 : Int))) ∧
       ((¬ (t2 = (0 : Int))) →
        ((on = true) →
          ((((vis).drop 0).take (min n n)).length = min n n) ∧ (∀ u ∈ (((vis).drop 0).take (min n n)), u.oneCell' = true) ∧ (0 + (((vis).drop 0).take (min n n)).length ≤ (dur).length) ∧
          Fin R [(D, .cells #[.bool on, .int .i64 cut, .slice (some ⟨DB, 0, none⟩) n n, .slice (some ⟨VB, 0, none⟩) n n, .slice none 0 0] 54), (DB, .cells ⟨(over (dur) 0 (((vis).drop 0).take (min n n)))⟩ 5), (VB, .cells ⟨vis⟩ 5)] S w0 (.int .i64 (0 : Int))) ∧
         ((on = false) →
          Fin R [(D, .cells #[.bool on, .int .i64 cut, .slice (some ⟨DB, 0, none⟩) n n, .slice (some ⟨VB, 0, none⟩) n n, .slice none 0 0] 54), (DB, .cells ⟨dur⟩ 5), (VB, .cells ⟨vis⟩ 5)] S w0 (.int .i64 (231 : Int))))) :
    Calls Try.prog 19 ⟨[.pointer (some ⟨D, 0, none⟩)]⟩ W R := by
  refine AtE.calls (nt := 20) Try.func19 (by kernel_rfl) hm ?_
  refine AtE.run 8 (fun W => by kernel_rfl) ?_
  refine AtE.inl 25 ⟨[.pointer (some ⟨D, 0, none⟩)]⟩ (fun W => by kernel_rfl) (by kernel_rfl) (fun W hm => AtE.calls (nt := 12) Try.func25 (by kernel_rfl) hm ?_)
  refine AtE.run 8 (fun W => by kernel_rfl) ?_
  refine AtE.norm (k' := [.inRegion (regOps [.code (sub (Eng.body Try.f25) [1, 0, 0])]) [1, 2], .code (sub (Eng.body Try.f25) [1, 0, 1]), .code (sub (Eng.body Try.f25) [1, 1])]) (e' := [(0, .pointer (some ⟨D, 0, none⟩)), (3, .pointer (some ⟨D, 0, none⟩))]) (L' := [(D, .cells #[.bool on, .int .i64 cut, .slice (some ⟨DB, 0, none⟩) n n, .slice (some ⟨VB, 0, none⟩) n n, .slice none 0 0] 54), (DB, .cells ⟨dur⟩ 5), (VB, .cells ⟨vis⟩ 5)]) ?_ (by kernel_rfl)
  refine AtE.inl 15 ⟨[.pointer (some ⟨D, 0, none⟩)]⟩ (fun W => by kernel_rfl) (by kernel_rfl) (fun W hm => AtE.calls (nt := 10) Try.func15 (by kernel_rfl) hm ?_)
  refine AtE.run 17 (fun W => by kernel_rfl) ?_
  refine AtE.load 0 2 (T := 40) (v := .slice (some ⟨DB, 0, none⟩) n n) (by kernel_rfl) ?_
  refine AtE.run 2 (fun W => by kernel_rfl) ?_
  refine AtE.letI 2 (kd := .i64) (n := (n : Int)) (by kernel_rfl) (fun t2 ht2 => ?_)
  replace H := H t2 ht2
  refine AtE.run 1 (fun W => by kernel_rfl) ?_
  refine AtE.retK (v := (.int .i64 t2)) Try.func15 (by kernel_rfl) ?_
  refine AtE.run 2 (fun W => by kernel_rfl) ?_
  refine AtE.splitP 5 (p := t2 = (0 : Int)) (by kernel_rfl) (fun h1' => ?_) (fun h1' => ?_)
  · replace H := H.1 h1'
    refine AtE.run 5 (fun W => by kernel_rfl) ?_
    refine AtE.retK (v := (.int .i64 (1 : Int))) Try.func25 (by kernel_rfl) ?_
    refine AtE.run 13 (fun W => by kernel_rfl) ?_
    exact AtE.ret Try.func19 (by kernel_rfl) H
  · replace H := H.2 h1'
    refine AtE.run 9 (fun W => by kernel_rfl) ?_
    refine AtE.load 0 0 (T := 4) (v := .bool on) (by kernel_rfl) ?_
    refine AtE.split 10 (b := on) (by kernel_rfl) (fun h2' => ?_) (fun h2' => ?_)
    · replace H := H.1 h2'
      refine AtE.run 8 (fun W => by kernel_rfl) ?_
      refine AtE.retK (v := (.int .i64 (0 : Int))) Try.func25 (by kernel_rfl) ?_
      refine AtE.norm (k' := [.inRegion (regOps [.code (sub (Eng.body Try.f19) [1, 0, 0])]) [2], .code (sub (Eng.body Try.f19) [1, 0, 1]), .code (sub (Eng.body Try.f19) [1, 1])]) (e' := [(0, .pointer (some ⟨D, 0, none⟩)), (5, .int .i64 (0 : Int))]) (L' := [(D, .cells #[.bool on, .int .i64 cut, .slice (some ⟨DB, 0, none⟩) n n, .slice (some ⟨VB, 0, none⟩) n n, .slice none 0 0] 54), (DB, .cells ⟨dur⟩ 5), (VB, .cells ⟨vis⟩ 5)]) ?_ (by kernel_rfl)
      refine AtE.run 10 (fun W => by kernel_rfl) ?_
      refine AtE.norm (k' := [.code (sub (Eng.body Try.f19) [1, 1, 0]), .code (sub (Eng.body Try.f19) [1, 1, 1])]) (e' := [(0, .pointer (some ⟨D, 0, none⟩))]) (L' := [(D, .cells #[.bool on, .int .i64 cut, .slice (some ⟨DB, 0, none⟩) n n, .slice (some ⟨VB, 0, none⟩) n n, .slice none 0 0] 54), (DB, .cells ⟨dur⟩ 5), (VB, .cells ⟨vis⟩ 5)]) ?_ (by kernel_rfl)
      refine AtE.draw 8 (by kernel_rfl) ?_
      refine AtQ.pure (by kernel_rfl) (fun W => by kernel_rfl) ?_
      refine AtQ.pure (by kernel_rfl) (fun W => by kernel_rfl) ?_
      refine AtQ.pure (by kernel_rfl) (fun W => by kernel_rfl) ?_
      refine AtQ.load 0 2 (T := 40) (v := .slice (some ⟨DB, 0, none⟩) n n) (by kernel_rfl) ?_
      refine AtQ.pure (by kernel_rfl) (fun W => by kernel_rfl) ?_
      refine AtQ.pure (by kernel_rfl) (fun W => by kernel_rfl) ?_
      refine AtQ.pure (by kernel_rfl) (fun W => by kernel_rfl) ?_
      refine AtQ.load 0 3 (T := 40) (v := .slice (some ⟨VB, 0, none⟩) n n) (by kernel_rfl) ?_
      refine AtQ.done (by kernel_rfl) ?_
      refine AtE.copyO 1 (T := 40) (E := 5) (o := 0) (dl := n) (dc := n) (n := n) (m := n) (a := ⟨VB, 0, none⟩) (c := dur) (((vis).drop 0).take (min n n)) (by kernel_rfl) (Src.own (j := 2) (o := 0) (n := (min n n)) (c := vis) (by kernel_rfl)) H.1 H.2.1 H.2.2.1 ?_
      replace H := H.2.2.2
      refine AtE.run 4 (fun W => by kernel_rfl) ?_
      refine AtE.norm (k' := [.inRegion (regOps [.code (sub (Eng.body Try.f19) [1, 1, 1, 0])]) [1], .code (sub (Eng.body Try.f19) [1, 1, 1, 1])]) (e' := [(18, .pointer (some ⟨D, 0, none⟩))]) (L' := [(D, .cells #[.bool on, .int .i64 cut, .slice (some ⟨DB, 0, none⟩) n n, .slice (some ⟨VB, 0, none⟩) n n, .slice none 0 0] 54), (DB, .cells ⟨(over (dur) 0 (((vis).drop 0).take (min n n)))⟩ 5), (VB, .cells ⟨vis⟩ 5)]) ?_ (by kernel_rfl)
      refine AtE.inl 28 ⟨[.pointer (some ⟨D, 0, none⟩)]⟩ (fun W => by kernel_rfl) (by kernel_rfl) (fun W hm => AtE.calls (nt := 14) Try.func28 (by kernel_rfl) hm ?_)
      refine AtE.run 5 (fun W => by kernel_rfl) ?_
      refine AtE.load 0 4 (T := 52) (v := .slice none 0 0) (by kernel_rfl) ?_
      refine AtE.run 7 (fun W => by kernel_rfl) ?_
      refine AtE.load 0 4 (T := 52) (v := .slice none 0 0) (by kernel_rfl) ?_
      refine AtE.run 3 (fun W => by kernel_rfl) ?_
      refine AtE.store 0 4 (T := 52) (v := .slice none 0 0) (by kernel_rfl) ?_
      refine AtE.run 1 (fun W => by kernel_rfl) ?_
      refine AtE.retK (v := .tuple #[]) Try.func28 (by kernel_rfl) ?_
      refine AtE.run 5 (fun W => by kernel_rfl) ?_
      exact AtE.ret Try.func19 (by kernel_rfl) H
    · replace H := H.2 h2'
      refine AtE.run 7 (fun W => by kernel_rfl) ?_
      refine AtE.retK (v := (.int .i64 (231 : Int))) Try.func25 (by kernel_rfl) ?_
      refine AtE.norm (k' := [.inRegion (regOps [.code (sub (Eng.body Try.f19) [1, 0, 0])]) [2], .code (sub (Eng.body Try.f19) [1, 0, 1]), .code (sub (Eng.body Try.f19) [1, 1])]) (e' := [(0, .pointer (some ⟨D, 0, none⟩)), (5, .int .i64 (231 : Int))]) (L' := [(D, .cells #[.bool on, .int .i64 cut, .slice (some ⟨DB, 0, none⟩) n n, .slice (some ⟨VB, 0, none⟩) n n, .slice none 0 0] 54), (DB, .cells ⟨dur⟩ 5), (VB, .cells ⟨vis⟩ 5)]) ?_ (by kernel_rfl)
      refine AtE.run 13 (fun W => by kernel_rfl) ?_
      exact AtE.ret Try.func19 (by kernel_rfl) H

theorem SyncR_vc (D : Nat) (on : Bool) (cut : Int) (DB : Nat) (n : Nat) (VB : Nat) (dur : List Value) (vis : List Value) (PB : Nat) (pl : Nat) (pc : Nat) (pd : List Value) {R : Ending → World → Prop} {S : List Nat} {w0 W : World} (hm : Mem [(D, .cells #[.bool on, .int .i64 cut, .slice (some ⟨DB, 0, none⟩) n n, .slice (some ⟨VB, 0, none⟩) n n, .slice (some ⟨PB, 0, none⟩) pl pc] 54), (DB, .cells ⟨dur⟩ 5), (VB, .cells ⟨vis⟩ 5), (PB, .cells ⟨pd⟩ 56)] S w0 W)
    (H :
      ∀ t2 : Int, t2 = (n : Int) →
      ((t2 = (0 : Int)) →
        Fin R [(D, .cells #[.bool on, .int .i64 cut, .slice (some ⟨DB, 0, none⟩) n n, .slice (some ⟨VB, 0, none⟩) n n, .slice (some ⟨PB, 0, none⟩) pl pc] 54), (DB, .cells ⟨dur⟩ 5), (VB, .cells ⟨vis⟩ 5), (PB, .cells ⟨pd⟩ 56)] S w0 (.int .i64 (1 : Int))) ∧
       ((¬ (t2 = (0 : Int))) →
        ((on = true) →
          ((((vis).drop 0).take (min n n)).length = min n n) ∧ (∀ u ∈ (((vis).drop 0).take (min n n)), u.oneCell' = true) ∧ (0 + (((vis).drop 0).take (min n n)).length ≤ (dur).length) ∧
          (0 + pl * 2 ≤ (pd).length) ∧
          (0 ≤ (0 : Int) ∧ (0 : Int) ≤ (0 : Int) ∧ (0 : Int) ≤ (pc : Int)) ∧
          Fin R [(D, .cells #[.bool on, .int .i64 cut, .slice (some ⟨DB, 0, none⟩) n n, .slice (some ⟨VB, 0, none⟩) n n, .slice (some ⟨PB, 0, none⟩) (Int.toNat (0 : Int)) pc] 54), (DB, .cells ⟨(over (dur) 0 (((vis).drop 0).take (min n n)))⟩ 5), (VB, .cells ⟨vis⟩ 5), (PB, .cells ⟨(over (pd) 0 (noughtL #[.int .i64 (0 : Int), .string (⟨#[]⟩)] pl))⟩ 56)] S w0 (.int .i64 (0 : Int))) ∧
         ((on = false) →
          Fin R [(D, .cells #[.bool on, .int .i64 cut, .slice (some ⟨DB, 0, none⟩) n n, .slice (some ⟨VB, 0, none⟩) n n, .slice (some ⟨PB, 0, none⟩) pl pc] 54), (DB, .cells ⟨dur⟩ 5), (VB, .cells ⟨vis⟩ 5), (PB, .cells ⟨pd⟩ 56)] S w0 (.int .i64 (231 : Int))))) :
    Calls Try.prog 19 ⟨[.pointer (some ⟨D, 0, none⟩)]⟩ W R := by
  refine AtE.calls (nt := 20) Try.func19 (by kernel_rfl) hm ?_
  refine AtE.run 8 (fun W => by kernel_rfl) ?_
  refine AtE.inl 25 ⟨[.pointer (some ⟨D, 0, none⟩)]⟩ (fun W => by kernel_rfl) (by kernel_rfl) (fun W hm => AtE.calls (nt := 12) Try.func25 (by kernel_rfl) hm ?_)
  refine AtE.run 8 (fun W => by kernel_rfl) ?_
  refine AtE.norm (k' := [.inRegion (regOps [.code (sub (Eng.body Try.f25) [1, 0, 0])]) [1, 2], .code (sub (Eng.body Try.f25) [1, 0, 1]), .code (sub (Eng.body Try.f25) [1, 1])]) (e' := [(0, .pointer (some ⟨D, 0, none⟩)), (3, .pointer (some ⟨D, 0, none⟩))]) (L' := [(D, .cells #[.bool on, .int .i64 cut, .slice (some ⟨DB, 0, none⟩) n n, .slice (some ⟨VB, 0, none⟩) n n, .slice (some ⟨PB, 0, none⟩) pl pc] 54), (DB, .cells ⟨dur⟩ 5), (VB, .cells ⟨vis⟩ 5), (PB, .cells ⟨pd⟩ 56)]) ?_ (by kernel_rfl)
  refine AtE.inl 15 ⟨[.pointer (some ⟨D, 0, none⟩)]⟩ (fun W => by kernel_rfl) (by kernel_rfl) (fun W hm => AtE.calls (nt := 10) Try.func15 (by kernel_rfl) hm ?_)
  refine AtE.run 17 (fun W => by kernel_rfl) ?_
  refine AtE.load 0 2 (T := 40) (v := .slice (some ⟨DB, 0, none⟩) n n) (by kernel_rfl) ?_
  refine AtE.run 2 (fun W => by kernel_rfl) ?_
  refine AtE.letI 2 (kd := .i64) (n := (n : Int)) (by kernel_rfl) (fun t2 ht2 => ?_)
  replace H := H t2 ht2
  refine AtE.run 1 (fun W => by kernel_rfl) ?_
  refine AtE.retK (v := (.int .i64 t2)) Try.func15 (by kernel_rfl) ?_
  refine AtE.run 2 (fun W => by kernel_rfl) ?_
  refine AtE.splitP 5 (p := t2 = (0 : Int)) (by kernel_rfl) (fun h1' => ?_) (fun h1' => ?_)
  · replace H := H.1 h1'
    refine AtE.run 5 (fun W => by kernel_rfl) ?_
    refine AtE.retK (v := (.int .i64 (1 : Int))) Try.func25 (by kernel_rfl) ?_
    refine AtE.run 13 (fun W => by kernel_rfl) ?_
    exact AtE.ret Try.func19 (by kernel_rfl) H
  · replace H := H.2 h1'
    refine AtE.run 9 (fun W => by kernel_rfl) ?_
    refine AtE.load 0 0 (T := 4) (v := .bool on) (by kernel_rfl) ?_
    refine AtE.split 10 (b := on) (by kernel_rfl) (fun h2' => ?_) (fun h2' => ?_)
    · replace H := H.1 h2'
      refine AtE.run 8 (fun W => by kernel_rfl) ?_
      refine AtE.retK (v := (.int .i64 (0 : Int))) Try.func25 (by kernel_rfl) ?_
      refine AtE.norm (k' := [.inRegion (regOps [.code (sub (Eng.body Try.f19) [1, 0, 0])]) [2], .code (sub (Eng.body Try.f19) [1, 0, 1]), .code (sub (Eng.body Try.f19) [1, 1])]) (e' := [(0, .pointer (some ⟨D, 0, none⟩)), (5, .int .i64 (0 : Int))]) (L' := [(D, .cells #[.bool on, .int .i64 cut, .slice (some ⟨DB, 0, none⟩) n n, .slice (some ⟨VB, 0, none⟩) n n, .slice (some ⟨PB, 0, none⟩) pl pc] 54), (DB, .cells ⟨dur⟩ 5), (VB, .cells ⟨vis⟩ 5), (PB, .cells ⟨pd⟩ 56)]) ?_ (by kernel_rfl)
      refine AtE.run 10 (fun W => by kernel_rfl) ?_
      refine AtE.norm (k' := [.code (sub (Eng.body Try.f19) [1, 1, 0]), .code (sub (Eng.body Try.f19) [1, 1, 1])]) (e' := [(0, .pointer (some ⟨D, 0, none⟩))]) (L' := [(D, .cells #[.bool on, .int .i64 cut, .slice (some ⟨DB, 0, none⟩) n n, .slice (some ⟨VB, 0, none⟩) n n, .slice (some ⟨PB, 0, none⟩) pl pc] 54), (DB, .cells ⟨dur⟩ 5), (VB, .cells ⟨vis⟩ 5), (PB, .cells ⟨pd⟩ 56)]) ?_ (by kernel_rfl)
      refine AtE.draw 8 (by kernel_rfl) ?_
      refine AtQ.pure (by kernel_rfl) (fun W => by kernel_rfl) ?_
      refine AtQ.pure (by kernel_rfl) (fun W => by kernel_rfl) ?_
      refine AtQ.pure (by kernel_rfl) (fun W => by kernel_rfl) ?_
      refine AtQ.load 0 2 (T := 40) (v := .slice (some ⟨DB, 0, none⟩) n n) (by kernel_rfl) ?_
      refine AtQ.pure (by kernel_rfl) (fun W => by kernel_rfl) ?_
      refine AtQ.pure (by kernel_rfl) (fun W => by kernel_rfl) ?_
      refine AtQ.pure (by kernel_rfl) (fun W => by kernel_rfl) ?_
      refine AtQ.load 0 3 (T := 40) (v := .slice (some ⟨VB, 0, none⟩) n n) (by kernel_rfl) ?_
      refine AtQ.done (by kernel_rfl) ?_
      refine AtE.copyO 1 (T := 40) (E := 5) (o := 0) (dl := n) (dc := n) (n := n) (m := n) (a := ⟨VB, 0, none⟩) (c := dur) (((vis).drop 0).take (min n n)) (by kernel_rfl) (Src.own (j := 2) (o := 0) (n := (min n n)) (c := vis) (by kernel_rfl)) H.1 H.2.1 H.2.2.1 ?_
      replace H := H.2.2.2
      refine AtE.run 4 (fun W => by kernel_rfl) ?_
      refine AtE.norm (k' := [.inRegion (regOps [.code (sub (Eng.body Try.f19) [1, 1, 1, 0])]) [1], .code (sub (Eng.body Try.f19) [1, 1, 1, 1])]) (e' := [(18, .pointer (some ⟨D, 0, none⟩))]) (L' := [(D, .cells #[.bool on, .int .i64 cut, .slice (some ⟨DB, 0, none⟩) n n, .slice (some ⟨VB, 0, none⟩) n n, .slice (some ⟨PB, 0, none⟩) pl pc] 54), (DB, .cells ⟨(over (dur) 0 (((vis).drop 0).take (min n n)))⟩ 5), (VB, .cells ⟨vis⟩ 5), (PB, .cells ⟨pd⟩ 56)]) ?_ (by kernel_rfl)
      refine AtE.inl 28 ⟨[.pointer (some ⟨D, 0, none⟩)]⟩ (fun W => by kernel_rfl) (by kernel_rfl) (fun W hm => AtE.calls (nt := 14) Try.func28 (by kernel_rfl) hm ?_)
      refine AtE.run 5 (fun W => by kernel_rfl) ?_
      refine AtE.load 0 4 (T := 52) (v := .slice (some ⟨PB, 0, none⟩) pl pc) (by kernel_rfl) ?_
      refine AtE.clearO 3 (T := 52) (E := 56) (o := 0) (n := pl) (cap := pc) (z := .agg #[.int .i64 (0 : Int), .string (⟨#[]⟩)]) (sz := 2) (bytes := 24) (c := pd) (by kernel_rfl) (by kernel_rfl) H.1 ?_
      replace H := H.2
      refine AtE.run 6 (fun W => by kernel_rfl) ?_
      refine AtE.load 0 4 (T := 52) (v := .slice (some ⟨PB, 0, none⟩) pl pc) (by kernel_rfl) ?_
      refine AtE.sliceL (E := 56) (b := PB) (o := 0) (len := pl) (cap := pc) (sz := 2) (o' := 0) (l' := (Int.toNat (0 : Int))) (c' := pc) (lo := none) (hi := some (.int .i64 (0 : Int))) (x := (0 : Int)) (y := (0 : Int)) (by kernel_rfl) (.inr ⟨rfl, rfl⟩) (.inl ⟨.i64, rfl⟩) H.1 (by simp) (by simp) (by simp) ?_
      replace H := H.2
      refine AtE.run 2 (fun W => by kernel_rfl) ?_
      refine AtE.store 0 4 (T := 52) (v := .slice (some ⟨PB, 0, none⟩) (Int.toNat (0 : Int)) pc) (by kernel_rfl) ?_
      refine AtE.run 1 (fun W => by kernel_rfl) ?_
      refine AtE.retK (v := .tuple #[]) Try.func28 (by kernel_rfl) ?_
      refine AtE.run 5 (fun W => by kernel_rfl) ?_
      exact AtE.ret Try.func19 (by kernel_rfl) H
    · replace H := H.2 h2'
      refine AtE.run 7 (fun W => by kernel_rfl) ?_
      refine AtE.retK (v := (.int .i64 (231 : Int))) Try.func25 (by kernel_rfl) ?_
      refine AtE.norm (k' := [.inRegion (regOps [.code (sub (Eng.body Try.f19) [1, 0, 0])]) [2], .code (sub (Eng.body Try.f19) [1, 0, 1]), .code (sub (Eng.body Try.f19) [1, 1])]) (e' := [(0, .pointer (some ⟨D, 0, none⟩)), (5, .int .i64 (231 : Int))]) (L' := [(D, .cells #[.bool on, .int .i64 cut, .slice (some ⟨DB, 0, none⟩) n n, .slice (some ⟨VB, 0, none⟩) n n, .slice (some ⟨PB, 0, none⟩) pl pc] 54), (DB, .cells ⟨dur⟩ 5), (VB, .cells ⟨vis⟩ 5), (PB, .cells ⟨pd⟩ 56)]) ?_ (by kernel_rfl)
      refine AtE.run 13 (fun W => by kernel_rfl) ?_
      exact AtE.ret Try.func19 (by kernel_rfl) H

theorem CutN_vc (D : Nat) (on : Bool) (cut : Int) (DB : Nat) (n : Nat) (VB : Nat) (dur : List Value) (vis : List Value) (n1 : Int) {R : Ending → World → Prop} {S : List Nat} {w0 W : World} (hm : Mem [(D, .cells #[.bool on, .int .i64 cut, .slice (some ⟨DB, 0, none⟩) n n, .slice (some ⟨VB, 0, none⟩) n n, .slice none 0 0] 54), (DB, .cells ⟨dur⟩ 5), (VB, .cells ⟨vis⟩ 5)] S w0 W)
    (H :
      ∀ t2 : Int, t2 = (n : Int) →
      ((t2 = (0 : Int)) →
        Fin R [(D, .cells #[.bool on, .int .i64 cut, .slice (some ⟨DB, 0, none⟩) n n, .slice (some ⟨VB, 0, none⟩) n n, .slice none 0 0] 54), (DB, .cells ⟨dur⟩ 5), (VB, .cells ⟨vis⟩ 5)] S w0 (.int .i64 (1 : Int))) ∧
       ((¬ (t2 = (0 : Int))) →
        ((on = true) →
          ((n1 < (0 : Int)) →
            Fin R [(D, .cells #[.bool on, .int .i64 cut, .slice (some ⟨DB, 0, none⟩) n n, .slice (some ⟨VB, 0, none⟩) n n, .slice none 0 0] 54), (DB, .cells ⟨dur⟩ 5), (VB, .cells ⟨vis⟩ 5)] S w0 (.int .i64 (2 : Int))) ∧
           ((¬ (n1 < (0 : Int))) →
            ((n1 = (0 : Int)) →
              Fin R [(D, .cells #[.bool false, .int .i64 (0 : Int), .slice (some ⟨DB, 0, none⟩) n n, .slice (some ⟨VB, 0, none⟩) n n, .slice none 0 0] 54), (DB, .cells ⟨dur⟩ 5), (VB, .cells ⟨vis⟩ 5)] S w0 (.int .i64 (0 : Int))) ∧
             ((¬ (n1 = (0 : Int))) →
              Fin R [(D, .cells #[.bool on, .int .i64 n1, .slice (some ⟨DB, 0, none⟩) n n, .slice (some ⟨VB, 0, none⟩) n n, .slice none 0 0] 54), (DB, .cells ⟨dur⟩ 5), (VB, .cells ⟨vis⟩ 5)] S w0 (.int .i64 (0 : Int))))) ∧
         ((on = false) →
          Fin R [(D, .cells #[.bool on, .int .i64 cut, .slice (some ⟨DB, 0, none⟩) n n, .slice (some ⟨VB, 0, none⟩) n n, .slice none 0 0] 54), (DB, .cells ⟨dur⟩ 5), (VB, .cells ⟨vis⟩ 5)] S w0 (.int .i64 (231 : Int))))) :
    Calls Try.prog 20 ⟨[.pointer (some ⟨D, 0, none⟩), .int .i64 n1]⟩ W R := by
  refine AtE.calls (nt := 24) Try.func20 (by kernel_rfl) hm ?_
  refine AtE.run 8 (fun W => by kernel_rfl) ?_
  refine AtE.inl 25 ⟨[.pointer (some ⟨D, 0, none⟩)]⟩ (fun W => by kernel_rfl) (by kernel_rfl) (fun W hm => AtE.calls (nt := 12) Try.func25 (by kernel_rfl) hm ?_)
  refine AtE.run 8 (fun W => by kernel_rfl) ?_
  refine AtE.norm (k' := [.inRegion (regOps [.code (sub (Eng.body Try.f25) [1, 0, 0])]) [1, 2], .code (sub (Eng.body Try.f25) [1, 0, 1]), .code (sub (Eng.body Try.f25) [1, 1])]) (e' := [(0, .pointer (some ⟨D, 0, none⟩)), (3, .pointer (some ⟨D, 0, none⟩))]) (L' := [(D, .cells #[.bool on, .int .i64 cut, .slice (some ⟨DB, 0, none⟩) n n, .slice (some ⟨VB, 0, none⟩) n n, .slice none 0 0] 54), (DB, .cells ⟨dur⟩ 5), (VB, .cells ⟨vis⟩ 5)]) ?_ (by kernel_rfl)
  refine AtE.inl 15 ⟨[.pointer (some ⟨D, 0, none⟩)]⟩ (fun W => by kernel_rfl) (by kernel_rfl) (fun W hm => AtE.calls (nt := 10) Try.func15 (by kernel_rfl) hm ?_)
  refine AtE.run 17 (fun W => by kernel_rfl) ?_
  refine AtE.load 0 2 (T := 40) (v := .slice (some ⟨DB, 0, none⟩) n n) (by kernel_rfl) ?_
  refine AtE.run 2 (fun W => by kernel_rfl) ?_
  refine AtE.letI 2 (kd := .i64) (n := (n : Int)) (by kernel_rfl) (fun t2 ht2 => ?_)
  replace H := H t2 ht2
  refine AtE.run 1 (fun W => by kernel_rfl) ?_
  refine AtE.retK (v := (.int .i64 t2)) Try.func15 (by kernel_rfl) ?_
  refine AtE.run 2 (fun W => by kernel_rfl) ?_
  refine AtE.splitP 5 (p := t2 = (0 : Int)) (by kernel_rfl) (fun h1' => ?_) (fun h1' => ?_)
  · replace H := H.1 h1'
    refine AtE.run 5 (fun W => by kernel_rfl) ?_
    refine AtE.retK (v := (.int .i64 (1 : Int))) Try.func25 (by kernel_rfl) ?_
    refine AtE.run 13 (fun W => by kernel_rfl) ?_
    exact AtE.ret Try.func20 (by kernel_rfl) H
  · replace H := H.2 h1'
    refine AtE.run 9 (fun W => by kernel_rfl) ?_
    refine AtE.load 0 0 (T := 4) (v := .bool on) (by kernel_rfl) ?_
    refine AtE.split 10 (b := on) (by kernel_rfl) (fun h2' => ?_) (fun h2' => ?_)
    · replace H := H.1 h2'
      refine AtE.run 8 (fun W => by kernel_rfl) ?_
      refine AtE.retK (v := (.int .i64 (0 : Int))) Try.func25 (by kernel_rfl) ?_
      refine AtE.norm (k' := [.inRegion (regOps [.code (sub (Eng.body Try.f20) [1, 0, 0])]) [2], .code (sub (Eng.body Try.f20) [1, 0, 1]), .code (sub (Eng.body Try.f20) [1, 1])]) (e' := [(0, .pointer (some ⟨D, 0, none⟩)), (1, .int .i64 n1), (7, .int .i64 (0 : Int))]) (L' := [(D, .cells #[.bool on, .int .i64 cut, .slice (some ⟨DB, 0, none⟩) n n, .slice (some ⟨VB, 0, none⟩) n n, .slice none 0 0] 54), (DB, .cells ⟨dur⟩ 5), (VB, .cells ⟨vis⟩ 5)]) ?_ (by kernel_rfl)
      refine AtE.run 15 (fun W => by kernel_rfl) ?_
      refine AtE.splitP 12 (p := n1 < (0 : Int)) (by kernel_rfl) (fun h3' => ?_) (fun h3' => ?_)
      · replace H := H.1 h3'
        refine AtE.run 5 (fun W => by kernel_rfl) ?_
        exact AtE.ret Try.func20 (by kernel_rfl) H
      · replace H := H.2 h3'
        refine AtE.run 8 (fun W => by kernel_rfl) ?_
        refine AtE.splitP 14 (p := n1 = (0 : Int)) (by kernel_rfl) (fun h4' => ?_) (fun h4' => ?_)
        · replace H := H.1 h4'
          refine AtE.run 6 (fun W => by kernel_rfl) ?_
          refine AtE.norm (k' := [.inRegion (regOps [.code (sub (Eng.body Try.f20) [1, 1, 1, 0, 1, 0, 0])]) [3], .code (sub (Eng.body Try.f20) [1, 1, 1, 0, 1, 0, 1]), .code (sub (Eng.body Try.f20) [1, 1, 1, 1])]) (e' := [(17, .pointer (some ⟨D, 0, none⟩))]) (L' := [(D, .cells #[.bool on, .int .i64 cut, .slice (some ⟨DB, 0, none⟩) n n, .slice (some ⟨VB, 0, none⟩) n n, .slice none 0 0] 54), (DB, .cells ⟨dur⟩ 5), (VB, .cells ⟨vis⟩ 5)]) ?_ (by kernel_rfl)
          refine AtE.inl 29 ⟨[.pointer (some ⟨D, 0, none⟩)]⟩ (fun W => by kernel_rfl) (by kernel_rfl) (fun W hm => AtE.calls (nt := 8) Try.func29 (by kernel_rfl) hm ?_)
          refine AtE.run 5 (fun W => by kernel_rfl) ?_
          refine AtE.store 0 0 (T := 4) (v := .bool false) (by kernel_rfl) ?_
          refine AtE.run 2 (fun W => by kernel_rfl) ?_
          refine AtE.store 0 1 (T := 3) (v := .int .i64 (0 : Int)) (by kernel_rfl) ?_
          refine AtE.run 1 (fun W => by kernel_rfl) ?_
          refine AtE.retK (v := .tuple #[]) Try.func29 (by kernel_rfl) ?_
          refine AtE.run 5 (fun W => by kernel_rfl) ?_
          exact AtE.ret Try.func20 (by kernel_rfl) H
        · replace H := H.2 h4'
          refine AtE.run 9 (fun W => by kernel_rfl) ?_
          refine AtE.store 0 1 (T := 3) (v := .int .i64 n1) (by kernel_rfl) ?_
          refine AtE.run 5 (fun W => by kernel_rfl) ?_
          exact AtE.ret Try.func20 (by kernel_rfl) H
    · replace H := H.2 h2'
      refine AtE.run 7 (fun W => by kernel_rfl) ?_
      refine AtE.retK (v := (.int .i64 (231 : Int))) Try.func25 (by kernel_rfl) ?_
      refine AtE.norm (k' := [.inRegion (regOps [.code (sub (Eng.body Try.f20) [1, 0, 0])]) [2], .code (sub (Eng.body Try.f20) [1, 0, 1]), .code (sub (Eng.body Try.f20) [1, 1])]) (e' := [(0, .pointer (some ⟨D, 0, none⟩)), (1, .int .i64 n1), (7, .int .i64 (231 : Int))]) (L' := [(D, .cells #[.bool on, .int .i64 cut, .slice (some ⟨DB, 0, none⟩) n n, .slice (some ⟨VB, 0, none⟩) n n, .slice none 0 0] 54), (DB, .cells ⟨dur⟩ 5), (VB, .cells ⟨vis⟩ 5)]) ?_ (by kernel_rfl)
      refine AtE.run 13 (fun W => by kernel_rfl) ?_
      exact AtE.ret Try.func20 (by kernel_rfl) H

theorem CutR_vc (D : Nat) (on : Bool) (cut : Int) (DB : Nat) (n : Nat) (VB : Nat) (dur : List Value) (vis : List Value) (PB : Nat) (pl : Nat) (pc : Nat) (pd : List Value) (n1 : Int) {R : Ending → World → Prop} {S : List Nat} {w0 W : World} (hm : Mem [(D, .cells #[.bool on, .int .i64 cut, .slice (some ⟨DB, 0, none⟩) n n, .slice (some ⟨VB, 0, none⟩) n n, .slice (some ⟨PB, 0, none⟩) pl pc] 54), (DB, .cells ⟨dur⟩ 5), (VB, .cells ⟨vis⟩ 5), (PB, .cells ⟨pd⟩ 56)] S w0 W)
    (H :
      ∀ t2 : Int, t2 = (n : Int) →
      ((t2 = (0 : Int)) →
        Fin R [(D, .cells #[.bool on, .int .i64 cut, .slice (some ⟨DB, 0, none⟩) n n, .slice (some ⟨VB, 0, none⟩) n n, .slice (some ⟨PB, 0, none⟩) pl pc] 54), (DB, .cells ⟨dur⟩ 5), (VB, .cells ⟨vis⟩ 5), (PB, .cells ⟨pd⟩ 56)] S w0 (.int .i64 (1 : Int))) ∧
       ((¬ (t2 = (0 : Int))) →
        ((on = true) →
          ((n1 < (0 : Int)) →
            Fin R [(D, .cells #[.bool on, .int .i64 cut, .slice (some ⟨DB, 0, none⟩) n n, .slice (some ⟨VB, 0, none⟩) n n, .slice (some ⟨PB, 0, none⟩) pl pc] 54), (DB, .cells ⟨dur⟩ 5), (VB, .cells ⟨vis⟩ 5), (PB, .cells ⟨pd⟩ 56)] S w0 (.int .i64 (2 : Int))) ∧
           ((¬ (n1 < (0 : Int))) →
            ((n1 = (0 : Int)) →
              Fin R [(D, .cells #[.bool false, .int .i64 (0 : Int), .slice (some ⟨DB, 0, none⟩) n n, .slice (some ⟨VB, 0, none⟩) n n, .slice (some ⟨PB, 0, none⟩) pl pc] 54), (DB, .cells ⟨dur⟩ 5), (VB, .cells ⟨vis⟩ 5), (PB, .cells ⟨pd⟩ 56)] S w0 (.int .i64 (0 : Int))) ∧
             ((¬ (n1 = (0 : Int))) →
              Fin R [(D, .cells #[.bool on, .int .i64 n1, .slice (some ⟨DB, 0, none⟩) n n, .slice (some ⟨VB, 0, none⟩) n n, .slice (some ⟨PB, 0, none⟩) pl pc] 54), (DB, .cells ⟨dur⟩ 5), (VB, .cells ⟨vis⟩ 5), (PB, .cells ⟨pd⟩ 56)] S w0 (.int .i64 (0 : Int))))) ∧
         ((on = false) →
          Fin R [(D, .cells #[.bool on, .int .i64 cut, .slice (some ⟨DB, 0, none⟩) n n, .slice (some ⟨VB, 0, none⟩) n n, .slice (some ⟨PB, 0, none⟩) pl pc] 54), (DB, .cells ⟨dur⟩ 5), (VB, .cells ⟨vis⟩ 5), (PB, .cells ⟨pd⟩ 56)] S w0 (.int .i64 (231 : Int))))) :
    Calls Try.prog 20 ⟨[.pointer (some ⟨D, 0, none⟩), .int .i64 n1]⟩ W R := by
  refine AtE.calls (nt := 24) Try.func20 (by kernel_rfl) hm ?_
  refine AtE.run 8 (fun W => by kernel_rfl) ?_
  refine AtE.inl 25 ⟨[.pointer (some ⟨D, 0, none⟩)]⟩ (fun W => by kernel_rfl) (by kernel_rfl) (fun W hm => AtE.calls (nt := 12) Try.func25 (by kernel_rfl) hm ?_)
  refine AtE.run 8 (fun W => by kernel_rfl) ?_
  refine AtE.norm (k' := [.inRegion (regOps [.code (sub (Eng.body Try.f25) [1, 0, 0])]) [1, 2], .code (sub (Eng.body Try.f25) [1, 0, 1]), .code (sub (Eng.body Try.f25) [1, 1])]) (e' := [(0, .pointer (some ⟨D, 0, none⟩)), (3, .pointer (some ⟨D, 0, none⟩))]) (L' := [(D, .cells #[.bool on, .int .i64 cut, .slice (some ⟨DB, 0, none⟩) n n, .slice (some ⟨VB, 0, none⟩) n n, .slice (some ⟨PB, 0, none⟩) pl pc] 54), (DB, .cells ⟨dur⟩ 5), (VB, .cells ⟨vis⟩ 5), (PB, .cells ⟨pd⟩ 56)]) ?_ (by kernel_rfl)
  refine AtE.inl 15 ⟨[.pointer (some ⟨D, 0, none⟩)]⟩ (fun W => by kernel_rfl) (by kernel_rfl) (fun W hm => AtE.calls (nt := 10) Try.func15 (by kernel_rfl) hm ?_)
  refine AtE.run 17 (fun W => by kernel_rfl) ?_
  refine AtE.load 0 2 (T := 40) (v := .slice (some ⟨DB, 0, none⟩) n n) (by kernel_rfl) ?_
  refine AtE.run 2 (fun W => by kernel_rfl) ?_
  refine AtE.letI 2 (kd := .i64) (n := (n : Int)) (by kernel_rfl) (fun t2 ht2 => ?_)
  replace H := H t2 ht2
  refine AtE.run 1 (fun W => by kernel_rfl) ?_
  refine AtE.retK (v := (.int .i64 t2)) Try.func15 (by kernel_rfl) ?_
  refine AtE.run 2 (fun W => by kernel_rfl) ?_
  refine AtE.splitP 5 (p := t2 = (0 : Int)) (by kernel_rfl) (fun h1' => ?_) (fun h1' => ?_)
  · replace H := H.1 h1'
    refine AtE.run 5 (fun W => by kernel_rfl) ?_
    refine AtE.retK (v := (.int .i64 (1 : Int))) Try.func25 (by kernel_rfl) ?_
    refine AtE.run 13 (fun W => by kernel_rfl) ?_
    exact AtE.ret Try.func20 (by kernel_rfl) H
  · replace H := H.2 h1'
    refine AtE.run 9 (fun W => by kernel_rfl) ?_
    refine AtE.load 0 0 (T := 4) (v := .bool on) (by kernel_rfl) ?_
    refine AtE.split 10 (b := on) (by kernel_rfl) (fun h2' => ?_) (fun h2' => ?_)
    · replace H := H.1 h2'
      refine AtE.run 8 (fun W => by kernel_rfl) ?_
      refine AtE.retK (v := (.int .i64 (0 : Int))) Try.func25 (by kernel_rfl) ?_
      refine AtE.norm (k' := [.inRegion (regOps [.code (sub (Eng.body Try.f20) [1, 0, 0])]) [2], .code (sub (Eng.body Try.f20) [1, 0, 1]), .code (sub (Eng.body Try.f20) [1, 1])]) (e' := [(0, .pointer (some ⟨D, 0, none⟩)), (1, .int .i64 n1), (7, .int .i64 (0 : Int))]) (L' := [(D, .cells #[.bool on, .int .i64 cut, .slice (some ⟨DB, 0, none⟩) n n, .slice (some ⟨VB, 0, none⟩) n n, .slice (some ⟨PB, 0, none⟩) pl pc] 54), (DB, .cells ⟨dur⟩ 5), (VB, .cells ⟨vis⟩ 5), (PB, .cells ⟨pd⟩ 56)]) ?_ (by kernel_rfl)
      refine AtE.run 15 (fun W => by kernel_rfl) ?_
      refine AtE.splitP 12 (p := n1 < (0 : Int)) (by kernel_rfl) (fun h3' => ?_) (fun h3' => ?_)
      · replace H := H.1 h3'
        refine AtE.run 5 (fun W => by kernel_rfl) ?_
        exact AtE.ret Try.func20 (by kernel_rfl) H
      · replace H := H.2 h3'
        refine AtE.run 8 (fun W => by kernel_rfl) ?_
        refine AtE.splitP 14 (p := n1 = (0 : Int)) (by kernel_rfl) (fun h4' => ?_) (fun h4' => ?_)
        · replace H := H.1 h4'
          refine AtE.run 6 (fun W => by kernel_rfl) ?_
          refine AtE.norm (k' := [.inRegion (regOps [.code (sub (Eng.body Try.f20) [1, 1, 1, 0, 1, 0, 0])]) [3], .code (sub (Eng.body Try.f20) [1, 1, 1, 0, 1, 0, 1]), .code (sub (Eng.body Try.f20) [1, 1, 1, 1])]) (e' := [(17, .pointer (some ⟨D, 0, none⟩))]) (L' := [(D, .cells #[.bool on, .int .i64 cut, .slice (some ⟨DB, 0, none⟩) n n, .slice (some ⟨VB, 0, none⟩) n n, .slice (some ⟨PB, 0, none⟩) pl pc] 54), (DB, .cells ⟨dur⟩ 5), (VB, .cells ⟨vis⟩ 5), (PB, .cells ⟨pd⟩ 56)]) ?_ (by kernel_rfl)
          refine AtE.inl 29 ⟨[.pointer (some ⟨D, 0, none⟩)]⟩ (fun W => by kernel_rfl) (by kernel_rfl) (fun W hm => AtE.calls (nt := 8) Try.func29 (by kernel_rfl) hm ?_)
          refine AtE.run 5 (fun W => by kernel_rfl) ?_
          refine AtE.store 0 0 (T := 4) (v := .bool false) (by kernel_rfl) ?_
          refine AtE.run 2 (fun W => by kernel_rfl) ?_
          refine AtE.store 0 1 (T := 3) (v := .int .i64 (0 : Int)) (by kernel_rfl) ?_
          refine AtE.run 1 (fun W => by kernel_rfl) ?_
          refine AtE.retK (v := .tuple #[]) Try.func29 (by kernel_rfl) ?_
          refine AtE.run 5 (fun W => by kernel_rfl) ?_
          exact AtE.ret Try.func20 (by kernel_rfl) H
        · replace H := H.2 h4'
          refine AtE.run 9 (fun W => by kernel_rfl) ?_
          refine AtE.store 0 1 (T := 3) (v := .int .i64 n1) (by kernel_rfl) ?_
          refine AtE.run 5 (fun W => by kernel_rfl) ?_
          exact AtE.ret Try.func20 (by kernel_rfl) H
    · replace H := H.2 h2'
      refine AtE.run 7 (fun W => by kernel_rfl) ?_
      refine AtE.retK (v := (.int .i64 (231 : Int))) Try.func25 (by kernel_rfl) ?_
      refine AtE.norm (k' := [.inRegion (regOps [.code (sub (Eng.body Try.f20) [1, 0, 0])]) [2], .code (sub (Eng.body Try.f20) [1, 0, 1]), .code (sub (Eng.body Try.f20) [1, 1])]) (e' := [(0, .pointer (some ⟨D, 0, none⟩)), (1, .int .i64 n1), (7, .int .i64 (231 : Int))]) (L' := [(D, .cells #[.bool on, .int .i64 cut, .slice (some ⟨DB, 0, none⟩) n n, .slice (some ⟨VB, 0, none⟩) n n, .slice (some ⟨PB, 0, none⟩) pl pc] 54), (DB, .cells ⟨dur⟩ 5), (VB, .cells ⟨vis⟩ 5), (PB, .cells ⟨pd⟩ 56)]) ?_ (by kernel_rfl)
      refine AtE.run 13 (fun W => by kernel_rfl) ?_
      exact AtE.ret Try.func20 (by kernel_rfl) H

theorem WriteN_vc (D : Nat) (on : Bool) (cut : Int) (DB : Nat) (n : Nat) (VB : Nat) (dur : List Value) (vis : List Value) (off : Int) (s : ByteArray) {R : Ending → World → Prop} {S : List Nat} {w0 W : World} (hm : Mem [(D, .cells #[.bool on, .int .i64 cut, .slice (some ⟨DB, 0, none⟩) n n, .slice (some ⟨VB, 0, none⟩) n n, .slice none 0 0] 54), (DB, .cells ⟨dur⟩ 5), (VB, .cells ⟨vis⟩ 5)] S w0 W)
    (H :
      ∀ t2 : Int, t2 = (n : Int) →
      ((t2 = (0 : Int)) →
        Fin R [(D, .cells #[.bool on, .int .i64 cut, .slice (some ⟨DB, 0, none⟩) n n, .slice (some ⟨VB, 0, none⟩) n n, .slice none 0 0] 54), (DB, .cells ⟨dur⟩ 5), (VB, .cells ⟨vis⟩ 5)] S w0 (.int .i64 (1 : Int))) ∧
       ((¬ (t2 = (0 : Int))) →
        ((on = true) →
          (((0 : Int) ≤ off) →
            (((0 : Int) ≤ (s.size : Int)) →
              ∀ t21 : Int, t21 = (n : Int) →
              (((s.size : Int) ≤ t21) →
                ∀ t22 : Int, t22 = (n : Int) →
                ((¬ (off ≤ (IntKind.i64.wrap (t22 - (s.size : Int))))) →
                  Fin R [(D, .cells #[.bool on, .int .i64 cut, .slice (some ⟨DB, 0, none⟩) n n, .slice (some ⟨VB, 0, none⟩) n n, .slice none 0 0] 54), (DB, .cells ⟨dur⟩ 5), (VB, .cells ⟨vis⟩ 5)] S w0 (.int .i64 (230 : Int))) ∧
                 ((off ≤ (IntKind.i64.wrap (t22 - (s.size : Int)))) →
                  ∀ B : Nat,
                  ∀ (B1 cap : Nat) (r6 : List Value), 1 ≤ cap → (([.int .i64 off, .string s] : List Value) ++ r6).length = cap * 2 →
                  (0 ≤ off ∧ off ≤ (n : Int) ∧ (n : Int) ≤ (n : Int)) ∧
                  ∀ o : Nat, o = (if (Int.toNat off) = n then 0 else 0 + (Int.toNat off) * 1) →
                  (o + (n - (Int.toNat off)) ≤ (vis).length) ∧
                  ((cut = (0 : Int)) →
                    Fin R [(D, .cells #[.bool on, .int .i64 cut, .slice (some ⟨DB, 0, none⟩) n n, .slice (some ⟨VB, 0, none⟩) n n, .slice (some ⟨B1, 0, none⟩) 1 cap] 54), (DB, .cells ⟨dur⟩ 5), (VB, .cells ⟨(over (vis) o (bytesL (s.data.toList.take (n - (Int.toNat off)))))⟩ 5), (B, .cells #[.int .i64 off, .string s] 56), (B1, .cells ⟨(([.int .i64 off, .string s] : List Value) ++ r6)⟩ 56)] S w0 (.int .i64 (0 : Int))) ∧
                   ((¬ (cut = (0 : Int))) →
                    (((IntKind.i64.wrap (cut - (1 : Int))) = (0 : Int)) →
                      Fin R [(D, .cells #[.bool false, .int .i64 (0 : Int), .slice (some ⟨DB, 0, none⟩) n n, .slice (some ⟨VB, 0, none⟩) n n, .slice (some ⟨B1, 0, none⟩) 1 cap] 54), (DB, .cells ⟨dur⟩ 5), (VB, .cells ⟨(over (vis) o (bytesL (s.data.toList.take (n - (Int.toNat off)))))⟩ 5), (B, .cells #[.int .i64 off, .string s] 56), (B1, .cells ⟨(([.int .i64 off, .string s] : List Value) ++ r6)⟩ 56)] S w0 (.int .i64 (0 : Int))) ∧
                     ((¬ ((IntKind.i64.wrap (cut - (1 : Int))) = (0 : Int))) →
                      Fin R [(D, .cells #[.bool on, .int .i64 (IntKind.i64.wrap (cut - (1 : Int))), .slice (some ⟨DB, 0, none⟩) n n, .slice (some ⟨VB, 0, none⟩) n n, .slice (some ⟨B1, 0, none⟩) 1 cap] 54), (DB, .cells ⟨dur⟩ 5), (VB, .cells ⟨(over (vis) o (bytesL (s.data.toList.take (n - (Int.toNat off)))))⟩ 5), (B, .cells #[.int .i64 off, .string s] 56), (B1, .cells ⟨(([.int .i64 off, .string s] : List Value) ++ r6)⟩ 56)] S w0 (.int .i64 (0 : Int)))))) ∧
               ((¬ ((s.size : Int) ≤ t21)) →
                Fin R [(D, .cells #[.bool on, .int .i64 cut, .slice (some ⟨DB, 0, none⟩) n n, .slice (some ⟨VB, 0, none⟩) n n, .slice none 0 0] 54), (DB, .cells ⟨dur⟩ 5), (VB, .cells ⟨vis⟩ 5)] S w0 (.int .i64 (230 : Int)))) ∧
             ((¬ ((0 : Int) ≤ (s.size : Int))) →
              Fin R [(D, .cells #[.bool on, .int .i64 cut, .slice (some ⟨DB, 0, none⟩) n n, .slice (some ⟨VB, 0, none⟩) n n, .slice none 0 0] 54), (DB, .cells ⟨dur⟩ 5), (VB, .cells ⟨vis⟩ 5)] S w0 (.int .i64 (230 : Int)))) ∧
           ((¬ ((0 : Int) ≤ off)) →
            Fin R [(D, .cells #[.bool on, .int .i64 cut, .slice (some ⟨DB, 0, none⟩) n n, .slice (some ⟨VB, 0, none⟩) n n, .slice none 0 0] 54), (DB, .cells ⟨dur⟩ 5), (VB, .cells ⟨vis⟩ 5)] S w0 (.int .i64 (230 : Int)))) ∧
         ((on = false) →
          Fin R [(D, .cells #[.bool on, .int .i64 cut, .slice (some ⟨DB, 0, none⟩) n n, .slice (some ⟨VB, 0, none⟩) n n, .slice none 0 0] 54), (DB, .cells ⟨dur⟩ 5), (VB, .cells ⟨vis⟩ 5)] S w0 (.int .i64 (231 : Int))))) :
    Calls Try.prog 17 ⟨[.pointer (some ⟨D, 0, none⟩), .int .i64 off, .string s]⟩ W R := by
  refine AtE.calls (nt := 43) Try.func17 (by kernel_rfl) hm ?_
  refine AtE.run 8 (fun W => by kernel_rfl) ?_
  refine AtE.inl 25 ⟨[.pointer (some ⟨D, 0, none⟩)]⟩ (fun W => by kernel_rfl) (by kernel_rfl) (fun W hm => AtE.calls (nt := 12) Try.func25 (by kernel_rfl) hm ?_)
  refine AtE.run 8 (fun W => by kernel_rfl) ?_
  refine AtE.norm (k' := [.inRegion (regOps [.code (sub (Eng.body Try.f25) [1, 0, 0])]) [1, 2], .code (sub (Eng.body Try.f25) [1, 0, 1]), .code (sub (Eng.body Try.f25) [1, 1])]) (e' := [(0, .pointer (some ⟨D, 0, none⟩)), (3, .pointer (some ⟨D, 0, none⟩))]) (L' := [(D, .cells #[.bool on, .int .i64 cut, .slice (some ⟨DB, 0, none⟩) n n, .slice (some ⟨VB, 0, none⟩) n n, .slice none 0 0] 54), (DB, .cells ⟨dur⟩ 5), (VB, .cells ⟨vis⟩ 5)]) ?_ (by kernel_rfl)
  refine AtE.inl 15 ⟨[.pointer (some ⟨D, 0, none⟩)]⟩ (fun W => by kernel_rfl) (by kernel_rfl) (fun W hm => AtE.calls (nt := 10) Try.func15 (by kernel_rfl) hm ?_)
  refine AtE.run 17 (fun W => by kernel_rfl) ?_
  refine AtE.load 0 2 (T := 40) (v := .slice (some ⟨DB, 0, none⟩) n n) (by kernel_rfl) ?_
  refine AtE.run 2 (fun W => by kernel_rfl) ?_
  refine AtE.letI 2 (kd := .i64) (n := (n : Int)) (by kernel_rfl) (fun t2 ht2 => ?_)
  replace H := H t2 ht2
  refine AtE.run 1 (fun W => by kernel_rfl) ?_
  refine AtE.retK (v := (.int .i64 t2)) Try.func15 (by kernel_rfl) ?_
  refine AtE.run 2 (fun W => by kernel_rfl) ?_
  refine AtE.splitP 5 (p := t2 = (0 : Int)) (by kernel_rfl) (fun h1' => ?_) (fun h1' => ?_)
  · replace H := H.1 h1'
    refine AtE.run 5 (fun W => by kernel_rfl) ?_
    refine AtE.retK (v := (.int .i64 (1 : Int))) Try.func25 (by kernel_rfl) ?_
    refine AtE.run 13 (fun W => by kernel_rfl) ?_
    exact AtE.ret Try.func17 (by kernel_rfl) H
  · replace H := H.2 h1'
    refine AtE.run 9 (fun W => by kernel_rfl) ?_
    refine AtE.load 0 0 (T := 4) (v := .bool on) (by kernel_rfl) ?_
    refine AtE.split 10 (b := on) (by kernel_rfl) (fun h2' => ?_) (fun h2' => ?_)
    · replace H := H.1 h2'
      refine AtE.run 8 (fun W => by kernel_rfl) ?_
      refine AtE.retK (v := (.int .i64 (0 : Int))) Try.func25 (by kernel_rfl) ?_
      refine AtE.norm (k' := [.inRegion (regOps [.code (sub (Eng.body Try.f17) [1, 0, 0])]) [2], .code (sub (Eng.body Try.f17) [1, 0, 1]), .code (sub (Eng.body Try.f17) [1, 1])]) (e' := [(0, .pointer (some ⟨D, 0, none⟩)), (1, .int .i64 off), (2, .string s), (9, .int .i64 (0 : Int))]) (L' := [(D, .cells #[.bool on, .int .i64 cut, .slice (some ⟨DB, 0, none⟩) n n, .slice (some ⟨VB, 0, none⟩) n n, .slice none 0 0] 54), (DB, .cells ⟨dur⟩ 5), (VB, .cells ⟨vis⟩ 5)]) ?_ (by kernel_rfl)
      refine AtE.run 16 (fun W => by kernel_rfl) ?_
      refine AtE.inl 26 ⟨[.pointer (some ⟨D, 0, none⟩), .int .i64 off, .int .i64 (s.size : Int)]⟩ (fun W => by kernel_rfl) (by kernel_rfl) (fun W hm => AtE.calls (nt := 27) Try.func26 (by kernel_rfl) hm ?_)
      refine AtE.run 9 (fun W => by kernel_rfl) ?_
      refine AtE.splitP 9 (p := (0 : Int) ≤ off) (by kernel_rfl) (fun h3' => ?_) (fun h3' => ?_)
      · replace H := H.1 h3'
        refine AtE.run 4 (fun W => by kernel_rfl) ?_
        refine AtE.splitP 13 (p := (0 : Int) ≤ (s.size : Int)) (by kernel_rfl) (fun h4' => ?_) (fun h4' => ?_)
        · replace H := H.1 h4'
          refine AtE.run 2 (fun W => by kernel_rfl) ?_
          refine AtE.norm (k' := [.inRegion (regOps [.code (sub (Eng.body Try.f26) [1, 0])]) [9, 10, 11, 12, 13, 14, 15, 16, 17, 18, 19, 20], .code (sub (Eng.body Try.f26) [1, 1])]) (e' := [(0, .pointer (some ⟨D, 0, none⟩)), (1, .int .i64 off), (2, .int .i64 (s.size : Int)), (13, .bool true), (14, .int .i64 (s.size : Int)), (15, .pointer (some ⟨D, 0, none⟩))]) (L' := [(D, .cells #[.bool on, .int .i64 cut, .slice (some ⟨DB, 0, none⟩) n n, .slice (some ⟨VB, 0, none⟩) n n, .slice none 0 0] 54), (DB, .cells ⟨dur⟩ 5), (VB, .cells ⟨vis⟩ 5)]) ?_ (by kernel_rfl)
          refine AtE.inl 15 ⟨[.pointer (some ⟨D, 0, none⟩)]⟩ (fun W => by kernel_rfl) (by kernel_rfl) (fun W hm => AtE.calls (nt := 10) Try.func15 (by kernel_rfl) hm ?_)
          refine AtE.run 17 (fun W => by kernel_rfl) ?_
          refine AtE.load 0 2 (T := 40) (v := .slice (some ⟨DB, 0, none⟩) n n) (by kernel_rfl) ?_
          refine AtE.run 2 (fun W => by kernel_rfl) ?_
          refine AtE.letI 2 (kd := .i64) (n := (n : Int)) (by kernel_rfl) (fun t21 ht21 => ?_)
          replace H := H t21 ht21
          refine AtE.run 1 (fun W => by kernel_rfl) ?_
          refine AtE.retK (v := (.int .i64 t21)) Try.func15 (by kernel_rfl) ?_
          refine AtE.run 3 (fun W => by kernel_rfl) ?_
          refine AtE.splitP 19 (p := (s.size : Int) ≤ t21) (by kernel_rfl) (fun h5' => ?_) (fun h5' => ?_)
          · replace H := H.1 h5'
            refine AtE.run 2 (fun W => by kernel_rfl) ?_
            refine AtE.norm (k' := [.inRegion (regOps [.code (sub (Eng.body Try.f26) [1, 0])]) [15, 16, 17, 18, 19, 20], .code (sub (Eng.body Try.f26) [1, 1])]) (e' := [(2, .int .i64 (s.size : Int)), (19, .bool true), (20, .int .i64 off), (21, .pointer (some ⟨D, 0, none⟩))]) (L' := [(D, .cells #[.bool on, .int .i64 cut, .slice (some ⟨DB, 0, none⟩) n n, .slice (some ⟨VB, 0, none⟩) n n, .slice none 0 0] 54), (DB, .cells ⟨dur⟩ 5), (VB, .cells ⟨vis⟩ 5)]) ?_ (by kernel_rfl)
            refine AtE.inl 15 ⟨[.pointer (some ⟨D, 0, none⟩)]⟩ (fun W => by kernel_rfl) (by kernel_rfl) (fun W hm => AtE.calls (nt := 10) Try.func15 (by kernel_rfl) hm ?_)
            refine AtE.run 17 (fun W => by kernel_rfl) ?_
            refine AtE.load 0 2 (T := 40) (v := .slice (some ⟨DB, 0, none⟩) n n) (by kernel_rfl) ?_
            refine AtE.run 2 (fun W => by kernel_rfl) ?_
            refine AtE.letI 2 (kd := .i64) (n := (n : Int)) (by kernel_rfl) (fun t22 ht22 => ?_)
            replace H := H t22 ht22
            refine AtE.run 1 (fun W => by kernel_rfl) ?_
            refine AtE.retK (v := (.int .i64 t22)) Try.func15 (by kernel_rfl) ?_
            refine AtE.run 6 (fun W => by kernel_rfl) ?_
            refine AtE.retK (v := (.bool (decide (off ≤ (IntKind.i64.wrap (t22 - (s.size : Int))))))) Try.func26 (by kernel_rfl) ?_
            refine AtE.run 2 (fun W => by kernel_rfl) ?_
            refine AtE.splitN 18 (p := off ≤ (IntKind.i64.wrap (t22 - (s.size : Int)))) (by kernel_rfl) (fun h6' => ?_) (fun h6' => ?_)
            · replace H := H.1 h6'
              refine AtE.run 5 (fun W => by kernel_rfl) ?_
              exact AtE.ret Try.func17 (by kernel_rfl) H
            · replace H := H.2 h6'
              refine AtE.run 8 (fun W => by kernel_rfl) ?_
              refine AtE.load 0 4 (T := 52) (v := .slice none 0 0) (by kernel_rfl) ?_
              refine AtE.run 3 (fun W => by kernel_rfl) ?_
              refine AtE.new (fun B => .slice (some ⟨B, 0, none⟩) 1 1) (.cells #[.int .i64 off, .string s] 56) (fun W => by kernel_rfl) (by kernel_rfl) (fun B => ?_)
              replace H := H B
              refine AtE.norm (k' := [.inRegion (regOps [.code (sub (Eng.body Try.f17) [1, 1, 1, 0])]) [9, 10, 11, 12], .code (sub (Eng.body Try.f17) [1, 1, 1, 1])]) (e' := [(0, .pointer (some ⟨D, 0, none⟩)), (1, .int .i64 off), (2, .string s), (19, .pointer (some ⟨D, 0, none⟩)), (23, .slice none 0 0), (27, .slice (some ⟨B, 0, none⟩) 1 1)]) (L' := [(D, .cells #[.bool on, .int .i64 cut, .slice (some ⟨DB, 0, none⟩) n n, .slice (some ⟨VB, 0, none⟩) n n, .slice none 0 0] 54), (DB, .cells ⟨dur⟩ 5), (VB, .cells ⟨vis⟩ 5), (B, .cells #[.int .i64 off, .string s] 56)]) ?_ (by kernel_rfl)
              refine AtE.appendN (T := 52) (E := 56) (z := .agg #[.int .i64 (0 : Int), .string (⟨#[]⟩)]) (sz := 2) (bytes := 24) (a := ⟨B, 0, none⟩) (m := 1) (c := 1) ([.int .i64 off, .string s] : List Value) (by kernel_rfl) (show Src _ _ _ _ ([.int .i64 off, .string s] : List Value) from Src.own (j := 3) (o := 0) (n := 2) (c := ([.int .i64 off, .string s] : List Value)) (by kernel_rfl)) (by simp) (by omega) (by omega) (fun B1 cap r6 h1 h2 => ?_)
              replace H := H B1 cap r6 h1 h2
              refine AtE.run 2 (fun W => by kernel_rfl) ?_
              refine AtE.store 0 4 (T := 52) (v := .slice (some ⟨B1, 0, none⟩) 1 cap) (by kernel_rfl) ?_
              refine AtE.run 6 (fun W => by kernel_rfl) ?_
              refine AtE.load 0 3 (T := 40) (v := .slice (some ⟨VB, 0, none⟩) n n) (by kernel_rfl) ?_
              refine AtE.run 1 (fun W => by kernel_rfl) ?_
              obtain ⟨o, ho⟩ : ∃ x : Nat, x = (if (Int.toNat off) = n then 0 else 0 + (Int.toNat off) * 1) := ⟨_, rfl⟩
              refine AtE.sliceL (E := 5) (b := VB) (o := 0) (len := n) (cap := n) (sz := 1) (o' := o) (l' := (n - (Int.toNat off))) (c' := (n - (Int.toNat off))) (lo := some (.int .i64 off)) (hi := none) (x := off) (y := (n : Int)) (by kernel_rfl) (.inl ⟨.i64, rfl⟩) (.inr ⟨rfl, rfl, by omega⟩) H.1 ho (by simp) rfl ?_
              replace H := H.2 o ho
              refine AtE.run 1 (fun W => by kernel_rfl) ?_
              refine AtE.copyS 2 (T := 40) (E := 5) (U := 9) (o := o) (dl := (n - (Int.toNat off))) (dc := (n - (Int.toNat off))) (s := s) (c := vis) (by kernel_rfl) H.1 ?_
              replace H := H.2
              refine AtE.run 6 (fun W => by kernel_rfl) ?_
              refine AtE.norm (k' := [.inRegion (regOps [.code (sub (Eng.body Try.f17) [1, 1, 1, 1, 1, 0])]) [3], .code (sub (Eng.body Try.f17) [1, 1, 1, 1, 1, 1])]) (e' := [(41, .pointer (some ⟨D, 0, none⟩))]) (L' := [(D, .cells #[.bool on, .int .i64 cut, .slice (some ⟨DB, 0, none⟩) n n, .slice (some ⟨VB, 0, none⟩) n n, .slice (some ⟨B1, 0, none⟩) 1 cap] 54), (DB, .cells ⟨dur⟩ 5), (VB, .cells ⟨(over (vis) o (bytesL (s.data.toList.take (n - (Int.toNat off)))))⟩ 5), (B, .cells #[.int .i64 off, .string s] 56), (B1, .cells ⟨(([.int .i64 off, .string s] : List Value) ++ r6)⟩ 56)]) ?_ (by kernel_rfl)
              refine AtE.inl 27 ⟨[.pointer (some ⟨D, 0, none⟩)]⟩ (fun W => by kernel_rfl) (by kernel_rfl) (fun W hm => AtE.calls (nt := 21) Try.func27 (by kernel_rfl) hm ?_)
              refine AtE.run 6 (fun W => by kernel_rfl) ?_
              refine AtE.load 0 1 (T := 3) (v := .int .i64 cut) (by kernel_rfl) ?_
              refine AtE.run 2 (fun W => by kernel_rfl) ?_
              refine AtE.splitP 6 (p := cut = (0 : Int)) (by kernel_rfl) (fun h7' => ?_) (fun h7' => ?_)
              · replace H := H.1 h7'
                refine AtE.run 1 (fun W => by kernel_rfl) ?_
                refine AtE.retK (v := .tuple #[]) Try.func27 (by kernel_rfl) ?_
                refine AtE.run 5 (fun W => by kernel_rfl) ?_
                exact AtE.ret Try.func17 (by kernel_rfl) H
              · replace H := H.2 h7'
                refine AtE.run 7 (fun W => by kernel_rfl) ?_
                refine AtE.load 0 1 (T := 3) (v := .int .i64 cut) (by kernel_rfl) ?_
                refine AtE.run 3 (fun W => by kernel_rfl) ?_
                refine AtE.store 0 1 (T := 3) (v := .int .i64 (IntKind.i64.wrap (cut - (1 : Int)))) (by kernel_rfl) ?_
                refine AtE.run 6 (fun W => by kernel_rfl) ?_
                refine AtE.load 0 1 (T := 3) (v := .int .i64 (IntKind.i64.wrap (cut - (1 : Int)))) (by kernel_rfl) ?_
                refine AtE.run 2 (fun W => by kernel_rfl) ?_
                refine AtE.splitP 18 (p := (IntKind.i64.wrap (cut - (1 : Int))) = (0 : Int)) (by kernel_rfl) (fun h8' => ?_) (fun h8' => ?_)
                · replace H := H.1 h8'
                  refine AtE.run 3 (fun W => by kernel_rfl) ?_
                  refine AtE.norm (k' := [.inRegion (regOps [.code (sub (Eng.body Try.f27) [1, 1, 1, 0])]) [1]]) (e' := [(19, .pointer (some ⟨D, 0, none⟩))]) (L' := [(D, .cells #[.bool on, .int .i64 (IntKind.i64.wrap (cut - (1 : Int))), .slice (some ⟨DB, 0, none⟩) n n, .slice (some ⟨VB, 0, none⟩) n n, .slice (some ⟨B1, 0, none⟩) 1 cap] 54), (DB, .cells ⟨dur⟩ 5), (VB, .cells ⟨(over (vis) o (bytesL (s.data.toList.take (n - (Int.toNat off)))))⟩ 5), (B, .cells #[.int .i64 off, .string s] 56), (B1, .cells ⟨(([.int .i64 off, .string s] : List Value) ++ r6)⟩ 56)]) ?_ (by kernel_rfl)
                  refine AtE.inl 29 ⟨[.pointer (some ⟨D, 0, none⟩)]⟩ (fun W => by kernel_rfl) (by kernel_rfl) (fun W hm => AtE.calls (nt := 8) Try.func29 (by kernel_rfl) hm ?_)
                  refine AtE.run 5 (fun W => by kernel_rfl) ?_
                  refine AtE.store 0 0 (T := 4) (v := .bool false) (by kernel_rfl) ?_
                  refine AtE.run 2 (fun W => by kernel_rfl) ?_
                  refine AtE.store 0 1 (T := 3) (v := .int .i64 (0 : Int)) (by kernel_rfl) ?_
                  refine AtE.run 1 (fun W => by kernel_rfl) ?_
                  refine AtE.retK (v := .tuple #[]) Try.func29 (by kernel_rfl) ?_
                  refine AtE.run 1 (fun W => by kernel_rfl) ?_
                  refine AtE.retK (v := .tuple #[]) Try.func27 (by kernel_rfl) ?_
                  refine AtE.run 5 (fun W => by kernel_rfl) ?_
                  exact AtE.ret Try.func17 (by kernel_rfl) H
                · replace H := H.2 h8'
                  refine AtE.run 2 (fun W => by kernel_rfl) ?_
                  refine AtE.retK (v := .tuple #[]) Try.func27 (by kernel_rfl) ?_
                  refine AtE.norm (k' := [.inRegion (regOps [.code (sub (Eng.body Try.f17) [1, 1, 1, 1, 1, 0])]) [], .code (sub (Eng.body Try.f17) [1, 1, 1, 1, 1, 1])]) (e' := []) (L' := [(D, .cells #[.bool on, .int .i64 (IntKind.i64.wrap (cut - (1 : Int))), .slice (some ⟨DB, 0, none⟩) n n, .slice (some ⟨VB, 0, none⟩) n n, .slice (some ⟨B1, 0, none⟩) 1 cap] 54), (DB, .cells ⟨dur⟩ 5), (VB, .cells ⟨(over (vis) o (bytesL (s.data.toList.take (n - (Int.toNat off)))))⟩ 5), (B, .cells #[.int .i64 off, .string s] 56), (B1, .cells ⟨(([.int .i64 off, .string s] : List Value) ++ r6)⟩ 56)]) ?_ (by kernel_rfl)
                  refine AtE.run 5 (fun W => by kernel_rfl) ?_
                  exact AtE.ret Try.func17 (by kernel_rfl) H
          · replace H := H.2 h5'
            refine AtE.run 9 (fun W => by kernel_rfl) ?_
            refine AtE.retK (v := (.bool false)) Try.func26 (by kernel_rfl) ?_
            refine AtE.run 7 (fun W => by kernel_rfl) ?_
            exact AtE.ret Try.func17 (by kernel_rfl) H
        · replace H := H.2 h4'
          refine AtE.run 15 (fun W => by kernel_rfl) ?_
          refine AtE.retK (v := (.bool false)) Try.func26 (by kernel_rfl) ?_
          refine AtE.run 7 (fun W => by kernel_rfl) ?_
          exact AtE.ret Try.func17 (by kernel_rfl) H
      · replace H := H.2 h3'
        refine AtE.run 19 (fun W => by kernel_rfl) ?_
        refine AtE.retK (v := (.bool false)) Try.func26 (by kernel_rfl) ?_
        refine AtE.run 7 (fun W => by kernel_rfl) ?_
        exact AtE.ret Try.func17 (by kernel_rfl) H
    · replace H := H.2 h2'
      refine AtE.run 7 (fun W => by kernel_rfl) ?_
      refine AtE.retK (v := (.int .i64 (231 : Int))) Try.func25 (by kernel_rfl) ?_
      refine AtE.norm (k' := [.inRegion (regOps [.code (sub (Eng.body Try.f17) [1, 0, 0])]) [2], .code (sub (Eng.body Try.f17) [1, 0, 1]), .code (sub (Eng.body Try.f17) [1, 1])]) (e' := [(0, .pointer (some ⟨D, 0, none⟩)), (1, .int .i64 off), (2, .string s), (9, .int .i64 (231 : Int))]) (L' := [(D, .cells #[.bool on, .int .i64 cut, .slice (some ⟨DB, 0, none⟩) n n, .slice (some ⟨VB, 0, none⟩) n n, .slice none 0 0] 54), (DB, .cells ⟨dur⟩ 5), (VB, .cells ⟨vis⟩ 5)]) ?_ (by kernel_rfl)
      refine AtE.run 13 (fun W => by kernel_rfl) ?_
      exact AtE.ret Try.func17 (by kernel_rfl) H

theorem WriteR_vc (D : Nat) (on : Bool) (cut : Int) (DB : Nat) (n : Nat) (VB : Nat) (dur : List Value) (vis : List Value) (PB : Nat) (pl : Nat) (pc : Nat) (pd : List Value) (off : Int) (s : ByteArray) {R : Ending → World → Prop} {S : List Nat} {w0 W : World} (hm : Mem [(D, .cells #[.bool on, .int .i64 cut, .slice (some ⟨DB, 0, none⟩) n n, .slice (some ⟨VB, 0, none⟩) n n, .slice (some ⟨PB, 0, none⟩) pl pc] 54), (DB, .cells ⟨dur⟩ 5), (VB, .cells ⟨vis⟩ 5), (PB, .cells ⟨pd⟩ 56)] S w0 W)
    (H :
      ∀ t2 : Int, t2 = (n : Int) →
      ((t2 = (0 : Int)) →
        Fin R [(D, .cells #[.bool on, .int .i64 cut, .slice (some ⟨DB, 0, none⟩) n n, .slice (some ⟨VB, 0, none⟩) n n, .slice (some ⟨PB, 0, none⟩) pl pc] 54), (DB, .cells ⟨dur⟩ 5), (VB, .cells ⟨vis⟩ 5), (PB, .cells ⟨pd⟩ 56)] S w0 (.int .i64 (1 : Int))) ∧
       ((¬ (t2 = (0 : Int))) →
        ((on = true) →
          (((0 : Int) ≤ off) →
            (((0 : Int) ≤ (s.size : Int)) →
              ∀ t21 : Int, t21 = (n : Int) →
              (((s.size : Int) ≤ t21) →
                ∀ t22 : Int, t22 = (n : Int) →
                ((¬ (off ≤ (IntKind.i64.wrap (t22 - (s.size : Int))))) →
                  Fin R [(D, .cells #[.bool on, .int .i64 cut, .slice (some ⟨DB, 0, none⟩) n n, .slice (some ⟨VB, 0, none⟩) n n, .slice (some ⟨PB, 0, none⟩) pl pc] 54), (DB, .cells ⟨dur⟩ 5), (VB, .cells ⟨vis⟩ 5), (PB, .cells ⟨pd⟩ 56)] S w0 (.int .i64 (230 : Int))) ∧
                 ((off ≤ (IntKind.i64.wrap (t22 - (s.size : Int)))) →
                  ∀ B : Nat,
                  (pl ≤ pc ∧ (pd).length = pc * 2) ∧ ((pl + 1) ≤ 9223372036854775807 ∧ (pl + 1) * 24 ≤ 140737488355328) ∧
                  ∀ (B1 cap : Nat) (r6 : List Value), (pl + 1) ≤ cap → ((pd).take (pl * 2) ++ ([.int .i64 off, .string s] : List Value) ++ r6).length = cap * 2 →
                  (0 ≤ off ∧ off ≤ (n : Int) ∧ (n : Int) ≤ (n : Int)) ∧
                  ∀ o : Nat, o = (if (Int.toNat off) = n then 0 else 0 + (Int.toNat off) * 1) →
                  (o + (n - (Int.toNat off)) ≤ (vis).length) ∧
                  ((cut = (0 : Int)) →
                    Fin R [(D, .cells #[.bool on, .int .i64 cut, .slice (some ⟨DB, 0, none⟩) n n, .slice (some ⟨VB, 0, none⟩) n n, .slice (some ⟨B1, 0, none⟩) (pl + 1) cap] 54), (DB, .cells ⟨dur⟩ 5), (VB, .cells ⟨(over (vis) o (bytesL (s.data.toList.take (n - (Int.toNat off)))))⟩ 5), (B, .cells #[.int .i64 off, .string s] 56), (B1, .cells ⟨((pd).take (pl * 2) ++ ([.int .i64 off, .string s] : List Value) ++ r6)⟩ 56)] S w0 (.int .i64 (0 : Int))) ∧
                   ((¬ (cut = (0 : Int))) →
                    (((IntKind.i64.wrap (cut - (1 : Int))) = (0 : Int)) →
                      Fin R [(D, .cells #[.bool false, .int .i64 (0 : Int), .slice (some ⟨DB, 0, none⟩) n n, .slice (some ⟨VB, 0, none⟩) n n, .slice (some ⟨B1, 0, none⟩) (pl + 1) cap] 54), (DB, .cells ⟨dur⟩ 5), (VB, .cells ⟨(over (vis) o (bytesL (s.data.toList.take (n - (Int.toNat off)))))⟩ 5), (B, .cells #[.int .i64 off, .string s] 56), (B1, .cells ⟨((pd).take (pl * 2) ++ ([.int .i64 off, .string s] : List Value) ++ r6)⟩ 56)] S w0 (.int .i64 (0 : Int))) ∧
                     ((¬ ((IntKind.i64.wrap (cut - (1 : Int))) = (0 : Int))) →
                      Fin R [(D, .cells #[.bool on, .int .i64 (IntKind.i64.wrap (cut - (1 : Int))), .slice (some ⟨DB, 0, none⟩) n n, .slice (some ⟨VB, 0, none⟩) n n, .slice (some ⟨B1, 0, none⟩) (pl + 1) cap] 54), (DB, .cells ⟨dur⟩ 5), (VB, .cells ⟨(over (vis) o (bytesL (s.data.toList.take (n - (Int.toNat off)))))⟩ 5), (B, .cells #[.int .i64 off, .string s] 56), (B1, .cells ⟨((pd).take (pl * 2) ++ ([.int .i64 off, .string s] : List Value) ++ r6)⟩ 56)] S w0 (.int .i64 (0 : Int)))))) ∧
               ((¬ ((s.size : Int) ≤ t21)) →
                Fin R [(D, .cells #[.bool on, .int .i64 cut, .slice (some ⟨DB, 0, none⟩) n n, .slice (some ⟨VB, 0, none⟩) n n, .slice (some ⟨PB, 0, none⟩) pl pc] 54), (DB, .cells ⟨dur⟩ 5), (VB, .cells ⟨vis⟩ 5), (PB, .cells ⟨pd⟩ 56)] S w0 (.int .i64 (230 : Int)))) ∧
             ((¬ ((0 : Int) ≤ (s.size : Int))) →
              Fin R [(D, .cells #[.bool on, .int .i64 cut, .slice (some ⟨DB, 0, none⟩) n n, .slice (some ⟨VB, 0, none⟩) n n, .slice (some ⟨PB, 0, none⟩) pl pc] 54), (DB, .cells ⟨dur⟩ 5), (VB, .cells ⟨vis⟩ 5), (PB, .cells ⟨pd⟩ 56)] S w0 (.int .i64 (230 : Int)))) ∧
           ((¬ ((0 : Int) ≤ off)) →
            Fin R [(D, .cells #[.bool on, .int .i64 cut, .slice (some ⟨DB, 0, none⟩) n n, .slice (some ⟨VB, 0, none⟩) n n, .slice (some ⟨PB, 0, none⟩) pl pc] 54), (DB, .cells ⟨dur⟩ 5), (VB, .cells ⟨vis⟩ 5), (PB, .cells ⟨pd⟩ 56)] S w0 (.int .i64 (230 : Int)))) ∧
         ((on = false) →
          Fin R [(D, .cells #[.bool on, .int .i64 cut, .slice (some ⟨DB, 0, none⟩) n n, .slice (some ⟨VB, 0, none⟩) n n, .slice (some ⟨PB, 0, none⟩) pl pc] 54), (DB, .cells ⟨dur⟩ 5), (VB, .cells ⟨vis⟩ 5), (PB, .cells ⟨pd⟩ 56)] S w0 (.int .i64 (231 : Int))))) :
    Calls Try.prog 17 ⟨[.pointer (some ⟨D, 0, none⟩), .int .i64 off, .string s]⟩ W R := by
  refine AtE.calls (nt := 43) Try.func17 (by kernel_rfl) hm ?_
  refine AtE.run 8 (fun W => by kernel_rfl) ?_
  refine AtE.inl 25 ⟨[.pointer (some ⟨D, 0, none⟩)]⟩ (fun W => by kernel_rfl) (by kernel_rfl) (fun W hm => AtE.calls (nt := 12) Try.func25 (by kernel_rfl) hm ?_)
  refine AtE.run 8 (fun W => by kernel_rfl) ?_
  refine AtE.norm (k' := [.inRegion (regOps [.code (sub (Eng.body Try.f25) [1, 0, 0])]) [1, 2], .code (sub (Eng.body Try.f25) [1, 0, 1]), .code (sub (Eng.body Try.f25) [1, 1])]) (e' := [(0, .pointer (some ⟨D, 0, none⟩)), (3, .pointer (some ⟨D, 0, none⟩))]) (L' := [(D, .cells #[.bool on, .int .i64 cut, .slice (some ⟨DB, 0, none⟩) n n, .slice (some ⟨VB, 0, none⟩) n n, .slice (some ⟨PB, 0, none⟩) pl pc] 54), (DB, .cells ⟨dur⟩ 5), (VB, .cells ⟨vis⟩ 5), (PB, .cells ⟨pd⟩ 56)]) ?_ (by kernel_rfl)
  refine AtE.inl 15 ⟨[.pointer (some ⟨D, 0, none⟩)]⟩ (fun W => by kernel_rfl) (by kernel_rfl) (fun W hm => AtE.calls (nt := 10) Try.func15 (by kernel_rfl) hm ?_)
  refine AtE.run 17 (fun W => by kernel_rfl) ?_
  refine AtE.load 0 2 (T := 40) (v := .slice (some ⟨DB, 0, none⟩) n n) (by kernel_rfl) ?_
  refine AtE.run 2 (fun W => by kernel_rfl) ?_
  refine AtE.letI 2 (kd := .i64) (n := (n : Int)) (by kernel_rfl) (fun t2 ht2 => ?_)
  replace H := H t2 ht2
  refine AtE.run 1 (fun W => by kernel_rfl) ?_
  refine AtE.retK (v := (.int .i64 t2)) Try.func15 (by kernel_rfl) ?_
  refine AtE.run 2 (fun W => by kernel_rfl) ?_
  refine AtE.splitP 5 (p := t2 = (0 : Int)) (by kernel_rfl) (fun h1' => ?_) (fun h1' => ?_)
  · replace H := H.1 h1'
    refine AtE.run 5 (fun W => by kernel_rfl) ?_
    refine AtE.retK (v := (.int .i64 (1 : Int))) Try.func25 (by kernel_rfl) ?_
    refine AtE.run 13 (fun W => by kernel_rfl) ?_
    exact AtE.ret Try.func17 (by kernel_rfl) H
  · replace H := H.2 h1'
    refine AtE.run 9 (fun W => by kernel_rfl) ?_
    refine AtE.load 0 0 (T := 4) (v := .bool on) (by kernel_rfl) ?_
    refine AtE.split 10 (b := on) (by kernel_rfl) (fun h2' => ?_) (fun h2' => ?_)
    · replace H := H.1 h2'
      refine AtE.run 8 (fun W => by kernel_rfl) ?_
      refine AtE.retK (v := (.int .i64 (0 : Int))) Try.func25 (by kernel_rfl) ?_
      refine AtE.norm (k' := [.inRegion (regOps [.code (sub (Eng.body Try.f17) [1, 0, 0])]) [2], .code (sub (Eng.body Try.f17) [1, 0, 1]), .code (sub (Eng.body Try.f17) [1, 1])]) (e' := [(0, .pointer (some ⟨D, 0, none⟩)), (1, .int .i64 off), (2, .string s), (9, .int .i64 (0 : Int))]) (L' := [(D, .cells #[.bool on, .int .i64 cut, .slice (some ⟨DB, 0, none⟩) n n, .slice (some ⟨VB, 0, none⟩) n n, .slice (some ⟨PB, 0, none⟩) pl pc] 54), (DB, .cells ⟨dur⟩ 5), (VB, .cells ⟨vis⟩ 5), (PB, .cells ⟨pd⟩ 56)]) ?_ (by kernel_rfl)
      refine AtE.run 16 (fun W => by kernel_rfl) ?_
      refine AtE.inl 26 ⟨[.pointer (some ⟨D, 0, none⟩), .int .i64 off, .int .i64 (s.size : Int)]⟩ (fun W => by kernel_rfl) (by kernel_rfl) (fun W hm => AtE.calls (nt := 27) Try.func26 (by kernel_rfl) hm ?_)
      refine AtE.run 9 (fun W => by kernel_rfl) ?_
      refine AtE.splitP 9 (p := (0 : Int) ≤ off) (by kernel_rfl) (fun h3' => ?_) (fun h3' => ?_)
      · replace H := H.1 h3'
        refine AtE.run 4 (fun W => by kernel_rfl) ?_
        refine AtE.splitP 13 (p := (0 : Int) ≤ (s.size : Int)) (by kernel_rfl) (fun h4' => ?_) (fun h4' => ?_)
        · replace H := H.1 h4'
          refine AtE.run 2 (fun W => by kernel_rfl) ?_
          refine AtE.norm (k' := [.inRegion (regOps [.code (sub (Eng.body Try.f26) [1, 0])]) [9, 10, 11, 12, 13, 14, 15, 16, 17, 18, 19, 20], .code (sub (Eng.body Try.f26) [1, 1])]) (e' := [(0, .pointer (some ⟨D, 0, none⟩)), (1, .int .i64 off), (2, .int .i64 (s.size : Int)), (13, .bool true), (14, .int .i64 (s.size : Int)), (15, .pointer (some ⟨D, 0, none⟩))]) (L' := [(D, .cells #[.bool on, .int .i64 cut, .slice (some ⟨DB, 0, none⟩) n n, .slice (some ⟨VB, 0, none⟩) n n, .slice (some ⟨PB, 0, none⟩) pl pc] 54), (DB, .cells ⟨dur⟩ 5), (VB, .cells ⟨vis⟩ 5), (PB, .cells ⟨pd⟩ 56)]) ?_ (by kernel_rfl)
          refine AtE.inl 15 ⟨[.pointer (some ⟨D, 0, none⟩)]⟩ (fun W => by kernel_rfl) (by kernel_rfl) (fun W hm => AtE.calls (nt := 10) Try.func15 (by kernel_rfl) hm ?_)
          refine AtE.run 17 (fun W => by kernel_rfl) ?_
          refine AtE.load 0 2 (T := 40) (v := .slice (some ⟨DB, 0, none⟩) n n) (by kernel_rfl) ?_
          refine AtE.run 2 (fun W => by kernel_rfl) ?_
          refine AtE.letI 2 (kd := .i64) (n := (n : Int)) (by kernel_rfl) (fun t21 ht21 => ?_)
          replace H := H t21 ht21
          refine AtE.run 1 (fun W => by kernel_rfl) ?_
          refine AtE.retK (v := (.int .i64 t21)) Try.func15 (by kernel_rfl) ?_
          refine AtE.run 3 (fun W => by kernel_rfl) ?_
          refine AtE.splitP 19 (p := (s.size : Int) ≤ t21) (by kernel_rfl) (fun h5' => ?_) (fun h5' => ?_)
          · replace H := H.1 h5'
            refine AtE.run 2 (fun W => by kernel_rfl) ?_
            refine AtE.norm (k' := [.inRegion (regOps [.code (sub (Eng.body Try.f26) [1, 0])]) [15, 16, 17, 18, 19, 20], .code (sub (Eng.body Try.f26) [1, 1])]) (e' := [(2, .int .i64 (s.size : Int)), (19, .bool true), (20, .int .i64 off), (21, .pointer (some ⟨D, 0, none⟩))]) (L' := [(D, .cells #[.bool on, .int .i64 cut, .slice (some ⟨DB, 0, none⟩) n n, .slice (some ⟨VB, 0, none⟩) n n, .slice (some ⟨PB, 0, none⟩) pl pc] 54), (DB, .cells ⟨dur⟩ 5), (VB, .cells ⟨vis⟩ 5), (PB, .cells ⟨pd⟩ 56)]) ?_ (by kernel_rfl)
            refine AtE.inl 15 ⟨[.pointer (some ⟨D, 0, none⟩)]⟩ (fun W => by kernel_rfl) (by kernel_rfl) (fun W hm => AtE.calls (nt := 10) Try.func15 (by kernel_rfl) hm ?_)
            refine AtE.run 17 (fun W => by kernel_rfl) ?_
            refine AtE.load 0 2 (T := 40) (v := .slice (some ⟨DB, 0, none⟩) n n) (by kernel_rfl) ?_
            refine AtE.run 2 (fun W => by kernel_rfl) ?_
            refine AtE.letI 2 (kd := .i64) (n := (n : Int)) (by kernel_rfl) (fun t22 ht22 => ?_)
            replace H := H t22 ht22
            refine AtE.run 1 (fun W => by kernel_rfl) ?_
            refine AtE.retK (v := (.int .i64 t22)) Try.func15 (by kernel_rfl) ?_
            refine AtE.run 6 (fun W => by kernel_rfl) ?_
            refine AtE.retK (v := (.bool (decide (off ≤ (IntKind.i64.wrap (t22 - (s.size : Int))))))) Try.func26 (by kernel_rfl) ?_
            refine AtE.run 2 (fun W => by kernel_rfl) ?_
            refine AtE.splitN 18 (p := off ≤ (IntKind.i64.wrap (t22 - (s.size : Int)))) (by kernel_rfl) (fun h6' => ?_) (fun h6' => ?_)
            · replace H := H.1 h6'
              refine AtE.run 5 (fun W => by kernel_rfl) ?_
              exact AtE.ret Try.func17 (by kernel_rfl) H
            · replace H := H.2 h6'
              refine AtE.run 8 (fun W => by kernel_rfl) ?_
              refine AtE.load 0 4 (T := 52) (v := .slice (some ⟨PB, 0, none⟩) pl pc) (by kernel_rfl) ?_
              refine AtE.run 3 (fun W => by kernel_rfl) ?_
              refine AtE.new (fun B => .slice (some ⟨B, 0, none⟩) 1 1) (.cells #[.int .i64 off, .string s] 56) (fun W => by kernel_rfl) (by kernel_rfl) (fun B => ?_)
              replace H := H B
              refine AtE.norm (k' := [.inRegion (regOps [.code (sub (Eng.body Try.f17) [1, 1, 1, 0])]) [9, 10, 11, 12], .code (sub (Eng.body Try.f17) [1, 1, 1, 1])]) (e' := [(0, .pointer (some ⟨D, 0, none⟩)), (1, .int .i64 off), (2, .string s), (19, .pointer (some ⟨D, 0, none⟩)), (23, .slice (some ⟨PB, 0, none⟩) pl pc), (27, .slice (some ⟨B, 0, none⟩) 1 1)]) (L' := [(D, .cells #[.bool on, .int .i64 cut, .slice (some ⟨DB, 0, none⟩) n n, .slice (some ⟨VB, 0, none⟩) n n, .slice (some ⟨PB, 0, none⟩) pl pc] 54), (DB, .cells ⟨dur⟩ 5), (VB, .cells ⟨vis⟩ 5), (PB, .cells ⟨pd⟩ 56), (B, .cells #[.int .i64 off, .string s] 56)]) ?_ (by kernel_rfl)
              refine AtE.appendO 3 (T := 52) (E := 56) (z := .agg #[.int .i64 (0 : Int), .string (⟨#[]⟩)]) (sz := 2) (bytes := 24) (n := pl) (cap := pc) (a := ⟨B, 0, none⟩) (m := 1) (c := 1) (cs := pd) ([.int .i64 off, .string s] : List Value) (by kernel_rfl) (show Src _ _ _ _ ([.int .i64 off, .string s] : List Value) from Src.own (j := 4) (o := 0) (n := 2) (c := ([.int .i64 off, .string s] : List Value)) (by kernel_rfl)) (by simp) (by simp [Value.oneCell']) H.1 H.2.1 (fun B1 cap r6 h1 h2 => ?_)
              replace H := H.2.2 B1 cap r6 h1 h2
              refine AtE.run 2 (fun W => by kernel_rfl) ?_
              refine AtE.store 0 4 (T := 52) (v := .slice (some ⟨B1, 0, none⟩) (pl + 1) cap) (by kernel_rfl) ?_
              refine AtE.run 6 (fun W => by kernel_rfl) ?_
              refine AtE.load 0 3 (T := 40) (v := .slice (some ⟨VB, 0, none⟩) n n) (by kernel_rfl) ?_
              refine AtE.run 1 (fun W => by kernel_rfl) ?_
              obtain ⟨o, ho⟩ : ∃ x : Nat, x = (if (Int.toNat off) = n then 0 else 0 + (Int.toNat off) * 1) := ⟨_, rfl⟩
              refine AtE.sliceL (E := 5) (b := VB) (o := 0) (len := n) (cap := n) (sz := 1) (o' := o) (l' := (n - (Int.toNat off))) (c' := (n - (Int.toNat off))) (lo := some (.int .i64 off)) (hi := none) (x := off) (y := (n : Int)) (by kernel_rfl) (.inl ⟨.i64, rfl⟩) (.inr ⟨rfl, rfl, by omega⟩) H.1 ho (by simp) rfl ?_
              replace H := H.2 o ho
              refine AtE.run 1 (fun W => by kernel_rfl) ?_
              refine AtE.copyS 2 (T := 40) (E := 5) (U := 9) (o := o) (dl := (n - (Int.toNat off))) (dc := (n - (Int.toNat off))) (s := s) (c := vis) (by kernel_rfl) H.1 ?_
              replace H := H.2
              refine AtE.run 6 (fun W => by kernel_rfl) ?_
              refine AtE.norm (k' := [.inRegion (regOps [.code (sub (Eng.body Try.f17) [1, 1, 1, 1, 1, 0])]) [3], .code (sub (Eng.body Try.f17) [1, 1, 1, 1, 1, 1])]) (e' := [(41, .pointer (some ⟨D, 0, none⟩))]) (L' := [(D, .cells #[.bool on, .int .i64 cut, .slice (some ⟨DB, 0, none⟩) n n, .slice (some ⟨VB, 0, none⟩) n n, .slice (some ⟨B1, 0, none⟩) (pl + 1) cap] 54), (DB, .cells ⟨dur⟩ 5), (VB, .cells ⟨(over (vis) o (bytesL (s.data.toList.take (n - (Int.toNat off)))))⟩ 5), (B, .cells #[.int .i64 off, .string s] 56), (B1, .cells ⟨((pd).take (pl * 2) ++ ([.int .i64 off, .string s] : List Value) ++ r6)⟩ 56)]) ?_ (by kernel_rfl)
              refine AtE.inl 27 ⟨[.pointer (some ⟨D, 0, none⟩)]⟩ (fun W => by kernel_rfl) (by kernel_rfl) (fun W hm => AtE.calls (nt := 21) Try.func27 (by kernel_rfl) hm ?_)
              refine AtE.run 6 (fun W => by kernel_rfl) ?_
              refine AtE.load 0 1 (T := 3) (v := .int .i64 cut) (by kernel_rfl) ?_
              refine AtE.run 2 (fun W => by kernel_rfl) ?_
              refine AtE.splitP 6 (p := cut = (0 : Int)) (by kernel_rfl) (fun h7' => ?_) (fun h7' => ?_)
              · replace H := H.1 h7'
                refine AtE.run 1 (fun W => by kernel_rfl) ?_
                refine AtE.retK (v := .tuple #[]) Try.func27 (by kernel_rfl) ?_
                refine AtE.run 5 (fun W => by kernel_rfl) ?_
                exact AtE.ret Try.func17 (by kernel_rfl) H
              · replace H := H.2 h7'
                refine AtE.run 7 (fun W => by kernel_rfl) ?_
                refine AtE.load 0 1 (T := 3) (v := .int .i64 cut) (by kernel_rfl) ?_
                refine AtE.run 3 (fun W => by kernel_rfl) ?_
                refine AtE.store 0 1 (T := 3) (v := .int .i64 (IntKind.i64.wrap (cut - (1 : Int)))) (by kernel_rfl) ?_
                refine AtE.run 6 (fun W => by kernel_rfl) ?_
                refine AtE.load 0 1 (T := 3) (v := .int .i64 (IntKind.i64.wrap (cut - (1 : Int)))) (by kernel_rfl) ?_
                refine AtE.run 2 (fun W => by kernel_rfl) ?_
                refine AtE.splitP 18 (p := (IntKind.i64.wrap (cut - (1 : Int))) = (0 : Int)) (by kernel_rfl) (fun h8' => ?_) (fun h8' => ?_)
                · replace H := H.1 h8'
                  refine AtE.run 3 (fun W => by kernel_rfl) ?_
                  refine AtE.norm (k' := [.inRegion (regOps [.code (sub (Eng.body Try.f27) [1, 1, 1, 0])]) [1]]) (e' := [(19, .pointer (some ⟨D, 0, none⟩))]) (L' := [(D, .cells #[.bool on, .int .i64 (IntKind.i64.wrap (cut - (1 : Int))), .slice (some ⟨DB, 0, none⟩) n n, .slice (some ⟨VB, 0, none⟩) n n, .slice (some ⟨B1, 0, none⟩) (pl + 1) cap] 54), (DB, .cells ⟨dur⟩ 5), (VB, .cells ⟨(over (vis) o (bytesL (s.data.toList.take (n - (Int.toNat off)))))⟩ 5), (B, .cells #[.int .i64 off, .string s] 56), (B1, .cells ⟨((pd).take (pl * 2) ++ ([.int .i64 off, .string s] : List Value) ++ r6)⟩ 56)]) ?_ (by kernel_rfl)
                  refine AtE.inl 29 ⟨[.pointer (some ⟨D, 0, none⟩)]⟩ (fun W => by kernel_rfl) (by kernel_rfl) (fun W hm => AtE.calls (nt := 8) Try.func29 (by kernel_rfl) hm ?_)
                  refine AtE.run 5 (fun W => by kernel_rfl) ?_
                  refine AtE.store 0 0 (T := 4) (v := .bool false) (by kernel_rfl) ?_
                  refine AtE.run 2 (fun W => by kernel_rfl) ?_
                  refine AtE.store 0 1 (T := 3) (v := .int .i64 (0 : Int)) (by kernel_rfl) ?_
                  refine AtE.run 1 (fun W => by kernel_rfl) ?_
                  refine AtE.retK (v := .tuple #[]) Try.func29 (by kernel_rfl) ?_
                  refine AtE.run 1 (fun W => by kernel_rfl) ?_
                  refine AtE.retK (v := .tuple #[]) Try.func27 (by kernel_rfl) ?_
                  refine AtE.run 5 (fun W => by kernel_rfl) ?_
                  exact AtE.ret Try.func17 (by kernel_rfl) H
                · replace H := H.2 h8'
                  refine AtE.run 2 (fun W => by kernel_rfl) ?_
                  refine AtE.retK (v := .tuple #[]) Try.func27 (by kernel_rfl) ?_
                  refine AtE.norm (k' := [.inRegion (regOps [.code (sub (Eng.body Try.f17) [1, 1, 1, 1, 1, 0])]) [], .code (sub (Eng.body Try.f17) [1, 1, 1, 1, 1, 1])]) (e' := []) (L' := [(D, .cells #[.bool on, .int .i64 (IntKind.i64.wrap (cut - (1 : Int))), .slice (some ⟨DB, 0, none⟩) n n, .slice (some ⟨VB, 0, none⟩) n n, .slice (some ⟨B1, 0, none⟩) (pl + 1) cap] 54), (DB, .cells ⟨dur⟩ 5), (VB, .cells ⟨(over (vis) o (bytesL (s.data.toList.take (n - (Int.toNat off)))))⟩ 5), (B, .cells #[.int .i64 off, .string s] 56), (B1, .cells ⟨((pd).take (pl * 2) ++ ([.int .i64 off, .string s] : List Value) ++ r6)⟩ 56)]) ?_ (by kernel_rfl)
                  refine AtE.run 5 (fun W => by kernel_rfl) ?_
                  exact AtE.ret Try.func17 (by kernel_rfl) H
          · replace H := H.2 h5'
            refine AtE.run 9 (fun W => by kernel_rfl) ?_
            refine AtE.retK (v := (.bool false)) Try.func26 (by kernel_rfl) ?_
            refine AtE.run 7 (fun W => by kernel_rfl) ?_
            exact AtE.ret Try.func17 (by kernel_rfl) H
        · replace H := H.2 h4'
          refine AtE.run 15 (fun W => by kernel_rfl) ?_
          refine AtE.retK (v := (.bool false)) Try.func26 (by kernel_rfl) ?_
          refine AtE.run 7 (fun W => by kernel_rfl) ?_
          exact AtE.ret Try.func17 (by kernel_rfl) H
      · replace H := H.2 h3'
        refine AtE.run 19 (fun W => by kernel_rfl) ?_
        refine AtE.retK (v := (.bool false)) Try.func26 (by kernel_rfl) ?_
        refine AtE.run 7 (fun W => by kernel_rfl) ?_
        exact AtE.ret Try.func17 (by kernel_rfl) H
    · replace H := H.2 h2'
      refine AtE.run 7 (fun W => by kernel_rfl) ?_
      refine AtE.retK (v := (.int .i64 (231 : Int))) Try.func25 (by kernel_rfl) ?_
      refine AtE.norm (k' := [.inRegion (regOps [.code (sub (Eng.body Try.f17) [1, 0, 0])]) [2], .code (sub (Eng.body Try.f17) [1, 0, 1]), .code (sub (Eng.body Try.f17) [1, 1])]) (e' := [(0, .pointer (some ⟨D, 0, none⟩)), (1, .int .i64 off), (2, .string s), (9, .int .i64 (231 : Int))]) (L' := [(D, .cells #[.bool on, .int .i64 cut, .slice (some ⟨DB, 0, none⟩) n n, .slice (some ⟨VB, 0, none⟩) n n, .slice (some ⟨PB, 0, none⟩) pl pc] 54), (DB, .cells ⟨dur⟩ 5), (VB, .cells ⟨vis⟩ 5), (PB, .cells ⟨pd⟩ 56)]) ?_ (by kernel_rfl)
      refine AtE.run 13 (fun W => by kernel_rfl) ?_
      exact AtE.ret Try.func17 (by kernel_rfl) H

end Go.Eng
