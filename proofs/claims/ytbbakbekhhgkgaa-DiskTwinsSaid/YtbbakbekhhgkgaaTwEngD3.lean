/- Verification conditions of the functions, written by a program of the prover, checked here. -/
import Derived.Test.YtbbakbekhhgkgaaTwEngInl

import Derived.Test.YtbbakbekhhgkgaaTwEngFreeRules

import Derived.Test.YtbbakbekhhgkgaaChecked

namespace Go.Eng

open Go Go.RowKit Go.Proofs

set_option linter.unusedVariables false

set_option maxRecDepth 100000

theorem dpick_vc (cv : Int) (n : Int) {R : Ending → World → Prop} {w0 W : World} (hm : Mem [] [] w0 W)
    (H :
      ((cv < (0 : Int)) →
        ∀ cv1 : Int, cv1 = (IntKind.i64.wrap (0 - (IntKind.i64.wrap (cv + (1 : Int))))) →
        (n ≠ 0) ∧
        ∀ t4 : Int, t4 = (cv1.tmod n) →
        Fin R [] [] w0 (.int .i64 t4)) ∧
       ((¬ (cv < (0 : Int))) →
        (n ≠ 0) ∧
        ∀ t41 : Int, t41 = (cv.tmod n) →
        Fin R [] [] w0 (.int .i64 t41))) :
    Calls Try.prog 14 ⟨[.int .i64 cv, .int .i64 n]⟩ W R := by
  refine AtE.calls (nt := 13) Try.func14 (by kernel_rfl) hm ?_
  refine AtE.run 10 (fun W => by kernel_rfl) ?_
  refine AtE.splitP 6 (p := cv < (0 : Int)) (by kernel_rfl) (fun h1' => ?_) (fun h1' => ?_)
  · replace H := H.1 h1'
    refine AtE.run 6 (fun W => by kernel_rfl) ?_
    refine AtE.letI 0 (kd := .i64) (n := (IntKind.i64.wrap (0 - (IntKind.i64.wrap (cv + (1 : Int)))))) (by kernel_rfl) (fun cv1 hcv1 => ?_)
    replace H := H cv1 hcv1
    refine AtE.run 5 (fun W => by kernel_rfl) ?_
    refine AtE.rem (kd := .i64) (x := cv1) (y := n) (by kernel_rfl) H.1 ?_
    replace H := H.2
    refine AtE.run 1 (fun W => by kernel_rfl) ?_
    refine AtE.letI 4 (kd := .i64) (n := (cv1.tmod n)) (by kernel_rfl) (fun t4 ht4 => ?_)
    replace H := H t4 ht4
    refine AtE.run 1 (fun W => by kernel_rfl) ?_
    exact AtE.ret Try.func14 (by kernel_rfl) H
  · replace H := H.2 h1'
    refine AtE.run 6 (fun W => by kernel_rfl) ?_
    refine AtE.rem (kd := .i64) (x := cv) (y := n) (by kernel_rfl) H.1 ?_
    replace H := H.2
    refine AtE.run 1 (fun W => by kernel_rfl) ?_
    refine AtE.letI 4 (kd := .i64) (n := (cv.tmod n)) (by kernel_rfl) (fun t41 ht41 => ?_)
    replace H := H t41 ht41
    refine AtE.run 1 (fun W => by kernel_rfl) ?_
    exact AtE.ret Try.func14 (by kernel_rfl) H

theorem dcut_vc (s : ByteArray) (n : Int) {R : Ending → World → Prop} {w0 W : World} (hm : Mem [] [] w0 W)
    (H :
      (0 ≤ (0 : Int) ∧ (0 : Int) ≤ (if n < (s.size : Int) then n else (s.size : Int)) ∧ (if n < (s.size : Int) then n else (s.size : Int)) ≤ s.size) ∧
      ∀ t4 : ByteArray, t4 = (s.extract 0 (Int.toNat (if n < (s.size : Int) then n else (s.size : Int)))) →
      Fin R [] [] w0 (.string t4)) :
    Calls Try.prog 18 ⟨[.string s, .int .i64 n]⟩ W R := by
  refine AtE.calls (nt := 11) Try.func18 (by kernel_rfl) hm ?_
  refine AtE.run 11 (fun W => by kernel_rfl) ?_
  refine AtE.sliceS (s := s) (lo := none) (hi := some (.int .i64 (if n < (s.size : Int) then n else (s.size : Int)))) (a := (0 : Int)) (b := (if n < (s.size : Int) then n else (s.size : Int))) (by kernel_rfl) (.inr ⟨rfl, rfl⟩) (.inl ⟨.i64, rfl⟩) H.1 ?_
  replace H := H.2
  refine AtE.run 1 (fun W => by kernel_rfl) ?_
  refine AtE.letS 4 (n := (s.extract 0 (Int.toNat (if n < (s.size : Int) then n else (s.size : Int))))) (by kernel_rfl) (fun t4 ht4 => ?_)
  replace H := H t4 ht4
  refine AtE.run 1 (fun W => by kernel_rfl) ?_
  exact AtE.ret Try.func18 (by kernel_rfl) H

theorem fits_vc (w_0 : Int) (w_1 : ByteArray) (w_2 : Bool) (size : Int) {R : Ending → World → Prop} {w0 W : World} (hm : Mem [] [] w0 W)
    (H :
      ∀ B : Nat,
      ∀ B1 : Nat,
      ((w_0 < (0 : Int)) →
        ∀ cv : Int, cv = (IntKind.i64.wrap (0 - (IntKind.i64.wrap (w_0 + (1 : Int))))) →
        ((IntKind.i64.wrap (size + (1 : Int))) ≠ 0) ∧
        ∀ t4 : Int, t4 = (cv.tmod (IntKind.i64.wrap (size + (1 : Int)))) →
        (0 ≤ (0 : Int) ∧ (0 : Int) ≤ (if (IntKind.i64.wrap (size - t4)) < (w_1.size : Int) then (IntKind.i64.wrap (size - t4)) else (w_1.size : Int)) ∧ (if (IntKind.i64.wrap (size - t4)) < (w_1.size : Int) then (IntKind.i64.wrap (size - t4)) else (w_1.size : Int)) ≤ w_1.size) ∧
        ∀ t41 : ByteArray, t41 = (w_1.extract 0 (Int.toNat (if (IntKind.i64.wrap (size - t4)) < (w_1.size : Int) then (IntKind.i64.wrap (size - t4)) else (w_1.size : Int)))) →
        Fin R [(B, .cells #[.int .i64 t4, .string t41, .bool w_2] 42), (B1, .cells #[.int .i64 t4, .string t41, .bool w_2] 42)] [] w0 (.agg #[.int .i64 t4, .string t41, .bool w_2])) ∧
       ((¬ (w_0 < (0 : Int))) →
        ((IntKind.i64.wrap (size + (1 : Int))) ≠ 0) ∧
        ∀ t42 : Int, t42 = (w_0.tmod (IntKind.i64.wrap (size + (1 : Int)))) →
        (0 ≤ (0 : Int) ∧ (0 : Int) ≤ (if (IntKind.i64.wrap (size - t42)) < (w_1.size : Int) then (IntKind.i64.wrap (size - t42)) else (w_1.size : Int)) ∧ (if (IntKind.i64.wrap (size - t42)) < (w_1.size : Int) then (IntKind.i64.wrap (size - t42)) else (w_1.size : Int)) ≤ w_1.size) ∧
        ∀ t43 : ByteArray, t43 = (w_1.extract 0 (Int.toNat (if (IntKind.i64.wrap (size - t42)) < (w_1.size : Int) then (IntKind.i64.wrap (size - t42)) else (w_1.size : Int)))) →
        Fin R [(B, .cells #[.int .i64 t42, .string t43, .bool w_2] 42), (B1, .cells #[.int .i64 t42, .string t43, .bool w_2] 42)] [] w0 (.agg #[.int .i64 t42, .string t43, .bool w_2]))) :
    Calls Try.prog 22 ⟨[.agg #[.int .i64 w_0, .string w_1, .bool w_2], .int .i64 size]⟩ W R := by
  refine AtE.calls (nt := 20) Try.func22 (by kernel_rfl) hm ?_
  refine AtE.run 2 (fun W => by kernel_rfl) ?_
  refine AtE.new (fun B => .pointer (some ⟨B, 0, none⟩)) (.cells #[.int .i64 w_0, .string w_1, .bool w_2] 42) (fun W => by kernel_rfl) (by kernel_rfl) (fun B => ?_)
  replace H := H B
  refine AtE.new (fun B => .pointer (some ⟨B, 0, none⟩)) (.cells #[.int .i64 (0 : Int), .string (⟨#[]⟩), .bool false] 42) (fun W => by kernel_rfl) (by kernel_rfl) (fun B1 => ?_)
  replace H := H B1
  refine AtE.run 4 (fun W => by kernel_rfl) ?_
  refine AtE.load 0 0 (T := 3) (v := .int .i64 w_0) (by kernel_rfl) ?_
  refine AtE.run 2 (fun W => by kernel_rfl) ?_
  refine AtE.norm (k' := [.inRegion (regOps [.code (sub (Eng.body Try.f22) [1, 0])]) [4, 5, 6], .code (sub (Eng.body Try.f22) [1, 1])]) (e' := [(1, .int .i64 size), (2, .pointer (some ⟨B, 0, none⟩)), (4, .pointer (some ⟨B1, 0, none⟩)), (6, .int .i64 w_0), (8, .int .i64 (IntKind.i64.wrap (size + (1 : Int))))]) (L' := [(B, .cells #[.int .i64 w_0, .string w_1, .bool w_2] 42), (B1, .cells #[.int .i64 (0 : Int), .string (⟨#[]⟩), .bool false] 42)]) ?_ (by kernel_rfl)
  refine AtE.inl 14 ⟨[.int .i64 w_0, .int .i64 (IntKind.i64.wrap (size + (1 : Int)))]⟩ (fun W => by kernel_rfl) (by kernel_rfl) (fun W hm => AtE.calls (nt := 13) Try.func14 (by kernel_rfl) hm ?_)
  refine AtE.run 10 (fun W => by kernel_rfl) ?_
  refine AtE.splitP 6 (p := w_0 < (0 : Int)) (by kernel_rfl) (fun h1' => ?_) (fun h1' => ?_)
  · replace H := H.1 h1'
    refine AtE.run 6 (fun W => by kernel_rfl) ?_
    refine AtE.letI 0 (kd := .i64) (n := (IntKind.i64.wrap (0 - (IntKind.i64.wrap (w_0 + (1 : Int)))))) (by kernel_rfl) (fun cv hcv => ?_)
    replace H := H cv hcv
    refine AtE.run 5 (fun W => by kernel_rfl) ?_
    refine AtE.rem (kd := .i64) (x := cv) (y := (IntKind.i64.wrap (size + (1 : Int)))) (by kernel_rfl) H.1 ?_
    replace H := H.2
    refine AtE.run 1 (fun W => by kernel_rfl) ?_
    refine AtE.letI 4 (kd := .i64) (n := (cv.tmod (IntKind.i64.wrap (size + (1 : Int))))) (by kernel_rfl) (fun t4 ht4 => ?_)
    replace H := H t4 ht4
    refine AtE.run 1 (fun W => by kernel_rfl) ?_
    refine AtE.retK (v := (.int .i64 t4)) Try.func14 (by kernel_rfl) ?_
    refine AtE.run 1 (fun W => by kernel_rfl) ?_
    refine AtE.store 0 0 (T := 3) (v := .int .i64 t4) (by kernel_rfl) ?_
    refine AtE.run 4 (fun W => by kernel_rfl) ?_
    refine AtE.load 0 1 (T := 9) (v := .string w_1) (by kernel_rfl) ?_
    refine AtE.norm (k' := [.inRegion (regOps [.code (sub (Eng.body Try.f22) [1, 1, 0])]) [2, 3, 4, 5, 6, 7, 8], .code (sub (Eng.body Try.f22) [1, 1, 1])]) (e' := [(1, .int .i64 size), (2, .pointer (some ⟨B, 0, none⟩)), (4, .pointer (some ⟨B1, 0, none⟩)), (12, .string w_1)]) (L' := [(B, .cells #[.int .i64 t4, .string w_1, .bool w_2] 42), (B1, .cells #[.int .i64 (0 : Int), .string (⟨#[]⟩), .bool false] 42)]) ?_ (by kernel_rfl)
    refine AtE.run 2 (fun W => by kernel_rfl) ?_
    refine AtE.load 0 0 (T := 3) (v := .int .i64 t4) (by kernel_rfl) ?_
    refine AtE.run 1 (fun W => by kernel_rfl) ?_
    refine AtE.norm (k' := [.inRegion (regOps [.code (sub (Eng.body Try.f22) [1, 1, 0])]) [6, 7, 8], .code (sub (Eng.body Try.f22) [1, 1, 1])]) (e' := [(2, .pointer (some ⟨B, 0, none⟩)), (4, .pointer (some ⟨B1, 0, none⟩)), (12, .string w_1), (16, .int .i64 (IntKind.i64.wrap (size - t4)))]) (L' := [(B, .cells #[.int .i64 t4, .string w_1, .bool w_2] 42), (B1, .cells #[.int .i64 (0 : Int), .string (⟨#[]⟩), .bool false] 42)]) ?_ (by kernel_rfl)
    refine AtE.inl 18 ⟨[.string w_1, .int .i64 (IntKind.i64.wrap (size - t4))]⟩ (fun W => by kernel_rfl) (by kernel_rfl) (fun W hm => AtE.calls (nt := 11) Try.func18 (by kernel_rfl) hm ?_)
    refine AtE.run 11 (fun W => by kernel_rfl) ?_
    refine AtE.sliceS (s := w_1) (lo := none) (hi := some (.int .i64 (if (IntKind.i64.wrap (size - t4)) < (w_1.size : Int) then (IntKind.i64.wrap (size - t4)) else (w_1.size : Int)))) (a := (0 : Int)) (b := (if (IntKind.i64.wrap (size - t4)) < (w_1.size : Int) then (IntKind.i64.wrap (size - t4)) else (w_1.size : Int))) (by kernel_rfl) (.inr ⟨rfl, rfl⟩) (.inl ⟨.i64, rfl⟩) H.1 ?_
    replace H := H.2
    refine AtE.run 1 (fun W => by kernel_rfl) ?_
    refine AtE.letS 4 (n := (w_1.extract 0 (Int.toNat (if (IntKind.i64.wrap (size - t4)) < (w_1.size : Int) then (IntKind.i64.wrap (size - t4)) else (w_1.size : Int))))) (by kernel_rfl) (fun t41 ht41 => ?_)
    replace H := H t41 ht41
    refine AtE.run 1 (fun W => by kernel_rfl) ?_
    refine AtE.retK (v := (.string t41)) Try.func18 (by kernel_rfl) ?_
    refine AtE.run 1 (fun W => by kernel_rfl) ?_
    refine AtE.store 0 1 (T := 9) (v := .string t41) (by kernel_rfl) ?_
    refine AtE.run 3 (fun W => by kernel_rfl) ?_
    refine AtE.load 0 0 (T := 42) (v := .agg #[.int .i64 t4, .string t41, .bool w_2]) (by kernel_rfl) ?_
    refine AtE.store 1 0 (T := 42) (v := .agg #[.int .i64 t4, .string t41, .bool w_2]) (by kernel_rfl) ?_
    refine AtE.run 1 (fun W => by kernel_rfl) ?_
    exact AtE.retC 1 0 (a := 4) (T := 42) (v := .agg #[.int .i64 t4, .string t41, .bool w_2]) Try.func22 (by kernel_rfl) (by kernel_rfl) H
  · replace H := H.2 h1'
    refine AtE.run 6 (fun W => by kernel_rfl) ?_
    refine AtE.rem (kd := .i64) (x := w_0) (y := (IntKind.i64.wrap (size + (1 : Int)))) (by kernel_rfl) H.1 ?_
    replace H := H.2
    refine AtE.run 1 (fun W => by kernel_rfl) ?_
    refine AtE.letI 4 (kd := .i64) (n := (w_0.tmod (IntKind.i64.wrap (size + (1 : Int))))) (by kernel_rfl) (fun t42 ht42 => ?_)
    replace H := H t42 ht42
    refine AtE.run 1 (fun W => by kernel_rfl) ?_
    refine AtE.retK (v := (.int .i64 t42)) Try.func14 (by kernel_rfl) ?_
    refine AtE.run 1 (fun W => by kernel_rfl) ?_
    refine AtE.store 0 0 (T := 3) (v := .int .i64 t42) (by kernel_rfl) ?_
    refine AtE.run 4 (fun W => by kernel_rfl) ?_
    refine AtE.load 0 1 (T := 9) (v := .string w_1) (by kernel_rfl) ?_
    refine AtE.run 2 (fun W => by kernel_rfl) ?_
    refine AtE.load 0 0 (T := 3) (v := .int .i64 t42) (by kernel_rfl) ?_
    refine AtE.norm (k' := [.inRegion (regOps [.code (sub (Eng.body Try.f22) [1, 1, 0])]) [5, 6, 7, 8], .code (sub (Eng.body Try.f22) [1, 1, 1])]) (e' := [(2, .pointer (some ⟨B, 0, none⟩)), (4, .pointer (some ⟨B1, 0, none⟩)), (12, .string w_1), (13, .int .i64 size), (15, .int .i64 t42)]) (L' := [(B, .cells #[.int .i64 t42, .string w_1, .bool w_2] 42), (B1, .cells #[.int .i64 (0 : Int), .string (⟨#[]⟩), .bool false] 42)]) ?_ (by kernel_rfl)
    refine AtE.run 1 (fun W => by kernel_rfl) ?_
    refine AtE.inl 18 ⟨[.string w_1, .int .i64 (IntKind.i64.wrap (size - t42))]⟩ (fun W => by kernel_rfl) (by kernel_rfl) (fun W hm => AtE.calls (nt := 11) Try.func18 (by kernel_rfl) hm ?_)
    refine AtE.run 11 (fun W => by kernel_rfl) ?_
    refine AtE.sliceS (s := w_1) (lo := none) (hi := some (.int .i64 (if (IntKind.i64.wrap (size - t42)) < (w_1.size : Int) then (IntKind.i64.wrap (size - t42)) else (w_1.size : Int)))) (a := (0 : Int)) (b := (if (IntKind.i64.wrap (size - t42)) < (w_1.size : Int) then (IntKind.i64.wrap (size - t42)) else (w_1.size : Int))) (by kernel_rfl) (.inr ⟨rfl, rfl⟩) (.inl ⟨.i64, rfl⟩) H.1 ?_
    replace H := H.2
    refine AtE.run 1 (fun W => by kernel_rfl) ?_
    refine AtE.letS 4 (n := (w_1.extract 0 (Int.toNat (if (IntKind.i64.wrap (size - t42)) < (w_1.size : Int) then (IntKind.i64.wrap (size - t42)) else (w_1.size : Int))))) (by kernel_rfl) (fun t43 ht43 => ?_)
    replace H := H t43 ht43
    refine AtE.run 1 (fun W => by kernel_rfl) ?_
    refine AtE.retK (v := (.string t43)) Try.func18 (by kernel_rfl) ?_
    refine AtE.run 1 (fun W => by kernel_rfl) ?_
    refine AtE.store 0 1 (T := 9) (v := .string t43) (by kernel_rfl) ?_
    refine AtE.run 3 (fun W => by kernel_rfl) ?_
    refine AtE.load 0 0 (T := 42) (v := .agg #[.int .i64 t42, .string t43, .bool w_2]) (by kernel_rfl) ?_
    refine AtE.store 1 0 (T := 42) (v := .agg #[.int .i64 t42, .string t43, .bool w_2]) (by kernel_rfl) ?_
    refine AtE.norm (k' := [.inRegion (regOps [.code (sub (Eng.body Try.f22) [1, 1, 1, 0])]) [], .code (sub (Eng.body Try.f22) [1, 1, 1, 1])]) (e' := [(4, .pointer (some ⟨B1, 0, none⟩))]) (L' := [(B, .cells #[.int .i64 t42, .string t43, .bool w_2] 42), (B1, .cells #[.int .i64 t42, .string t43, .bool w_2] 42)]) ?_ (by kernel_rfl)
    refine AtE.run 1 (fun W => by kernel_rfl) ?_
    exact AtE.retC 1 0 (a := 4) (T := 42) (v := .agg #[.int .i64 t42, .string t43, .bool w_2]) Try.func22 (by kernel_rfl) (by kernel_rfl) H

theorem New_vc (size : Int) {R : Ending → World → Prop} {w0 W : World} (hm : Mem [] [] w0 W)
    (H :
      ((size < (1 : Int)) →
        Fin R [] [] w0 (.tuple #[.pointer none, .int .i64 (2 : Int)])) ∧
       ((¬ (size < (1 : Int))) →
        (((4194304 : Int) < size) →
          Fin R [] [] w0 (.tuple #[.pointer none, .int .i64 (2 : Int)])) ∧
         ((¬ ((4194304 : Int) < size)) →
          (0 ≤ size ∧ size ≤ size ∧ 1 * size ≤ 281474976710656 ∧ size ≤ 9223372036854775807) ∧
          ∀ B : Nat,
          (0 ≤ size ∧ size ≤ size ∧ 1 * size ≤ 281474976710656 ∧ size ≤ 9223372036854775807) ∧
          ∀ B1 : Nat,
          ∀ B2 : Nat,
          Fin R [(B, .cells ⟨(List.replicate (Int.toNat size) (.int .u8 (0 : Int)))⟩ 5), (B1, .cells ⟨(List.replicate (Int.toNat size) (.int .u8 (0 : Int)))⟩ 5), (B2, .cells #[.bool true, .int .i64 (0 : Int), .slice (some ⟨B, 0, none⟩) (Int.toNat size) (Int.toNat size), .slice (some ⟨B1, 0, none⟩) (Int.toNat size) (Int.toNat size), .slice none 0 0] 54)] [] w0 (.tuple #[.pointer (some ⟨B2, 0, none⟩), .int .i64 (0 : Int)])))) :
    Calls Try.prog 12 ⟨[.int .i64 size]⟩ W R := by
  refine AtE.calls (nt := 22) Try.func12 (by kernel_rfl) hm ?_
  refine AtE.run 11 (fun W => by kernel_rfl) ?_
  refine AtE.splitP 7 (p := size < (1 : Int)) (by kernel_rfl) (fun h1' => ?_) (fun h1' => ?_)
  · replace H := H.1 h1'
    refine AtE.run 10 (fun W => by kernel_rfl) ?_
    exact AtE.ret Try.func12 (by kernel_rfl) H
  · replace H := H.2 h1'
    refine AtE.run 4 (fun W => by kernel_rfl) ?_
    refine AtE.splitP 10 (p := (4194304 : Int) < size) (by kernel_rfl) (fun h2' => ?_) (fun h2' => ?_)
    · replace H := H.1 h2'
      refine AtE.run 6 (fun W => by kernel_rfl) ?_
      exact AtE.ret Try.func12 (by kernel_rfl) H
    · replace H := H.2 h2'
      refine AtE.run 3 (fun W => by kernel_rfl) ?_
      have H0 := H
      have hd0 : ∀ B B1 B2 : Nat, AtL Try.prog 12 22 (regOps [.code (sub (Eng.body Try.f12) [1, 1, 0])]) 0 #[true, true, true, true, true, true, true] [.code (sub (Eng.body Try.f12) [1, 1, 1])] [(4, .pointer (some ⟨B2, 0, none⟩))] [(B, .cells ⟨(List.replicate (Int.toNat size) (.int .u8 (0 : Int)))⟩ 5), (B1, .cells ⟨(List.replicate (Int.toNat size) (.int .u8 (0 : Int)))⟩ 5), (B2, .cells #[.bool false, .int .i64 (0 : Int), .slice (some ⟨B, 0, none⟩) (Int.toNat size) (Int.toNat size), .slice (some ⟨B1, 0, none⟩) (Int.toNat size) (Int.toNat size), .slice none 0 0] 54)] [] w0 (nrm R) := by
        intro B B1 B2 t
        have H := (((H0.2 B).2 B1) B2)
        refine AtE.norm (k' := [.inRegion (regOps [.code (sub (Eng.body Try.f12) [1, 1, 0])]) [], .code (sub (Eng.body Try.f12) [1, 1, 1])]) (e' := [(4, .pointer (some ⟨B2, 0, none⟩))]) (L' := [(B, .cells ⟨(List.replicate (Int.toNat size) (.int .u8 (0 : Int)))⟩ 5), (B1, .cells ⟨(List.replicate (Int.toNat size) (.int .u8 (0 : Int)))⟩ 5), (B2, .cells #[.bool false, .int .i64 (0 : Int), .slice (some ⟨B, 0, none⟩) (Int.toNat size) (Int.toNat size), .slice (some ⟨B1, 0, none⟩) (Int.toNat size) (Int.toNat size), .slice none 0 0] 54)]) ?_ (by kernel_rfl)
        refine AtE.run 6 (fun W => by kernel_rfl) ?_
        refine AtE.inl 24 ⟨[.pointer (some ⟨B2, 0, none⟩)]⟩ (fun W => by kernel_rfl) (by kernel_rfl) (fun W hm => AtE.calls (nt := 8) Try.func24 (by kernel_rfl) hm ?_)
        refine AtE.run 5 (fun W => by kernel_rfl) ?_
        refine AtE.store 2 0 (T := 4) (v := .bool true) (by kernel_rfl) ?_
        refine AtE.run 2 (fun W => by kernel_rfl) ?_
        refine AtE.store 2 1 (T := 3) (v := .int .i64 (0 : Int)) (by kernel_rfl) ?_
        refine AtE.run 1 (fun W => by kernel_rfl) ?_
        refine AtE.retK (v := .tuple #[]) Try.func24 (by kernel_rfl) ?_
        refine AtE.run 7 (fun W => by kernel_rfl) ?_
        exact AtE.ret Try.func12 (by kernel_rfl) H
      have hd1 : ∀ B B1 B2 : Nat, AtL Try.prog 12 22 (regOps [.code (sub (Eng.body Try.f12) [1, 1, 0])]) 1 #[true, true, true, true, true, true, false] [.code (sub (Eng.body Try.f12) [1, 1, 1])] [(16, .pointer (some ⟨B2, 0, none⟩))] [(B, .cells ⟨(List.replicate (Int.toNat size) (.int .u8 (0 : Int)))⟩ 5), (B1, .cells ⟨(List.replicate (Int.toNat size) (.int .u8 (0 : Int)))⟩ 5), (B2, .cells #[.bool false, .int .i64 (0 : Int), .slice (some ⟨B, 0, none⟩) (Int.toNat size) (Int.toNat size), .slice (some ⟨B1, 0, none⟩) (Int.toNat size) (Int.toNat size), .slice none 0 0] 54)] [] w0 (nrm R) := by
        intro B B1 B2
        refine AtL.step [6] (by kernel_rfl) ⟨fun t => ?_, trivial⟩
        · have H := (((H0.2 B).2 B1) B2)
          refine AtE.run 1 (fun W => by kernel_rfl) ?_
          exact AtE.cut [0, 1, 2] (hd0 B B1 B2 t) (by kernel_rfl)
      have hd2 : ∀ B B1 : Nat, AtL Try.prog 12 22 (regOps [.code (sub (Eng.body Try.f12) [1, 1, 0])]) 2 #[true, true, true, true, true, false, false] [.code (sub (Eng.body Try.f12) [1, 1, 1])] [(15, .agg #[.bool false, .int .i64 (0 : Int), .slice (some ⟨B, 0, none⟩) (Int.toNat size) (Int.toNat size), .slice (some ⟨B1, 0, none⟩) (Int.toNat size) (Int.toNat size), .slice none 0 0])] [(B, .cells ⟨(List.replicate (Int.toNat size) (.int .u8 (0 : Int)))⟩ 5), (B1, .cells ⟨(List.replicate (Int.toNat size) (.int .u8 (0 : Int)))⟩ 5)] [] w0 (nrm R) := by
        intro B B1
        refine AtL.step [5] (by kernel_rfl) ⟨fun t => ?_, trivial⟩
        · have H := ((H0.2 B).2 B1)
          refine AtE.new (fun B => .pointer (some ⟨B, 0, none⟩)) (.cells #[.bool false, .int .i64 (0 : Int), .slice (some ⟨B, 0, none⟩) (Int.toNat size) (Int.toNat size), .slice (some ⟨B1, 0, none⟩) (Int.toNat size) (Int.toNat size), .slice none 0 0] 54) (fun W => by kernel_rfl) (by kernel_rfl) (fun B2 => ?_)
          replace H := H B2
          exact AtE.cut [0, 1, 2] (hd1 B B1 B2 t) (by kernel_rfl)
      have hd3 : ∀ B B1 : Nat, AtL Try.prog 12 22 (regOps [.code (sub (Eng.body Try.f12) [1, 1, 0])]) 3 #[true, true, true, true, false, false, false] [.code (sub (Eng.body Try.f12) [1, 1, 1])] [(12, .slice (some ⟨B, 0, none⟩) (Int.toNat size) (Int.toNat size)), (14, .slice (some ⟨B1, 0, none⟩) (Int.toNat size) (Int.toNat size))] [(B, .cells ⟨(List.replicate (Int.toNat size) (.int .u8 (0 : Int)))⟩ 5), (B1, .cells ⟨(List.replicate (Int.toNat size) (.int .u8 (0 : Int)))⟩ 5)] [] w0 (nrm R) := by
        intro B B1
        refine AtL.step [4] (by kernel_rfl) ⟨fun t => ?_, trivial⟩
        · have H := ((H0.2 B).2 B1)
          refine AtE.run 1 (fun W => by kernel_rfl) ?_
          exact AtE.cut [0, 1] (hd2 B B1 t) (by kernel_rfl)
      have hd4 : ∀ B : Nat, AtL Try.prog 12 22 (regOps [.code (sub (Eng.body Try.f12) [1, 1, 0])]) 4 #[true, true, true, false, false, false, false] [.code (sub (Eng.body Try.f12) [1, 1, 1])] [(12, .slice (some ⟨B, 0, none⟩) (Int.toNat size) (Int.toNat size)), (13, .int .i64 size)] [(B, .cells ⟨(List.replicate (Int.toNat size) (.int .u8 (0 : Int)))⟩ 5)] [] w0 (nrm R) := by
        intro B
        refine AtL.step [3] (by kernel_rfl) ⟨fun t => ?_, trivial⟩
        · have H := (H0.2 B)
          refine AtE.make (E := 5) (kl := .i64) (kc := .i64) (n := size) (m := size) (z := .int .u8 (0 : Int)) (bytes := 1) (by kernel_rfl) H.1 (fun B1 => ?_)
          replace H := H.2 B1
          exact AtE.cut [0, 1] (hd3 B B1 t) (by kernel_rfl)
      have hd5 : ∀ B1 : Nat, AtL Try.prog 12 22 (regOps [.code (sub (Eng.body Try.f12) [1, 1, 0])]) 4 #[true, false, true, true, false, false, false] [.code (sub (Eng.body Try.f12) [1, 1, 1])] [(11, .int .i64 size), (14, .slice (some ⟨B1, 0, none⟩) (Int.toNat size) (Int.toNat size))] [(B1, .cells ⟨(List.replicate (Int.toNat size) (.int .u8 (0 : Int)))⟩ 5)] [] w0 (nrm R) := by
        intro B1
        refine AtL.step [1] (by kernel_rfl) ⟨fun t => ?_, trivial⟩
        · have H := H0
          refine AtE.make (E := 5) (kl := .i64) (kc := .i64) (n := size) (m := size) (z := .int .u8 (0 : Int)) (bytes := 1) (by kernel_rfl) H.1 (fun B => ?_)
          replace H := H.2 B
          exact AtE.cut [1, 0] (hd3 B B1 t) (by kernel_rfl)
      have hd6 : ∀ B : Nat, AtL Try.prog 12 22 (regOps [.code (sub (Eng.body Try.f12) [1, 1, 0])]) 5 #[true, true, false, false, false, false, false] [.code (sub (Eng.body Try.f12) [1, 1, 1])] [(0, .int .i64 size), (12, .slice (some ⟨B, 0, none⟩) (Int.toNat size) (Int.toNat size))] [(B, .cells ⟨(List.replicate (Int.toNat size) (.int .u8 (0 : Int)))⟩ 5)] [] w0 (nrm R) := by
        intro B
        refine AtL.step [2] (by kernel_rfl) ⟨fun t => ?_, trivial⟩
        · have H := H0
          refine AtE.run 1 (fun W => by kernel_rfl) ?_
          exact AtE.cut [0] (hd4 B t) (by kernel_rfl)
      have hd7 : AtL Try.prog 12 22 (regOps [.code (sub (Eng.body Try.f12) [1, 1, 0])]) 5 #[true, false, true, false, false, false, false] [.code (sub (Eng.body Try.f12) [1, 1, 1])] [(11, .int .i64 size), (13, .int .i64 size)] [] [] w0 (nrm R) := by
        refine AtL.step [1, 3] (by kernel_rfl) ⟨fun t => ?_, fun t => ?_, trivial⟩
        · have H := H0
          refine AtE.make (E := 5) (kl := .i64) (kc := .i64) (n := size) (m := size) (z := .int .u8 (0 : Int)) (bytes := 1) (by kernel_rfl) H.1 (fun B => ?_)
          replace H := H.2 B
          exact AtE.cut [0] (hd4 B t) (by kernel_rfl)
        · have H := (H0.2 0)
          refine AtE.make (E := 5) (kl := .i64) (kc := .i64) (n := size) (m := size) (z := .int .u8 (0 : Int)) (bytes := 1) (by kernel_rfl) H.1 (fun B1 => ?_)
          replace H := H.2 B1
          exact AtE.cut [0] (hd5 B1 t) (by kernel_rfl)
      have hd8 : ∀ B1 : Nat, AtL Try.prog 12 22 (regOps [.code (sub (Eng.body Try.f12) [1, 1, 0])]) 5 #[false, false, true, true, false, false, false] [.code (sub (Eng.body Try.f12) [1, 1, 1])] [(0, .int .i64 size), (14, .slice (some ⟨B1, 0, none⟩) (Int.toNat size) (Int.toNat size))] [(B1, .cells ⟨(List.replicate (Int.toNat size) (.int .u8 (0 : Int)))⟩ 5)] [] w0 (nrm R) := by
        intro B1
        refine AtL.step [0] (by kernel_rfl) ⟨fun t => ?_, trivial⟩
        · have H := H0
          refine AtE.run 1 (fun W => by kernel_rfl) ?_
          exact AtE.cut [0] (hd5 B1 t) (by kernel_rfl)
      have hd9 : AtL Try.prog 12 22 (regOps [.code (sub (Eng.body Try.f12) [1, 1, 0])]) 6 #[true, false, false, false, false, false, false] [.code (sub (Eng.body Try.f12) [1, 1, 1])] [(0, .int .i64 size), (11, .int .i64 size)] [] [] w0 (nrm R) := by
        refine AtL.step [1, 2] (by kernel_rfl) ⟨fun t => ?_, fun t => ?_, trivial⟩
        · have H := H0
          refine AtE.make (E := 5) (kl := .i64) (kc := .i64) (n := size) (m := size) (z := .int .u8 (0 : Int)) (bytes := 1) (by kernel_rfl) H.1 (fun B => ?_)
          replace H := H.2 B
          exact AtE.cut [0] (hd6 B t) (by kernel_rfl)
        · have H := H0
          refine AtE.run 1 (fun W => by kernel_rfl) ?_
          exact AtE.cut [] (hd7  t) (by kernel_rfl)
      have hd10 : AtL Try.prog 12 22 (regOps [.code (sub (Eng.body Try.f12) [1, 1, 0])]) 6 #[false, false, true, false, false, false, false] [.code (sub (Eng.body Try.f12) [1, 1, 1])] [(0, .int .i64 size), (13, .int .i64 size)] [] [] w0 (nrm R) := by
        refine AtL.step [0, 3] (by kernel_rfl) ⟨fun t => ?_, fun t => ?_, trivial⟩
        · have H := H0
          refine AtE.run 1 (fun W => by kernel_rfl) ?_
          exact AtE.cut [] (hd7  t) (by kernel_rfl)
        · have H := (H0.2 0)
          refine AtE.make (E := 5) (kl := .i64) (kc := .i64) (n := size) (m := size) (z := .int .u8 (0 : Int)) (bytes := 1) (by kernel_rfl) H.1 (fun B1 => ?_)
          replace H := H.2 B1
          exact AtE.cut [0] (hd8 B1 t) (by kernel_rfl)
      have hd11 : AtL Try.prog 12 22 (regOps [.code (sub (Eng.body Try.f12) [1, 1, 0])]) 7 #[false, false, false, false, false, false, false] [.code (sub (Eng.body Try.f12) [1, 1, 1])] [(0, .int .i64 size)] [] [] w0 (nrm R) := by
        refine AtL.step [0, 2] (by kernel_rfl) ⟨fun t => ?_, fun t => ?_, trivial⟩
        · have H := H0
          refine AtE.run 1 (fun W => by kernel_rfl) ?_
          exact AtE.cut [] (hd9  t) (by kernel_rfl)
        · have H := H0
          refine AtE.run 1 (fun W => by kernel_rfl) ?_
          exact AtE.cut [] (hd10  t) (by kernel_rfl)
      exact AtE.cut [] (AtE.drawAny (k := [.code (sub (Eng.body Try.f12) [1, 1, 0]), .code (sub (Eng.body Try.f12) [1, 1, 1])]) (by kernel_rfl) hd11) (by kernel_rfl)

theorem Size0_vc  {R : Ending → World → Prop} {w0 W : World} (hm : Mem [] [] w0 W)
    (H :
      Fin R [] [] w0 (.int .i64 (0 : Int))) :
    Calls Try.prog 15 ⟨[.pointer none]⟩ W R := by
  refine AtE.calls (nt := 10) Try.func15 (by kernel_rfl) hm ?_
  refine AtE.run 15 (fun W => by kernel_rfl) ?_
  exact AtE.ret Try.func15 (by kernel_rfl) H

theorem Pending0_vc  {R : Ending → World → Prop} {w0 W : World} (hm : Mem [] [] w0 W)
    (H :
      Fin R [] [] w0 (.int .i64 (0 : Int))) :
    Calls Try.prog 16 ⟨[.pointer none]⟩ W R := by
  refine AtE.calls (nt := 10) Try.func16 (by kernel_rfl) hm ?_
  refine AtE.run 15 (fun W => by kernel_rfl) ?_
  exact AtE.ret Try.func16 (by kernel_rfl) H

theorem Read0_vc (off : Int) (n : Int) {R : Ending → World → Prop} {w0 W : World} (hm : Mem [] [] w0 W)
    (H :
      Fin R [] [] w0 (.tuple #[.string (⟨#[]⟩), .int .i64 (1 : Int)])) :
    Calls Try.prog 13 ⟨[.pointer none, .int .i64 off, .int .i64 n]⟩ W R := by
  refine AtE.calls (nt := 29) Try.func13 (by kernel_rfl) hm ?_
  refine AtE.run 9 (fun W => by kernel_rfl) ?_
  refine AtE.inl 25 ⟨[.pointer none]⟩ (fun W => by kernel_rfl) (by kernel_rfl) (fun W hm => AtE.calls (nt := 12) Try.func25 (by kernel_rfl) hm ?_)
  refine AtE.run 8 (fun W => by kernel_rfl) ?_
  refine AtE.norm (k' := [.inRegion (regOps [.code (sub (Eng.body Try.f25) [1, 0, 0])]) [1, 2], .code (sub (Eng.body Try.f25) [1, 0, 1]), .code (sub (Eng.body Try.f25) [1, 1])]) (e' := [(0, .pointer none), (3, .pointer none)]) (L' := []) ?_ (by kernel_rfl)
  refine AtE.inl 15 ⟨[.pointer none]⟩ (fun W => by kernel_rfl) (by kernel_rfl) (fun W hm => AtE.calls (nt := 10) Try.func15 (by kernel_rfl) hm ?_)
  refine AtE.run 15 (fun W => by kernel_rfl) ?_
  refine AtE.retK (v := (.int .i64 (0 : Int))) Try.func15 (by kernel_rfl) ?_
  refine AtE.run 7 (fun W => by kernel_rfl) ?_
  refine AtE.retK (v := (.int .i64 (1 : Int))) Try.func25 (by kernel_rfl) ?_
  refine AtE.run 14 (fun W => by kernel_rfl) ?_
  exact AtE.ret Try.func13 (by kernel_rfl) H

theorem Sync0_vc  {R : Ending → World → Prop} {w0 W : World} (hm : Mem [] [] w0 W)
    (H :
      Fin R [] [] w0 (.int .i64 (1 : Int))) :
    Calls Try.prog 19 ⟨[.pointer none]⟩ W R := by
  refine AtE.calls (nt := 20) Try.func19 (by kernel_rfl) hm ?_
  refine AtE.run 8 (fun W => by kernel_rfl) ?_
  refine AtE.inl 25 ⟨[.pointer none]⟩ (fun W => by kernel_rfl) (by kernel_rfl) (fun W hm => AtE.calls (nt := 12) Try.func25 (by kernel_rfl) hm ?_)
  refine AtE.run 8 (fun W => by kernel_rfl) ?_
  refine AtE.norm (k' := [.inRegion (regOps [.code (sub (Eng.body Try.f25) [1, 0, 0])]) [1, 2], .code (sub (Eng.body Try.f25) [1, 0, 1]), .code (sub (Eng.body Try.f25) [1, 1])]) (e' := [(0, .pointer none), (3, .pointer none)]) (L' := []) ?_ (by kernel_rfl)
  refine AtE.inl 15 ⟨[.pointer none]⟩ (fun W => by kernel_rfl) (by kernel_rfl) (fun W hm => AtE.calls (nt := 10) Try.func15 (by kernel_rfl) hm ?_)
  refine AtE.run 15 (fun W => by kernel_rfl) ?_
  refine AtE.retK (v := (.int .i64 (0 : Int))) Try.func15 (by kernel_rfl) ?_
  refine AtE.run 7 (fun W => by kernel_rfl) ?_
  refine AtE.retK (v := (.int .i64 (1 : Int))) Try.func25 (by kernel_rfl) ?_
  refine AtE.run 13 (fun W => by kernel_rfl) ?_
  exact AtE.ret Try.func19 (by kernel_rfl) H

theorem Cut0_vc (n : Int) {R : Ending → World → Prop} {w0 W : World} (hm : Mem [] [] w0 W)
    (H :
      Fin R [] [] w0 (.int .i64 (1 : Int))) :
    Calls Try.prog 20 ⟨[.pointer none, .int .i64 n]⟩ W R := by
  refine AtE.calls (nt := 24) Try.func20 (by kernel_rfl) hm ?_
  refine AtE.run 8 (fun W => by kernel_rfl) ?_
  refine AtE.inl 25 ⟨[.pointer none]⟩ (fun W => by kernel_rfl) (by kernel_rfl) (fun W hm => AtE.calls (nt := 12) Try.func25 (by kernel_rfl) hm ?_)
  refine AtE.run 8 (fun W => by kernel_rfl) ?_
  refine AtE.norm (k' := [.inRegion (regOps [.code (sub (Eng.body Try.f25) [1, 0, 0])]) [1, 2], .code (sub (Eng.body Try.f25) [1, 0, 1]), .code (sub (Eng.body Try.f25) [1, 1])]) (e' := [(0, .pointer none), (3, .pointer none)]) (L' := []) ?_ (by kernel_rfl)
  refine AtE.inl 15 ⟨[.pointer none]⟩ (fun W => by kernel_rfl) (by kernel_rfl) (fun W hm => AtE.calls (nt := 10) Try.func15 (by kernel_rfl) hm ?_)
  refine AtE.run 15 (fun W => by kernel_rfl) ?_
  refine AtE.retK (v := (.int .i64 (0 : Int))) Try.func15 (by kernel_rfl) ?_
  refine AtE.run 7 (fun W => by kernel_rfl) ?_
  refine AtE.retK (v := (.int .i64 (1 : Int))) Try.func25 (by kernel_rfl) ?_
  refine AtE.run 13 (fun W => by kernel_rfl) ?_
  exact AtE.ret Try.func20 (by kernel_rfl) H

theorem Write0_vc (off : Int) (s : ByteArray) {R : Ending → World → Prop} {w0 W : World} (hm : Mem [] [] w0 W)
    (H :
      Fin R [] [] w0 (.int .i64 (1 : Int))) :
    Calls Try.prog 17 ⟨[.pointer none, .int .i64 off, .string s]⟩ W R := by
  refine AtE.calls (nt := 43) Try.func17 (by kernel_rfl) hm ?_
  refine AtE.run 8 (fun W => by kernel_rfl) ?_
  refine AtE.inl 25 ⟨[.pointer none]⟩ (fun W => by kernel_rfl) (by kernel_rfl) (fun W hm => AtE.calls (nt := 12) Try.func25 (by kernel_rfl) hm ?_)
  refine AtE.run 8 (fun W => by kernel_rfl) ?_
  refine AtE.norm (k' := [.inRegion (regOps [.code (sub (Eng.body Try.f25) [1, 0, 0])]) [1, 2], .code (sub (Eng.body Try.f25) [1, 0, 1]), .code (sub (Eng.body Try.f25) [1, 1])]) (e' := [(0, .pointer none), (3, .pointer none)]) (L' := []) ?_ (by kernel_rfl)
  refine AtE.inl 15 ⟨[.pointer none]⟩ (fun W => by kernel_rfl) (by kernel_rfl) (fun W hm => AtE.calls (nt := 10) Try.func15 (by kernel_rfl) hm ?_)
  refine AtE.run 15 (fun W => by kernel_rfl) ?_
  refine AtE.retK (v := (.int .i64 (0 : Int))) Try.func15 (by kernel_rfl) ?_
  refine AtE.run 7 (fun W => by kernel_rfl) ?_
  refine AtE.retK (v := (.int .i64 (1 : Int))) Try.func25 (by kernel_rfl) ?_
  refine AtE.run 13 (fun W => by kernel_rfl) ?_
  exact AtE.ret Try.func17 (by kernel_rfl) H

theorem Crash0_vc (keep_p : Option Addr) (keep_l : Nat) (keep_c : Nat) (torn : Int) {R : Ending → World → Prop} {w0 W : World} (hm : Mem [] [] w0 W)
    (H :
      Fin R [] [] w0 (.int .i64 (1 : Int))) :
    Calls Try.prog 21 ⟨[.pointer none, .slice keep_p keep_l keep_c, .int .i64 torn]⟩ W R := by
  refine AtE.calls (nt := 103) Try.func21 (by kernel_rfl) hm ?_
  refine AtE.run 8 (fun W => by kernel_rfl) ?_
  refine AtE.inl 15 ⟨[.pointer none]⟩ (fun W => by kernel_rfl) (by kernel_rfl) (fun W hm => AtE.calls (nt := 10) Try.func15 (by kernel_rfl) hm ?_)
  refine AtE.run 15 (fun W => by kernel_rfl) ?_
  refine AtE.retK (v := (.int .i64 (0 : Int))) Try.func15 (by kernel_rfl) ?_
  refine AtE.run 7 (fun W => by kernel_rfl) ?_
  exact AtE.ret Try.func21 (by kernel_rfl) H

end Go.Eng
