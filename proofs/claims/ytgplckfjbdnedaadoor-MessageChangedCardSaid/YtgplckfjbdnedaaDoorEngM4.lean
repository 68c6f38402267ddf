/- Verification conditions of the functions, written by a program of the prover, checked here. -/
import Derived.Test.YtgplckfjbdnedaaDoorEngInl

import Derived.Test.YtgplckfjbdnedaaDoorEngEq

import Derived.Test.YtgplckfjbdnedaaDoorChecked

namespace Go.Eng

open Go Go.RowKit Go.Proofs

set_option linter.unusedVariables false

set_option maxRecDepth 100000

theorem decR_vc (B : Nat) (C : Nat) (m0 : Int) (m1 : Int) (m2 : Int) (m3 : Int) (m4 : Int) (m5 : Int) (m6 : ByteArray) (c : Int) {R : Ending → FrameMode → World → Prop} {S : List Nat} {w0 W : World} (hm : Mem [(B, .cells #[.int .i64 m0, .int .i64 m1, .int .i64 m2, .int .i64 m3, .int .i64 m4, .int .i64 m5, .string m6] 23), (C, .cells #[.int .i64 c] 26)] S w0 W)
    (H :
      FinD R .returning [(B, .cells #[.int .i64 m0, .int .i64 m1, .int .i64 m2, .int .i64 m3, .int .i64 m4, .int .i64 m5, .string m6] 23), (C, .cells #[.int .i64 c] 26)] S w0 (.tuple #[])) :
    CallsD Tryd.prog 27 ⟨[.pointer (some ⟨B, 0, none⟩), .pointer (some ⟨C, 0, none⟩)]⟩ .returning W R := by
  refine AtE.callsD (nt := 23) Tryd.func27 (by kernel_rfl) hm ?_
  refine AtE.run 2 (fun W => by kernel_rfl) ?_
  refine AtE.recoverN (by kernel_rfl) (fun W => by kernel_rfl) ?_
  refine AtE.run 9 (fun W => by kernel_rfl) ?_
  exact AtE.retG Tryd.func27 (by kernel_rfl) H

theorem decP_vc (B : Nat) (C : Nat) (m0 : Int) (m1 : Int) (m2 : Int) (m3 : Int) (m4 : Int) (m5 : Int) (m6 : ByteArray) (c : Int) (x : Int) {R : Ending → FrameMode → World → Prop} {S : List Nat} {w0 W : World} (hm : Mem [(B, .cells #[.int .i64 m0, .int .i64 m1, .int .i64 m2, .int .i64 m3, .int .i64 m4, .int .i64 m5, .string m6] 23), (C, .cells #[.int .i64 c] 26)] S w0 W)
    (H :
      ∀ B1 : Nat,
      CallH Tryd.prog 28 ⟨[.iface 46 (.agg #[.int .i64 x]), .iface 51 (.pointer (some ⟨B1, 0, none⟩))]⟩ [(B, .cells #[.int .i64 (0 : Int), .int .i64 (0 : Int), .int .i64 (0 : Int), .int .i64 (0 : Int), .int .i64 (0 : Int), .int .i64 (0 : Int), .string (⟨#[]⟩)] 23), (C, .cells #[.int .i64 (200 : Int)] 26), (B1, .cells #[.int .i64 (0 : Int)] 46)] S w0 (fun v L' => ∃ (r1 : Bool), v = (.bool r1) ∧ L' = [(B, .cells #[.int .i64 (0 : Int), .int .i64 (0 : Int), .int .i64 (0 : Int), .int .i64 (0 : Int), .int .i64 (0 : Int), .int .i64 (0 : Int), .string (⟨#[]⟩)] 23), (C, .cells #[.int .i64 (200 : Int)] 26), (B1, .cells #[.int .i64 x] 46)] ∧
        ((r1 = true) →
          FinD R (.panicking [{ v := .iface 46 (.agg #[.int .i64 x]), recovered := true }]) [(B, .cells #[.int .i64 (0 : Int), .int .i64 (0 : Int), .int .i64 (0 : Int), .int .i64 (0 : Int), .int .i64 (0 : Int), .int .i64 (0 : Int), .string (⟨#[]⟩)] 23), (C, .cells #[.int .i64 x] 26), (B1, .cells #[.int .i64 x] 46)] S w0 (.tuple #[])) ∧
         ((r1 = false) →
          FinD R (.panicking [{ v := .iface 46 (.agg #[.int .i64 x]), recovered := true }]) [(B, .cells #[.int .i64 (0 : Int), .int .i64 (0 : Int), .int .i64 (0 : Int), .int .i64 (0 : Int), .int .i64 (0 : Int), .int .i64 (0 : Int), .string (⟨#[]⟩)] 23), (C, .cells #[.int .i64 (200 : Int)] 26), (B1, .cells #[.int .i64 x] 46)] S w0 (.tuple #[])))) :
    CallsD Tryd.prog 27 ⟨[.pointer (some ⟨B, 0, none⟩), .pointer (some ⟨C, 0, none⟩)]⟩ (.panicking [{ v := .iface 46 (.agg #[.int .i64 x]), recovered := false }]) W R := by
  refine AtE.callsD (nt := 23) Tryd.func27 (by kernel_rfl) hm ?_
  refine AtE.run 2 (fun W => by kernel_rfl) ?_
  refine AtE.recoverP (v := .iface 46 (.agg #[.int .i64 x])) (by kernel_rfl) (fun W => by kernel_rfl) ?_
  refine AtE.run 11 (fun W => by kernel_rfl) ?_
  refine AtE.store 0 0 (T := 23) (v := .agg #[.int .i64 (0 : Int), .int .i64 (0 : Int), .int .i64 (0 : Int), .int .i64 (0 : Int), .int .i64 (0 : Int), .int .i64 (0 : Int), .string (⟨#[]⟩)]) (by kernel_rfl) ?_
  refine AtE.store 1 0 (T := 26) (v := .int .i64 (200 : Int)) (by kernel_rfl) ?_
  refine AtE.run 3 (fun W => by kernel_rfl) ?_
  refine AtE.new (fun B => .pointer (some ⟨B, 0, none⟩)) (.cells #[.int .i64 (0 : Int)] 46) (fun W => by kernel_rfl) (by kernel_rfl) (fun B1 => ?_)
  replace H := H B1
  refine AtE.run 17 (fun W => by kernel_rfl) ?_
  refine AtE.call 28 ⟨[.iface 46 (.agg #[.int .i64 x]), .iface 51 (.pointer (some ⟨B1, 0, none⟩))]⟩ (fun W => by kernel_rfl) (by kernel_rfl) H ?_
  clear H
  rintro _ _ ⟨r1, rfl, rfl, H⟩
  refine AtE.run 2 (fun W => by kernel_rfl) ?_
  refine AtE.split 20 (b := r1) (by kernel_rfl) (fun h1' => ?_) (fun h1' => ?_)
  · replace H := H.1 h1'
    refine AtE.run 3 (fun W => by kernel_rfl) ?_
    refine AtE.load 2 0 (T := 26) (v := .int .i64 x) (by kernel_rfl) ?_
    refine AtE.norm (k' := [.inRegion (regOps [.code (sub (Eng.body Tryd.f27) [1, 1, 0, 1, 1, 1, 1, 0])]) [2]]) (e' := [(1, .pointer (some ⟨C, 0, none⟩)), (22, .int .i64 x)]) (L' := [(B, .cells #[.int .i64 (0 : Int), .int .i64 (0 : Int), .int .i64 (0 : Int), .int .i64 (0 : Int), .int .i64 (0 : Int), .int .i64 (0 : Int), .string (⟨#[]⟩)] 23), (C, .cells #[.int .i64 (200 : Int)] 26), (B1, .cells #[.int .i64 x] 46)]) ?_ (by kernel_rfl)
    refine AtE.store 1 0 (T := 26) (v := .int .i64 x) (by kernel_rfl) ?_
    refine AtE.run 1 (fun W => by kernel_rfl) ?_
    exact AtE.retG Tryd.func27 (by kernel_rfl) H
  · replace H := H.2 h1'
    refine AtE.run 2 (fun W => by kernel_rfl) ?_
    exact AtE.retG Tryd.func27 (by kernel_rfl) H

end Go.Eng
