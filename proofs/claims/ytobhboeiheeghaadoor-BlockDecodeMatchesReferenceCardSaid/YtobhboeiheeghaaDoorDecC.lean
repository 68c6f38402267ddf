/- A part of the proof: the engine by which functions are walked, verification conditions that a program of the prover wrote, contracts and plain laws; no claim of its own. -/
import Derived.Test.YtobhboeiheeghaaDoorChecked
import Derived.Test.YtobhboeiheeghaaDoorDecB
namespace Go.Eng
open Go Go.RowKit Go.Proofs
set_option linter.unusedVariables false
set_option maxRecDepth 100000
noncomputable abbrev EngB4s19 := sub (Eng.body Tryd.f19)
noncomputable abbrev EngB4s20 := sub (Eng.body Tryd.f20)
noncomputable abbrev EngB4s40 := sub (Eng.body Tryd.f40)
noncomputable abbrev EngB4s41 := sub (Eng.body Tryd.f41)
abbrev EngB4m0 : Obj := .map #[{ key := .int .i64 (1 : Int), val := .agg #[.func (.func 64) #[] #[], .bool false, .func (.func 66) #[] #[]], born := 0 }, { key := .int .i64 (2 : Int), val := .agg #[.func (.func 64) #[] #[], .bool false, .func (.func 67) #[] #[]], born := 1 }, { key := .int .i64 (3 : Int), val := .agg #[.func (.func 65) #[] #[], .bool true, .func (.func 69) #[] #[]], born := 2 }, { key := .int .i64 (4 : Int), val := .agg #[.func (.func 64) #[] #[], .bool false, .func (.func 70) #[] #[]], born := 3 }, { key := .int .i64 (5 : Int), val := .agg #[.func (.func 71) #[] #[], .bool false, .func (.func 72) #[] #[]], born := 4 }] 5
theorem rules_vc  {R : Ending → World → Prop} {w0 W : World} (hm : Mem [] [] w0 W)
  (H :
   ∀ B : Nat,
   Fin R [(B, EngB4m0)] [] w0 (.map (some B))) :
  Calls Tryd.prog 41 ⟨[]⟩ W R := by
 refine AtE.calls (nt := 12) Tryd.func41 (by kernel_rfl) hm ?_
 refine AtE.run 10 (fun W => by kernel_rfl) ?_
 refine AtE.new (fun B => .map (some B)) (.map #[] 0) (fun W => by kernel_rfl) (by kernel_rfl) (fun B => ?_)
 replace H := H B
 refine AtE.run 2 (fun W => by kernel_rfl) ?_
 refine AtE.insert 0 (b := B) (c := 0) (es := #[]) (kt := 3) (et := 84) (kd := .i64) (n := (1 : Int)) (v := .agg #[.func (.func 64) #[] #[], .bool false, .func (.func 66) #[] #[]]) (n' := 1) (by kernel_rfl) rfl ?_
 refine AtE.norm (k' := [.inRegion (regOps [.code (EngB4s41 [1,1,0])]) [4,5,6,7,8,9,10,11,12,13,14,15], .code (EngB4s41 [1,1,1])]) (e' := [(1, .func (.func 64) #[] #[]), (2, .map (some B))]) (L' := [(B, .map #[{ key := .int .i64 (1 : Int), val := .agg #[.func (.func 64) #[] #[], .bool false, .func (.func 66) #[] #[]], born := 0 }] 1)]) ?_ (by kernel_rfl)
 refine AtE.run 2 (fun W => by kernel_rfl) ?_
 refine AtE.insert 0 (b := B) (c := 1) (es := #[{ key := .int .i64 (1 : Int), val := .agg #[.func (.func 64) #[] #[], .bool false, .func (.func 66) #[] #[]], born := 0 }]) (kt := 3) (et := 84) (kd := .i64) (n := (2 : Int)) (v := .agg #[.func (.func 64) #[] #[], .bool false, .func (.func 67) #[] #[]]) (n' := 2) (by kernel_rfl) rfl ?_
 refine AtE.norm (k' := [.inRegion (regOps [.code (EngB4s41 [1,1,0])]) [7,8,9,10,11,12,13,14,15], .code (EngB4s41 [1,1,1])]) (e' := [(1, .func (.func 64) #[] #[]), (2, .map (some B))]) (L' := [(B, .map #[{ key := .int .i64 (1 : Int), val := .agg #[.func (.func 64) #[] #[], .bool false, .func (.func 66) #[] #[]], born := 0 }, { key := .int .i64 (2 : Int), val := .agg #[.func (.func 64) #[] #[], .bool false, .func (.func 67) #[] #[]], born := 1 }] 2)]) ?_ (by kernel_rfl)
 refine AtE.run 1 (fun W => by kernel_rfl) ?_
 refine AtE.insert 0 (b := B) (c := 2) (es := #[{ key := .int .i64 (1 : Int), val := .agg #[.func (.func 64) #[] #[], .bool false, .func (.func 66) #[] #[]], born := 0 }, { key := .int .i64 (2 : Int), val := .agg #[.func (.func 64) #[] #[], .bool false, .func (.func 67) #[] #[]], born := 1 }]) (kt := 3) (et := 84) (kd := .i64) (n := (3 : Int)) (v := .agg #[.func (.func 65) #[] #[], .bool true, .func (.func 69) #[] #[]]) (n' := 3) (by kernel_rfl) rfl ?_
 refine AtE.norm (k' := [.inRegion (regOps [.code (EngB4s41 [1,1,0])]) [9,10,11,12,13,14,15], .code (EngB4s41 [1,1,1])]) (e' := [(1, .func (.func 64) #[] #[]), (2, .map (some B))]) (L' := [(B, .map #[{ key := .int .i64 (1 : Int), val := .agg #[.func (.func 64) #[] #[], .bool false, .func (.func 66) #[] #[]], born := 0 }, { key := .int .i64 (2 : Int), val := .agg #[.func (.func 64) #[] #[], .bool false, .func (.func 67) #[] #[]], born := 1 }, { key := .int .i64 (3 : Int), val := .agg #[.func (.func 65) #[] #[], .bool true, .func (.func 69) #[] #[]], born := 2 }] 3)]) ?_ (by kernel_rfl)
 refine AtE.run 2 (fun W => by kernel_rfl) ?_
 refine AtE.insert 0 (b := B) (c := 3) (es := #[{ key := .int .i64 (1 : Int), val := .agg #[.func (.func 64) #[] #[], .bool false, .func (.func 66) #[] #[]], born := 0 }, { key := .int .i64 (2 : Int), val := .agg #[.func (.func 64) #[] #[], .bool false, .func (.func 67) #[] #[]], born := 1 }, { key := .int .i64 (3 : Int), val := .agg #[.func (.func 65) #[] #[], .bool true, .func (.func 69) #[] #[]], born := 2 }]) (kt := 3) (et := 84) (kd := .i64) (n := (4 : Int)) (v := .agg #[.func (.func 64) #[] #[], .bool false, .func (.func 70) #[] #[]]) (n' := 4) (by kernel_rfl) rfl ?_
 refine AtE.norm (k' := [.inRegion (regOps [.code (EngB4s41 [1,1,0])]) [12,13,14,15], .code (EngB4s41 [1,1,1])]) (e' := [(2, .map (some B))]) (L' := [(B, .map #[{ key := .int .i64 (1 : Int), val := .agg #[.func (.func 64) #[] #[], .bool false, .func (.func 66) #[] #[]], born := 0 }, { key := .int .i64 (2 : Int), val := .agg #[.func (.func 64) #[] #[], .bool false, .func (.func 67) #[] #[]], born := 1 }, { key := .int .i64 (3 : Int), val := .agg #[.func (.func 65) #[] #[], .bool true, .func (.func 69) #[] #[]], born := 2 }, { key := .int .i64 (4 : Int), val := .agg #[.func (.func 64) #[] #[], .bool false, .func (.func 70) #[] #[]], born := 3 }] 4)]) ?_ (by kernel_rfl)
 refine AtE.run 1 (fun W => by kernel_rfl) ?_
 refine AtE.insert 0 (b := B) (c := 4) (es := #[{ key := .int .i64 (1 : Int), val := .agg #[.func (.func 64) #[] #[], .bool false, .func (.func 66) #[] #[]], born := 0 }, { key := .int .i64 (2 : Int), val := .agg #[.func (.func 64) #[] #[], .bool false, .func (.func 67) #[] #[]], born := 1 }, { key := .int .i64 (3 : Int), val := .agg #[.func (.func 65) #[] #[], .bool true, .func (.func 69) #[] #[]], born := 2 }, { key := .int .i64 (4 : Int), val := .agg #[.func (.func 64) #[] #[], .bool false, .func (.func 70) #[] #[]], born := 3 }]) (kt := 3) (et := 84) (kd := .i64) (n := (5 : Int)) (v := .agg #[.func (.func 71) #[] #[], .bool false, .func (.func 72) #[] #[]]) (n' := 5) (by kernel_rfl) rfl ?_
 refine AtE.norm (k' := [.inRegion (regOps [.code (EngB4s41 [1,1,0])]) [14,15], .code (EngB4s41 [1,1,1])]) (e' := [(2, .map (some B))]) (L' := [(B, EngB4m0)]) ?_ (by kernel_rfl)
 refine AtE.run 3 (fun W => by kernel_rfl) ?_
 exact AtE.ret Tryd.func41 (by kernel_rfl) H
theorem follows_vc (bi : Int) (bk : Int) (bt : ByteArray) (bs : Int) (br : Int) (bu : Int) (bp : Option Addr) (bl : Nat) (bc : Nat) (ba : Int) (bd : Int) (mb : Nat) {R : Ending → World → Prop} {w0 W : World} (hm : Mem [] [] w0 W)
  (H :
   ∀ B : Nat,
   (w0.heap[mb]? = some (EngB4m0)) ∧
   ((bk = (1 : Int)) →
    ∀ B1 : Nat,
    ((bi < (1 : Int)) →
     Fin R [(B, .cells #[.int .i64 bi, .int .i64 bk, .string bt, .int .i64 bs, .int .i64 br, .int .i64 bu, .slice bp bl bc, .int .i64 ba, .int .i64 bd] 26), (B1, .cells #[.func (.func 64) #[] #[], .bool false, .func (.func 66) #[] #[]] 84)] [] w0 (.bool false)) ∧
     ((¬ (bi < (1 : Int))) →
     (((1000 : Int) < bi) →
      Fin R [(B, .cells #[.int .i64 bi, .int .i64 bk, .string bt, .int .i64 bs, .int .i64 br, .int .i64 bu, .slice bp bl bc, .int .i64 ba, .int .i64 bd] 26), (B1, .cells #[.func (.func 64) #[] #[], .bool false, .func (.func 66) #[] #[]] 84)] [] w0 (.bool false)) ∧
      ((¬ ((1000 : Int) < bi)) →
      CallH Tryd.prog 63 ⟨[.agg #[.int .i64 bu, .slice bp bl bc, .int .i64 ba, .int .i64 bd]]⟩ [(B, .cells #[.int .i64 bi, .int .i64 bk, .string bt, .int .i64 bs, .int .i64 br, .int .i64 bu, .slice bp bl bc, .int .i64 ba, .int .i64 bd] 26), (B1, .cells #[.func (.func 64) #[] #[], .bool false, .func (.func 66) #[] #[]] 84)] [] w0 (fun v L' => ∃ (r1 : Bool), v = (.bool r1) ∧ L' = [(B, .cells #[.int .i64 bi, .int .i64 bk, .string bt, .int .i64 bs, .int .i64 br, .int .i64 bu, .slice bp bl bc, .int .i64 ba, .int .i64 bd] 26), (B1, .cells #[.func (.func 64) #[] #[], .bool false, .func (.func 66) #[] #[]] 84)] ∧
       ((r1 = true) →
        CallH Tryd.prog 64 ⟨[.string bt]⟩ [(B, .cells #[.int .i64 bi, .int .i64 bk, .string bt, .int .i64 bs, .int .i64 br, .int .i64 bu, .slice bp bl bc, .int .i64 ba, .int .i64 bd] 26), (B1, .cells #[.func (.func 64) #[] #[], .bool false, .func (.func 66) #[] #[]] 84)] [] w0 (fun v L' => ∃ (r21 : Bool), v = (.bool r21) ∧ L' = [(B, .cells #[.int .i64 bi, .int .i64 bk, .string bt, .int .i64 bs, .int .i64 br, .int .i64 bu, .slice bp bl bc, .int .i64 ba, .int .i64 bd] 26), (B1, .cells #[.func (.func 64) #[] #[], .bool false, .func (.func 66) #[] #[]] 84)] ∧
         ((r21 = true) →
          ((bs = (0 : Int)) →
           Fin R [(B, .cells #[.int .i64 bi, .int .i64 bk, .string bt, .int .i64 bs, .int .i64 br, .int .i64 bu, .slice bp bl bc, .int .i64 ba, .int .i64 bd] 26), (B1, .cells #[.func (.func 64) #[] #[], .bool false, .func (.func 66) #[] #[]] 84)] [] w0 (.bool (decide (br = (0 : Int))))) ∧
           ((¬ (bs = (0 : Int))) →
           Fin R [(B, .cells #[.int .i64 bi, .int .i64 bk, .string bt, .int .i64 bs, .int .i64 br, .int .i64 bu, .slice bp bl bc, .int .i64 ba, .int .i64 bd] 26), (B1, .cells #[.func (.func 64) #[] #[], .bool false, .func (.func 66) #[] #[]] 84)] [] w0 (.bool false))) ∧
          ((r21 = false) →
          Fin R [(B, .cells #[.int .i64 bi, .int .i64 bk, .string bt, .int .i64 bs, .int .i64 br, .int .i64 bu, .slice bp bl bc, .int .i64 ba, .int .i64 bd] 26), (B1, .cells #[.func (.func 64) #[] #[], .bool false, .func (.func 66) #[] #[]] 84)] [] w0 (.bool false)))) ∧
        ((r1 = false) →
        Fin R [(B, .cells #[.int .i64 bi, .int .i64 bk, .string bt, .int .i64 bs, .int .i64 br, .int .i64 bu, .slice bp bl bc, .int .i64 ba, .int .i64 bd] 26), (B1, .cells #[.func (.func 64) #[] #[], .bool false, .func (.func 66) #[] #[]] 84)] [] w0 (.bool false)))))) ∧
    ((¬ bk = (1 : Int)) →
    ((bk = (2 : Int)) →
     ∀ B2 : Nat,
     ((bi < (1 : Int)) →
      Fin R [(B, .cells #[.int .i64 bi, .int .i64 bk, .string bt, .int .i64 bs, .int .i64 br, .int .i64 bu, .slice bp bl bc, .int .i64 ba, .int .i64 bd] 26), (B2, .cells #[.func (.func 64) #[] #[], .bool false, .func (.func 67) #[] #[]] 84)] [] w0 (.bool false)) ∧
      ((¬ (bi < (1 : Int))) →
      (((1000 : Int) < bi) →
       Fin R [(B, .cells #[.int .i64 bi, .int .i64 bk, .string bt, .int .i64 bs, .int .i64 br, .int .i64 bu, .slice bp bl bc, .int .i64 ba, .int .i64 bd] 26), (B2, .cells #[.func (.func 64) #[] #[], .bool false, .func (.func 67) #[] #[]] 84)] [] w0 (.bool false)) ∧
       ((¬ ((1000 : Int) < bi)) →
       CallH Tryd.prog 63 ⟨[.agg #[.int .i64 bu, .slice bp bl bc, .int .i64 ba, .int .i64 bd]]⟩ [(B, .cells #[.int .i64 bi, .int .i64 bk, .string bt, .int .i64 bs, .int .i64 br, .int .i64 bu, .slice bp bl bc, .int .i64 ba, .int .i64 bd] 26), (B2, .cells #[.func (.func 64) #[] #[], .bool false, .func (.func 67) #[] #[]] 84)] [] w0 (fun v L' => ∃ (r31 : Bool), v = (.bool r31) ∧ L' = [(B, .cells #[.int .i64 bi, .int .i64 bk, .string bt, .int .i64 bs, .int .i64 br, .int .i64 bu, .slice bp bl bc, .int .i64 ba, .int .i64 bd] 26), (B2, .cells #[.func (.func 64) #[] #[], .bool false, .func (.func 67) #[] #[]] 84)] ∧
        ((r31 = true) →
         CallH Tryd.prog 64 ⟨[.string bt]⟩ [(B, .cells #[.int .i64 bi, .int .i64 bk, .string bt, .int .i64 bs, .int .i64 br, .int .i64 bu, .slice bp bl bc, .int .i64 ba, .int .i64 bd] 26), (B2, .cells #[.func (.func 64) #[] #[], .bool false, .func (.func 67) #[] #[]] 84)] [] w0 (fun v L' => ∃ (r41 : Bool), v = (.bool r41) ∧ L' = [(B, .cells #[.int .i64 bi, .int .i64 bk, .string bt, .int .i64 bs, .int .i64 br, .int .i64 bu, .slice bp bl bc, .int .i64 ba, .int .i64 bd] 26), (B2, .cells #[.func (.func 64) #[] #[], .bool false, .func (.func 67) #[] #[]] 84)] ∧
          ((r41 = true) →
           ((bs = (0 : Int)) →
            Fin R [(B, .cells #[.int .i64 bi, .int .i64 bk, .string bt, .int .i64 bs, .int .i64 br, .int .i64 bu, .slice bp bl bc, .int .i64 ba, .int .i64 bd] 26), (B2, .cells #[.func (.func 64) #[] #[], .bool false, .func (.func 67) #[] #[]] 84)] [] w0 (.bool (decide (br = (0 : Int))))) ∧
            ((¬ (bs = (0 : Int))) →
            Fin R [(B, .cells #[.int .i64 bi, .int .i64 bk, .string bt, .int .i64 bs, .int .i64 br, .int .i64 bu, .slice bp bl bc, .int .i64 ba, .int .i64 bd] 26), (B2, .cells #[.func (.func 64) #[] #[], .bool false, .func (.func 67) #[] #[]] 84)] [] w0 (.bool false))) ∧
           ((r41 = false) →
           Fin R [(B, .cells #[.int .i64 bi, .int .i64 bk, .string bt, .int .i64 bs, .int .i64 br, .int .i64 bu, .slice bp bl bc, .int .i64 ba, .int .i64 bd] 26), (B2, .cells #[.func (.func 64) #[] #[], .bool false, .func (.func 67) #[] #[]] 84)] [] w0 (.bool false)))) ∧
         ((r31 = false) →
         Fin R [(B, .cells #[.int .i64 bi, .int .i64 bk, .string bt, .int .i64 bs, .int .i64 br, .int .i64 bu, .slice bp bl bc, .int .i64 ba, .int .i64 bd] 26), (B2, .cells #[.func (.func 64) #[] #[], .bool false, .func (.func 67) #[] #[]] 84)] [] w0 (.bool false)))))) ∧
     ((¬ bk = (2 : Int)) →
     ((bk = (3 : Int)) →
      ∀ B3 : Nat,
      ((bi < (1 : Int)) →
       Fin R [(B, .cells #[.int .i64 bi, .int .i64 bk, .string bt, .int .i64 bs, .int .i64 br, .int .i64 bu, .slice bp bl bc, .int .i64 ba, .int .i64 bd] 26), (B3, .cells #[.func (.func 65) #[] #[], .bool true, .func (.func 69) #[] #[]] 84)] [] w0 (.bool false)) ∧
       ((¬ (bi < (1 : Int))) →
       (((1000 : Int) < bi) →
        Fin R [(B, .cells #[.int .i64 bi, .int .i64 bk, .string bt, .int .i64 bs, .int .i64 br, .int .i64 bu, .slice bp bl bc, .int .i64 ba, .int .i64 bd] 26), (B3, .cells #[.func (.func 65) #[] #[], .bool true, .func (.func 69) #[] #[]] 84)] [] w0 (.bool false)) ∧
        ((¬ ((1000 : Int) < bi)) →
        CallH Tryd.prog 63 ⟨[.agg #[.int .i64 bu, .slice bp bl bc, .int .i64 ba, .int .i64 bd]]⟩ [(B, .cells #[.int .i64 bi, .int .i64 bk, .string bt, .int .i64 bs, .int .i64 br, .int .i64 bu, .slice bp bl bc, .int .i64 ba, .int .i64 bd] 26), (B3, .cells #[.func (.func 65) #[] #[], .bool true, .func (.func 69) #[] #[]] 84)] [] w0 (fun v L' => ∃ (r51 : Bool), v = (.bool r51) ∧ L' = [(B, .cells #[.int .i64 bi, .int .i64 bk, .string bt, .int .i64 bs, .int .i64 br, .int .i64 bu, .slice bp bl bc, .int .i64 ba, .int .i64 bd] 26), (B3, .cells #[.func (.func 65) #[] #[], .bool true, .func (.func 69) #[] #[]] 84)] ∧
         ((r51 = true) →
          CallH Tryd.prog 65 ⟨[.string bt]⟩ [(B, .cells #[.int .i64 bi, .int .i64 bk, .string bt, .int .i64 bs, .int .i64 br, .int .i64 bu, .slice bp bl bc, .int .i64 ba, .int .i64 bd] 26), (B3, .cells #[.func (.func 65) #[] #[], .bool true, .func (.func 69) #[] #[]] 84)] [] w0 (fun v L' => ∃ (r61 : Bool), v = (.bool r61) ∧ L' = [(B, .cells #[.int .i64 bi, .int .i64 bk, .string bt, .int .i64 bs, .int .i64 br, .int .i64 bu, .slice bp bl bc, .int .i64 ba, .int .i64 bd] 26), (B3, .cells #[.func (.func 65) #[] #[], .bool true, .func (.func 69) #[] #[]] 84)] ∧
           ((r61 = true) →
            (((1 : Int) ≤ bs) →
             ((bs ≤ (64 : Int)) →
              (((1 : Int) ≤ br) →
               Fin R [(B, .cells #[.int .i64 bi, .int .i64 bk, .string bt, .int .i64 bs, .int .i64 br, .int .i64 bu, .slice bp bl bc, .int .i64 ba, .int .i64 bd] 26), (B3, .cells #[.func (.func 65) #[] #[], .bool true, .func (.func 69) #[] #[]] 84)] [] w0 (.bool (decide (br ≤ (1000 : Int))))) ∧
               ((¬ ((1 : Int) ≤ br)) →
               Fin R [(B, .cells #[.int .i64 bi, .int .i64 bk, .string bt, .int .i64 bs, .int .i64 br, .int .i64 bu, .slice bp bl bc, .int .i64 ba, .int .i64 bd] 26), (B3, .cells #[.func (.func 65) #[] #[], .bool true, .func (.func 69) #[] #[]] 84)] [] w0 (.bool false))) ∧
              ((¬ (bs ≤ (64 : Int))) →
              Fin R [(B, .cells #[.int .i64 bi, .int .i64 bk, .string bt, .int .i64 bs, .int .i64 br, .int .i64 bu, .slice bp bl bc, .int .i64 ba, .int .i64 bd] 26), (B3, .cells #[.func (.func 65) #[] #[], .bool true, .func (.func 69) #[] #[]] 84)] [] w0 (.bool false))) ∧
             ((¬ ((1 : Int) ≤ bs)) →
             Fin R [(B, .cells #[.int .i64 bi, .int .i64 bk, .string bt, .int .i64 bs, .int .i64 br, .int .i64 bu, .slice bp bl bc, .int .i64 ba, .int .i64 bd] 26), (B3, .cells #[.func (.func 65) #[] #[], .bool true, .func (.func 69) #[] #[]] 84)] [] w0 (.bool false))) ∧
            ((r61 = false) →
            Fin R [(B, .cells #[.int .i64 bi, .int .i64 bk, .string bt, .int .i64 bs, .int .i64 br, .int .i64 bu, .slice bp bl bc, .int .i64 ba, .int .i64 bd] 26), (B3, .cells #[.func (.func 65) #[] #[], .bool true, .func (.func 69) #[] #[]] 84)] [] w0 (.bool false)))) ∧
          ((r51 = false) →
          Fin R [(B, .cells #[.int .i64 bi, .int .i64 bk, .string bt, .int .i64 bs, .int .i64 br, .int .i64 bu, .slice bp bl bc, .int .i64 ba, .int .i64 bd] 26), (B3, .cells #[.func (.func 65) #[] #[], .bool true, .func (.func 69) #[] #[]] 84)] [] w0 (.bool false)))))) ∧
      ((¬ bk = (3 : Int)) →
      ((bk = (4 : Int)) →
       ∀ B4 : Nat,
       ((bi < (1 : Int)) →
        Fin R [(B, .cells #[.int .i64 bi, .int .i64 bk, .string bt, .int .i64 bs, .int .i64 br, .int .i64 bu, .slice bp bl bc, .int .i64 ba, .int .i64 bd] 26), (B4, .cells #[.func (.func 64) #[] #[], .bool false, .func (.func 70) #[] #[]] 84)] [] w0 (.bool false)) ∧
        ((¬ (bi < (1 : Int))) →
        (((1000 : Int) < bi) →
         Fin R [(B, .cells #[.int .i64 bi, .int .i64 bk, .string bt, .int .i64 bs, .int .i64 br, .int .i64 bu, .slice bp bl bc, .int .i64 ba, .int .i64 bd] 26), (B4, .cells #[.func (.func 64) #[] #[], .bool false, .func (.func 70) #[] #[]] 84)] [] w0 (.bool false)) ∧
         ((¬ ((1000 : Int) < bi)) →
         CallH Tryd.prog 63 ⟨[.agg #[.int .i64 bu, .slice bp bl bc, .int .i64 ba, .int .i64 bd]]⟩ [(B, .cells #[.int .i64 bi, .int .i64 bk, .string bt, .int .i64 bs, .int .i64 br, .int .i64 bu, .slice bp bl bc, .int .i64 ba, .int .i64 bd] 26), (B4, .cells #[.func (.func 64) #[] #[], .bool false, .func (.func 70) #[] #[]] 84)] [] w0 (fun v L' => ∃ (r71 : Bool), v = (.bool r71) ∧ L' = [(B, .cells #[.int .i64 bi, .int .i64 bk, .string bt, .int .i64 bs, .int .i64 br, .int .i64 bu, .slice bp bl bc, .int .i64 ba, .int .i64 bd] 26), (B4, .cells #[.func (.func 64) #[] #[], .bool false, .func (.func 70) #[] #[]] 84)] ∧
          ((r71 = true) →
           CallH Tryd.prog 64 ⟨[.string bt]⟩ [(B, .cells #[.int .i64 bi, .int .i64 bk, .string bt, .int .i64 bs, .int .i64 br, .int .i64 bu, .slice bp bl bc, .int .i64 ba, .int .i64 bd] 26), (B4, .cells #[.func (.func 64) #[] #[], .bool false, .func (.func 70) #[] #[]] 84)] [] w0 (fun v L' => ∃ (r81 : Bool), v = (.bool r81) ∧ L' = [(B, .cells #[.int .i64 bi, .int .i64 bk, .string bt, .int .i64 bs, .int .i64 br, .int .i64 bu, .slice bp bl bc, .int .i64 ba, .int .i64 bd] 26), (B4, .cells #[.func (.func 64) #[] #[], .bool false, .func (.func 70) #[] #[]] 84)] ∧
            ((r81 = true) →
             ((bs = (0 : Int)) →
              Fin R [(B, .cells #[.int .i64 bi, .int .i64 bk, .string bt, .int .i64 bs, .int .i64 br, .int .i64 bu, .slice bp bl bc, .int .i64 ba, .int .i64 bd] 26), (B4, .cells #[.func (.func 64) #[] #[], .bool false, .func (.func 70) #[] #[]] 84)] [] w0 (.bool (decide (br = (0 : Int))))) ∧
              ((¬ (bs = (0 : Int))) →
              Fin R [(B, .cells #[.int .i64 bi, .int .i64 bk, .string bt, .int .i64 bs, .int .i64 br, .int .i64 bu, .slice bp bl bc, .int .i64 ba, .int .i64 bd] 26), (B4, .cells #[.func (.func 64) #[] #[], .bool false, .func (.func 70) #[] #[]] 84)] [] w0 (.bool false))) ∧
             ((r81 = false) →
             Fin R [(B, .cells #[.int .i64 bi, .int .i64 bk, .string bt, .int .i64 bs, .int .i64 br, .int .i64 bu, .slice bp bl bc, .int .i64 ba, .int .i64 bd] 26), (B4, .cells #[.func (.func 64) #[] #[], .bool false, .func (.func 70) #[] #[]] 84)] [] w0 (.bool false)))) ∧
           ((r71 = false) →
           Fin R [(B, .cells #[.int .i64 bi, .int .i64 bk, .string bt, .int .i64 bs, .int .i64 br, .int .i64 bu, .slice bp bl bc, .int .i64 ba, .int .i64 bd] 26), (B4, .cells #[.func (.func 64) #[] #[], .bool false, .func (.func 70) #[] #[]] 84)] [] w0 (.bool false)))))) ∧
       ((¬ bk = (4 : Int)) →
       ((bk = (5 : Int)) →
        ∀ B5 : Nat,
        ((bi < (1 : Int)) →
         Fin R [(B, .cells #[.int .i64 bi, .int .i64 bk, .string bt, .int .i64 bs, .int .i64 br, .int .i64 bu, .slice bp bl bc, .int .i64 ba, .int .i64 bd] 26), (B5, .cells #[.func (.func 71) #[] #[], .bool false, .func (.func 72) #[] #[]] 84)] [] w0 (.bool false)) ∧
         ((¬ (bi < (1 : Int))) →
         (((1000 : Int) < bi) →
          Fin R [(B, .cells #[.int .i64 bi, .int .i64 bk, .string bt, .int .i64 bs, .int .i64 br, .int .i64 bu, .slice bp bl bc, .int .i64 ba, .int .i64 bd] 26), (B5, .cells #[.func (.func 71) #[] #[], .bool false, .func (.func 72) #[] #[]] 84)] [] w0 (.bool false)) ∧
          ((¬ ((1000 : Int) < bi)) →
          CallH Tryd.prog 63 ⟨[.agg #[.int .i64 bu, .slice bp bl bc, .int .i64 ba, .int .i64 bd]]⟩ [(B, .cells #[.int .i64 bi, .int .i64 bk, .string bt, .int .i64 bs, .int .i64 br, .int .i64 bu, .slice bp bl bc, .int .i64 ba, .int .i64 bd] 26), (B5, .cells #[.func (.func 71) #[] #[], .bool false, .func (.func 72) #[] #[]] 84)] [] w0 (fun v L' => ∃ (r91 : Bool), v = (.bool r91) ∧ L' = [(B, .cells #[.int .i64 bi, .int .i64 bk, .string bt, .int .i64 bs, .int .i64 br, .int .i64 bu, .slice bp bl bc, .int .i64 ba, .int .i64 bd] 26), (B5, .cells #[.func (.func 71) #[] #[], .bool false, .func (.func 72) #[] #[]] 84)] ∧
           ((r91 = true) →
            CallH Tryd.prog 71 ⟨[.string bt]⟩ [(B, .cells #[.int .i64 bi, .int .i64 bk, .string bt, .int .i64 bs, .int .i64 br, .int .i64 bu, .slice bp bl bc, .int .i64 ba, .int .i64 bd] 26), (B5, .cells #[.func (.func 71) #[] #[], .bool false, .func (.func 72) #[] #[]] 84)] [] w0 (fun v L' => ∃ (r101 : Bool), v = (.bool r101) ∧ L' = [(B, .cells #[.int .i64 bi, .int .i64 bk, .string bt, .int .i64 bs, .int .i64 br, .int .i64 bu, .slice bp bl bc, .int .i64 ba, .int .i64 bd] 26), (B5, .cells #[.func (.func 71) #[] #[], .bool false, .func (.func 72) #[] #[]] 84)] ∧
             ((r101 = true) →
              ((bs = (0 : Int)) →
               Fin R [(B, .cells #[.int .i64 bi, .int .i64 bk, .string bt, .int .i64 bs, .int .i64 br, .int .i64 bu, .slice bp bl bc, .int .i64 ba, .int .i64 bd] 26), (B5, .cells #[.func (.func 71) #[] #[], .bool false, .func (.func 72) #[] #[]] 84)] [] w0 (.bool (decide (br = (0 : Int))))) ∧
               ((¬ (bs = (0 : Int))) →
               Fin R [(B, .cells #[.int .i64 bi, .int .i64 bk, .string bt, .int .i64 bs, .int .i64 br, .int .i64 bu, .slice bp bl bc, .int .i64 ba, .int .i64 bd] 26), (B5, .cells #[.func (.func 71) #[] #[], .bool false, .func (.func 72) #[] #[]] 84)] [] w0 (.bool false))) ∧
              ((r101 = false) →
              Fin R [(B, .cells #[.int .i64 bi, .int .i64 bk, .string bt, .int .i64 bs, .int .i64 br, .int .i64 bu, .slice bp bl bc, .int .i64 ba, .int .i64 bd] 26), (B5, .cells #[.func (.func 71) #[] #[], .bool false, .func (.func 72) #[] #[]] 84)] [] w0 (.bool false)))) ∧
            ((r91 = false) →
            Fin R [(B, .cells #[.int .i64 bi, .int .i64 bk, .string bt, .int .i64 bs, .int .i64 br, .int .i64 bu, .slice bp bl bc, .int .i64 ba, .int .i64 bd] 26), (B5, .cells #[.func (.func 71) #[] #[], .bool false, .func (.func 72) #[] #[]] 84)] [] w0 (.bool false)))))) ∧
        ((¬ bk = (5 : Int)) →
        ∀ B6 : Nat,
        Fin R [(B, .cells #[.int .i64 bi, .int .i64 bk, .string bt, .int .i64 bs, .int .i64 br, .int .i64 bu, .slice bp bl bc, .int .i64 ba, .int .i64 bd] 26), (B6, .cells #[.nilFunc, .bool false, .nilFunc] 84)] [] w0 (.bool false))))))) :
  Calls Tryd.prog 40 ⟨[.agg #[.int .i64 bi, .int .i64 bk, .string bt, .int .i64 bs, .int .i64 br, .int .i64 bu, .slice bp bl bc, .int .i64 ba, .int .i64 bd], .map (some mb)]⟩ W R := by
 refine AtE.calls (nt := 69) Tryd.func40 (by kernel_rfl) hm ?_
 refine AtE.run 2 (fun W => by kernel_rfl) ?_
 refine AtE.new (fun B => .pointer (some ⟨B, 0, none⟩)) (.cells #[.int .i64 bi, .int .i64 bk, .string bt, .int .i64 bs, .int .i64 br, .int .i64 bu, .slice bp bl bc, .int .i64 ba, .int .i64 bd] 26) (fun W => by kernel_rfl) (by kernel_rfl) (fun B => ?_)
 replace H := H B
 refine AtE.run 6 (fun W => by kernel_rfl) ?_
 refine AtE.load 0 1 (T := 3) (v := .int .i64 bk) (by kernel_rfl) ?_
 refine AtE.lookW (b := mb) (c := 5) (es := #[{ key := .int .i64 (1 : Int), val := .agg #[.func (.func 64) #[] #[], .bool false, .func (.func 66) #[] #[]], born := 0 }, { key := .int .i64 (2 : Int), val := .agg #[.func (.func 64) #[] #[], .bool false, .func (.func 67) #[] #[]], born := 1 }, { key := .int .i64 (3 : Int), val := .agg #[.func (.func 65) #[] #[], .bool true, .func (.func 69) #[] #[]], born := 2 }, { key := .int .i64 (4 : Int), val := .agg #[.func (.func 64) #[] #[], .bool false, .func (.func 70) #[] #[]], born := 3 }, { key := .int .i64 (5 : Int), val := .agg #[.func (.func 71) #[] #[], .bool false, .func (.func 72) #[] #[]], born := 4 }]) (kt := 3) (et := 84) (kd := .i64) (n := bk) (z := .agg #[.nilFunc, .bool false, .nilFunc]) H.1 List.not_mem_nil (by kernel_rfl) ?_
 replace H := H.2
 refine LookAll.cons (fun h1' => ?_) (fun h1' => ?_)
 ·replace H := H.1 h1'
  refine AtE.norm (k' := [.inRegion (regOps [.code (EngB4s40 [1,0])]) [4,5,6,7,8,9], .code (EngB4s40 [1,1])]) (e' := [(2, .pointer (some ⟨B, 0, none⟩)), (11, .tuple #[.agg #[.func (.func 64) #[] #[], .bool false, .func (.func 66) #[] #[]], .bool true])]) (L' := [(B, .cells #[.int .i64 bi, .int .i64 bk, .string bt, .int .i64 bs, .int .i64 br, .int .i64 bu, .slice bp bl bc, .int .i64 ba, .int .i64 bd] 26)]) ?_ (by kernel_rfl)
  refine AtE.run 3 (fun W => by kernel_rfl) ?_
  refine AtE.new (fun B => .pointer (some ⟨B, 0, none⟩)) (.cells #[.nilFunc, .bool false, .nilFunc] 84) (fun W => by kernel_rfl) (by kernel_rfl) (fun B1 => ?_)
  replace H := H B1
  refine AtE.store 1 0 (T := 84) (v := .agg #[.func (.func 64) #[] #[], .bool false, .func (.func 66) #[] #[]]) (by kernel_rfl) ?_
  refine AtE.run 9 (fun W => by kernel_rfl) ?_
  refine AtE.load 0 0 (T := 3) (v := .int .i64 bi) (by kernel_rfl) ?_
  refine AtE.run 3 (fun W => by kernel_rfl) ?_
  refine AtE.splitP 21 (p := bi < (1 : Int)) (by kernel_rfl) (fun h2' => ?_) (fun h2' => ?_)
  ·replace H := H.1 h2'
   refine AtE.run 24 (fun W => by kernel_rfl) ?_
   exact AtE.ret Tryd.func40 (by kernel_rfl) H
  ·replace H := H.2 h2'
   refine AtE.run 1 (fun W => by kernel_rfl) ?_
   refine AtE.load 0 0 (T := 3) (v := .int .i64 bi) (by kernel_rfl) ?_
   refine AtE.run 3 (fun W => by kernel_rfl) ?_
   refine AtE.splitP 26 (p := (1000 : Int) < bi) (by kernel_rfl) (fun h3' => ?_) (fun h3' => ?_)
   ·replace H := H.1 h3'
    refine AtE.run 19 (fun W => by kernel_rfl) ?_
    exact AtE.ret Tryd.func40 (by kernel_rfl) H
   ·replace H := H.2 h3'
    refine AtE.run 1 (fun W => by kernel_rfl) ?_
    refine AtE.load 0 5 (T := 24) (v := .agg #[.int .i64 bu, .slice bp bl bc, .int .i64 ba, .int .i64 bd]) (by kernel_rfl) ?_
    refine AtE.norm (k' := [.inRegion (regOps [.code (EngB4s40 [1,1,0,0])]) [15,16,17,18,19,20,21,22,23,24,25], .code (EngB4s40 [1,1,0,1]), .code (EngB4s40 [1,1,1])]) (e' := [(2, .pointer (some ⟨B, 0, none⟩)), (5, .pointer (some ⟨B1, 0, none⟩)), (26, .bool false), (28, .agg #[.int .i64 bu, .slice bp bl bc, .int .i64 ba, .int .i64 bd])]) (L' := [(B, .cells #[.int .i64 bi, .int .i64 bk, .string bt, .int .i64 bs, .int .i64 br, .int .i64 bu, .slice bp bl bc, .int .i64 ba, .int .i64 bd] 26), (B1, .cells #[.func (.func 64) #[] #[], .bool false, .func (.func 66) #[] #[]] 84)]) ?_ (by kernel_rfl)
    refine AtE.call 63 ⟨[.agg #[.int .i64 bu, .slice bp bl bc, .int .i64 ba, .int .i64 bd]]⟩ (fun W => by kernel_rfl) (by kernel_rfl) H ?_
    clear H
    rintro _ _ ⟨r1, rfl, rfl, H⟩
    refine AtE.split 29 (b := r1) (by kernel_rfl) (fun h4' => ?_) (fun h4' => ?_)
    ·replace H := H.1 h4'
     refine AtE.run 4 (fun W => by kernel_rfl) ?_
     refine AtE.load 1 0 (T := 40) (v := .func (.func 64) #[] #[]) (by kernel_rfl) ?_
     refine AtE.run 1 (fun W => by kernel_rfl) ?_
     refine AtE.load 0 2 (T := 9) (v := .string bt) (by kernel_rfl) ?_
     refine AtE.call 64 ⟨[.string bt]⟩ (fun W => by kernel_rfl) (by kernel_rfl) H ?_
     clear H
     rintro _ _ ⟨r21, rfl, rfl, H⟩
     refine AtE.split 37 (b := r21) (by kernel_rfl) (fun h5' => ?_) (fun h5' => ?_)
     ·replace H := H.1 h5'
      refine AtE.run 9 (fun W => by kernel_rfl) ?_
      refine AtE.load 1 1 (T := 4) (v := .bool false) (by kernel_rfl) ?_
      refine AtE.norm (k' := [.inRegion (regOps [.code (EngB4s40 [1,1,1,0,0])]) [2], .code (EngB4s40 [1,1,1,0,1]), .code (EngB4s40 [1,1,1,1])]) (e' := [(2, .pointer (some ⟨B, 0, none⟩)), (41, .bool false)]) (L' := [(B, .cells #[.int .i64 bi, .int .i64 bk, .string bt, .int .i64 bs, .int .i64 br, .int .i64 bu, .slice bp bl bc, .int .i64 ba, .int .i64 bd] 26), (B1, .cells #[.func (.func 64) #[] #[], .bool false, .func (.func 66) #[] #[]] 84)]) ?_ (by kernel_rfl)
      refine AtE.run 6 (fun W => by kernel_rfl) ?_
      refine AtE.load 0 3 (T := 3) (v := .int .i64 bs) (by kernel_rfl) ?_
      refine AtE.run 2 (fun W => by kernel_rfl) ?_
      refine AtE.splitP 46 (p := bs = (0 : Int)) (by kernel_rfl) (fun h6' => ?_) (fun h6' => ?_)
      ·replace H := H.1 h6'
       refine AtE.run 1 (fun W => by kernel_rfl) ?_
       refine AtE.load 0 4 (T := 3) (v := .int .i64 br) (by kernel_rfl) ?_
       refine AtE.run 4 (fun W => by kernel_rfl) ?_
       exact AtE.ret Tryd.func40 (by kernel_rfl) H
      ·replace H := H.2 h6'
       refine AtE.run 6 (fun W => by kernel_rfl) ?_
       exact AtE.ret Tryd.func40 (by kernel_rfl) H
     ·replace H := H.2 h5'
      refine AtE.run 8 (fun W => by kernel_rfl) ?_
      exact AtE.ret Tryd.func40 (by kernel_rfl) H
    ·replace H := H.2 h4'
     refine AtE.run 16 (fun W => by kernel_rfl) ?_
     exact AtE.ret Tryd.func40 (by kernel_rfl) H
 ·replace H := H.2 h1'
  refine LookAll.cons (fun h7' => ?_) (fun h7' => ?_)
  ·replace H := H.1 h7'
   refine AtE.norm (k' := [.inRegion (regOps [.code (EngB4s40 [1,0])]) [4,5,6,7,8,9], .code (EngB4s40 [1,1])]) (e' := [(2, .pointer (some ⟨B, 0, none⟩)), (11, .tuple #[.agg #[.func (.func 64) #[] #[], .bool false, .func (.func 67) #[] #[]], .bool true])]) (L' := [(B, .cells #[.int .i64 bi, .int .i64 bk, .string bt, .int .i64 bs, .int .i64 br, .int .i64 bu, .slice bp bl bc, .int .i64 ba, .int .i64 bd] 26)]) ?_ (by kernel_rfl)
   refine AtE.run 3 (fun W => by kernel_rfl) ?_
   refine AtE.new (fun B => .pointer (some ⟨B, 0, none⟩)) (.cells #[.nilFunc, .bool false, .nilFunc] 84) (fun W => by kernel_rfl) (by kernel_rfl) (fun B2 => ?_)
   replace H := H B2
   refine AtE.store 1 0 (T := 84) (v := .agg #[.func (.func 64) #[] #[], .bool false, .func (.func 67) #[] #[]]) (by kernel_rfl) ?_
   refine AtE.run 9 (fun W => by kernel_rfl) ?_
   refine AtE.load 0 0 (T := 3) (v := .int .i64 bi) (by kernel_rfl) ?_
   refine AtE.run 3 (fun W => by kernel_rfl) ?_
   refine AtE.splitP 21 (p := bi < (1 : Int)) (by kernel_rfl) (fun h8' => ?_) (fun h8' => ?_)
   ·replace H := H.1 h8'
    refine AtE.run 24 (fun W => by kernel_rfl) ?_
    exact AtE.ret Tryd.func40 (by kernel_rfl) H
   ·replace H := H.2 h8'
    refine AtE.run 1 (fun W => by kernel_rfl) ?_
    refine AtE.load 0 0 (T := 3) (v := .int .i64 bi) (by kernel_rfl) ?_
    refine AtE.run 3 (fun W => by kernel_rfl) ?_
    refine AtE.splitP 26 (p := (1000 : Int) < bi) (by kernel_rfl) (fun h9' => ?_) (fun h9' => ?_)
    ·replace H := H.1 h9'
     refine AtE.run 19 (fun W => by kernel_rfl) ?_
     exact AtE.ret Tryd.func40 (by kernel_rfl) H
    ·replace H := H.2 h9'
     refine AtE.run 1 (fun W => by kernel_rfl) ?_
     refine AtE.load 0 5 (T := 24) (v := .agg #[.int .i64 bu, .slice bp bl bc, .int .i64 ba, .int .i64 bd]) (by kernel_rfl) ?_
     refine AtE.norm (k' := [.inRegion (regOps [.code (EngB4s40 [1,1,0,0])]) [15,16,17,18,19,20,21,22,23,24,25], .code (EngB4s40 [1,1,0,1]), .code (EngB4s40 [1,1,1])]) (e' := [(2, .pointer (some ⟨B, 0, none⟩)), (5, .pointer (some ⟨B2, 0, none⟩)), (26, .bool false), (28, .agg #[.int .i64 bu, .slice bp bl bc, .int .i64 ba, .int .i64 bd])]) (L' := [(B, .cells #[.int .i64 bi, .int .i64 bk, .string bt, .int .i64 bs, .int .i64 br, .int .i64 bu, .slice bp bl bc, .int .i64 ba, .int .i64 bd] 26), (B2, .cells #[.func (.func 64) #[] #[], .bool false, .func (.func 67) #[] #[]] 84)]) ?_ (by kernel_rfl)
     refine AtE.call 63 ⟨[.agg #[.int .i64 bu, .slice bp bl bc, .int .i64 ba, .int .i64 bd]]⟩ (fun W => by kernel_rfl) (by kernel_rfl) H ?_
     clear H
     rintro _ _ ⟨r31, rfl, rfl, H⟩
     refine AtE.split 29 (b := r31) (by kernel_rfl) (fun h10' => ?_) (fun h10' => ?_)
     ·replace H := H.1 h10'
      refine AtE.run 4 (fun W => by kernel_rfl) ?_
      refine AtE.load 1 0 (T := 40) (v := .func (.func 64) #[] #[]) (by kernel_rfl) ?_
      refine AtE.run 1 (fun W => by kernel_rfl) ?_
      refine AtE.load 0 2 (T := 9) (v := .string bt) (by kernel_rfl) ?_
      refine AtE.call 64 ⟨[.string bt]⟩ (fun W => by kernel_rfl) (by kernel_rfl) H ?_
      clear H
      rintro _ _ ⟨r41, rfl, rfl, H⟩
      refine AtE.split 37 (b := r41) (by kernel_rfl) (fun h11' => ?_) (fun h11' => ?_)
      ·replace H := H.1 h11'
       refine AtE.run 9 (fun W => by kernel_rfl) ?_
       refine AtE.load 1 1 (T := 4) (v := .bool false) (by kernel_rfl) ?_
       refine AtE.norm (k' := [.inRegion (regOps [.code (EngB4s40 [1,1,1,0,0])]) [2], .code (EngB4s40 [1,1,1,0,1]), .code (EngB4s40 [1,1,1,1])]) (e' := [(2, .pointer (some ⟨B, 0, none⟩)), (41, .bool false)]) (L' := [(B, .cells #[.int .i64 bi, .int .i64 bk, .string bt, .int .i64 bs, .int .i64 br, .int .i64 bu, .slice bp bl bc, .int .i64 ba, .int .i64 bd] 26), (B2, .cells #[.func (.func 64) #[] #[], .bool false, .func (.func 67) #[] #[]] 84)]) ?_ (by kernel_rfl)
       refine AtE.run 6 (fun W => by kernel_rfl) ?_
       refine AtE.load 0 3 (T := 3) (v := .int .i64 bs) (by kernel_rfl) ?_
       refine AtE.run 2 (fun W => by kernel_rfl) ?_
       refine AtE.splitP 46 (p := bs = (0 : Int)) (by kernel_rfl) (fun h12' => ?_) (fun h12' => ?_)
       ·replace H := H.1 h12'
        refine AtE.run 1 (fun W => by kernel_rfl) ?_
        refine AtE.load 0 4 (T := 3) (v := .int .i64 br) (by kernel_rfl) ?_
        refine AtE.run 4 (fun W => by kernel_rfl) ?_
        exact AtE.ret Tryd.func40 (by kernel_rfl) H
       ·replace H := H.2 h12'
        refine AtE.run 6 (fun W => by kernel_rfl) ?_
        exact AtE.ret Tryd.func40 (by kernel_rfl) H
      ·replace H := H.2 h11'
       refine AtE.run 8 (fun W => by kernel_rfl) ?_
       exact AtE.ret Tryd.func40 (by kernel_rfl) H
     ·replace H := H.2 h10'
      refine AtE.run 16 (fun W => by kernel_rfl) ?_
      exact AtE.ret Tryd.func40 (by kernel_rfl) H
  ·replace H := H.2 h7'
   refine LookAll.cons (fun h13' => ?_) (fun h13' => ?_)
   ·replace H := H.1 h13'
    refine AtE.norm (k' := [.inRegion (regOps [.code (EngB4s40 [1,0])]) [4,5,6,7,8,9], .code (EngB4s40 [1,1])]) (e' := [(2, .pointer (some ⟨B, 0, none⟩)), (11, .tuple #[.agg #[.func (.func 65) #[] #[], .bool true, .func (.func 69) #[] #[]], .bool true])]) (L' := [(B, .cells #[.int .i64 bi, .int .i64 bk, .string bt, .int .i64 bs, .int .i64 br, .int .i64 bu, .slice bp bl bc, .int .i64 ba, .int .i64 bd] 26)]) ?_ (by kernel_rfl)
    refine AtE.run 3 (fun W => by kernel_rfl) ?_
    refine AtE.new (fun B => .pointer (some ⟨B, 0, none⟩)) (.cells #[.nilFunc, .bool false, .nilFunc] 84) (fun W => by kernel_rfl) (by kernel_rfl) (fun B3 => ?_)
    replace H := H B3
    refine AtE.store 1 0 (T := 84) (v := .agg #[.func (.func 65) #[] #[], .bool true, .func (.func 69) #[] #[]]) (by kernel_rfl) ?_
    refine AtE.run 9 (fun W => by kernel_rfl) ?_
    refine AtE.load 0 0 (T := 3) (v := .int .i64 bi) (by kernel_rfl) ?_
    refine AtE.run 3 (fun W => by kernel_rfl) ?_
    refine AtE.splitP 21 (p := bi < (1 : Int)) (by kernel_rfl) (fun h14' => ?_) (fun h14' => ?_)
    ·replace H := H.1 h14'
     refine AtE.run 24 (fun W => by kernel_rfl) ?_
     exact AtE.ret Tryd.func40 (by kernel_rfl) H
    ·replace H := H.2 h14'
     refine AtE.run 1 (fun W => by kernel_rfl) ?_
     refine AtE.load 0 0 (T := 3) (v := .int .i64 bi) (by kernel_rfl) ?_
     refine AtE.run 3 (fun W => by kernel_rfl) ?_
     refine AtE.splitP 26 (p := (1000 : Int) < bi) (by kernel_rfl) (fun h15' => ?_) (fun h15' => ?_)
     ·replace H := H.1 h15'
      refine AtE.run 19 (fun W => by kernel_rfl) ?_
      exact AtE.ret Tryd.func40 (by kernel_rfl) H
     ·replace H := H.2 h15'
      refine AtE.run 1 (fun W => by kernel_rfl) ?_
      refine AtE.load 0 5 (T := 24) (v := .agg #[.int .i64 bu, .slice bp bl bc, .int .i64 ba, .int .i64 bd]) (by kernel_rfl) ?_
      refine AtE.norm (k' := [.inRegion (regOps [.code (EngB4s40 [1,1,0,0])]) [15,16,17,18,19,20,21,22,23,24,25], .code (EngB4s40 [1,1,0,1]), .code (EngB4s40 [1,1,1])]) (e' := [(2, .pointer (some ⟨B, 0, none⟩)), (5, .pointer (some ⟨B3, 0, none⟩)), (26, .bool false), (28, .agg #[.int .i64 bu, .slice bp bl bc, .int .i64 ba, .int .i64 bd])]) (L' := [(B, .cells #[.int .i64 bi, .int .i64 bk, .string bt, .int .i64 bs, .int .i64 br, .int .i64 bu, .slice bp bl bc, .int .i64 ba, .int .i64 bd] 26), (B3, .cells #[.func (.func 65) #[] #[], .bool true, .func (.func 69) #[] #[]] 84)]) ?_ (by kernel_rfl)
      refine AtE.call 63 ⟨[.agg #[.int .i64 bu, .slice bp bl bc, .int .i64 ba, .int .i64 bd]]⟩ (fun W => by kernel_rfl) (by kernel_rfl) H ?_
      clear H
      rintro _ _ ⟨r51, rfl, rfl, H⟩
      refine AtE.split 29 (b := r51) (by kernel_rfl) (fun h16' => ?_) (fun h16' => ?_)
      ·replace H := H.1 h16'
       refine AtE.run 4 (fun W => by kernel_rfl) ?_
       refine AtE.load 1 0 (T := 40) (v := .func (.func 65) #[] #[]) (by kernel_rfl) ?_
       refine AtE.run 1 (fun W => by kernel_rfl) ?_
       refine AtE.load 0 2 (T := 9) (v := .string bt) (by kernel_rfl) ?_
       refine AtE.call 65 ⟨[.string bt]⟩ (fun W => by kernel_rfl) (by kernel_rfl) H ?_
       clear H
       rintro _ _ ⟨r61, rfl, rfl, H⟩
       refine AtE.split 37 (b := r61) (by kernel_rfl) (fun h17' => ?_) (fun h17' => ?_)
       ·replace H := H.1 h17'
        refine AtE.run 9 (fun W => by kernel_rfl) ?_
        refine AtE.load 1 1 (T := 4) (v := .bool true) (by kernel_rfl) ?_
        refine AtE.norm (k' := [.inRegion (regOps [.code (EngB4s40 [1,1,1,0,0])]) [2], .code (EngB4s40 [1,1,1,0,1]), .code (EngB4s40 [1,1,1,1])]) (e' := [(2, .pointer (some ⟨B, 0, none⟩)), (41, .bool true)]) (L' := [(B, .cells #[.int .i64 bi, .int .i64 bk, .string bt, .int .i64 bs, .int .i64 br, .int .i64 bu, .slice bp bl bc, .int .i64 ba, .int .i64 bd] 26), (B3, .cells #[.func (.func 65) #[] #[], .bool true, .func (.func 69) #[] #[]] 84)]) ?_ (by kernel_rfl)
        refine AtE.run 7 (fun W => by kernel_rfl) ?_
        refine AtE.load 0 3 (T := 3) (v := .int .i64 bs) (by kernel_rfl) ?_
        refine AtE.run 2 (fun W => by kernel_rfl) ?_
        refine AtE.splitP 54 (p := (1 : Int) ≤ bs) (by kernel_rfl) (fun h18' => ?_) (fun h18' => ?_)
        ·replace H := H.1 h18'
         refine AtE.run 1 (fun W => by kernel_rfl) ?_
         refine AtE.load 0 3 (T := 3) (v := .int .i64 bs) (by kernel_rfl) ?_
         refine AtE.run 3 (fun W => by kernel_rfl) ?_
         refine AtE.splitP 59 (p := bs ≤ (64 : Int)) (by kernel_rfl) (fun h19' => ?_) (fun h19' => ?_)
         ·replace H := H.1 h19'
          refine AtE.run 1 (fun W => by kernel_rfl) ?_
          refine AtE.load 0 4 (T := 3) (v := .int .i64 br) (by kernel_rfl) ?_
          refine AtE.run 3 (fun W => by kernel_rfl) ?_
          refine AtE.splitP 64 (p := (1 : Int) ≤ br) (by kernel_rfl) (fun h20' => ?_) (fun h20' => ?_)
          ·replace H := H.1 h20'
           refine AtE.run 1 (fun W => by kernel_rfl) ?_
           refine AtE.load 0 4 (T := 3) (v := .int .i64 br) (by kernel_rfl) ?_
           refine AtE.norm (k' := [.inRegion (regOps [.code (EngB4s40 [1,1,1,1,0])]) [16,17,18], .code (EngB4s40 [1,1,1,1,1])]) (e' := [(64, .bool true), (66, .int .i64 br)]) (L' := [(B, .cells #[.int .i64 bi, .int .i64 bk, .string bt, .int .i64 bs, .int .i64 br, .int .i64 bu, .slice bp bl bc, .int .i64 ba, .int .i64 bd] 26), (B3, .cells #[.func (.func 65) #[] #[], .bool true, .func (.func 69) #[] #[]] 84)]) ?_ (by kernel_rfl)
           refine AtE.run 4 (fun W => by kernel_rfl) ?_
           exact AtE.ret Tryd.func40 (by kernel_rfl) H
          ·replace H := H.2 h20'
           refine AtE.run 6 (fun W => by kernel_rfl) ?_
           exact AtE.ret Tryd.func40 (by kernel_rfl) H
         ·replace H := H.2 h19'
          refine AtE.run 11 (fun W => by kernel_rfl) ?_
          exact AtE.ret Tryd.func40 (by kernel_rfl) H
        ·replace H := H.2 h18'
         refine AtE.run 16 (fun W => by kernel_rfl) ?_
         exact AtE.ret Tryd.func40 (by kernel_rfl) H
       ·replace H := H.2 h17'
        refine AtE.run 8 (fun W => by kernel_rfl) ?_
        exact AtE.ret Tryd.func40 (by kernel_rfl) H
      ·replace H := H.2 h16'
       refine AtE.run 16 (fun W => by kernel_rfl) ?_
       exact AtE.ret Tryd.func40 (by kernel_rfl) H
   ·replace H := H.2 h13'
    refine LookAll.cons (fun h21' => ?_) (fun h21' => ?_)
    ·replace H := H.1 h21'
     refine AtE.norm (k' := [.inRegion (regOps [.code (EngB4s40 [1,0])]) [4,5,6,7,8,9], .code (EngB4s40 [1,1])]) (e' := [(2, .pointer (some ⟨B, 0, none⟩)), (11, .tuple #[.agg #[.func (.func 64) #[] #[], .bool false, .func (.func 70) #[] #[]], .bool true])]) (L' := [(B, .cells #[.int .i64 bi, .int .i64 bk, .string bt, .int .i64 bs, .int .i64 br, .int .i64 bu, .slice bp bl bc, .int .i64 ba, .int .i64 bd] 26)]) ?_ (by kernel_rfl)
     refine AtE.run 3 (fun W => by kernel_rfl) ?_
     refine AtE.new (fun B => .pointer (some ⟨B, 0, none⟩)) (.cells #[.nilFunc, .bool false, .nilFunc] 84) (fun W => by kernel_rfl) (by kernel_rfl) (fun B4 => ?_)
     replace H := H B4
     refine AtE.store 1 0 (T := 84) (v := .agg #[.func (.func 64) #[] #[], .bool false, .func (.func 70) #[] #[]]) (by kernel_rfl) ?_
     refine AtE.run 9 (fun W => by kernel_rfl) ?_
     refine AtE.load 0 0 (T := 3) (v := .int .i64 bi) (by kernel_rfl) ?_
     refine AtE.run 3 (fun W => by kernel_rfl) ?_
     refine AtE.splitP 21 (p := bi < (1 : Int)) (by kernel_rfl) (fun h22' => ?_) (fun h22' => ?_)
     ·replace H := H.1 h22'
      refine AtE.run 24 (fun W => by kernel_rfl) ?_
      exact AtE.ret Tryd.func40 (by kernel_rfl) H
     ·replace H := H.2 h22'
      refine AtE.run 1 (fun W => by kernel_rfl) ?_
      refine AtE.load 0 0 (T := 3) (v := .int .i64 bi) (by kernel_rfl) ?_
      refine AtE.run 3 (fun W => by kernel_rfl) ?_
      refine AtE.splitP 26 (p := (1000 : Int) < bi) (by kernel_rfl) (fun h23' => ?_) (fun h23' => ?_)
      ·replace H := H.1 h23'
       refine AtE.run 19 (fun W => by kernel_rfl) ?_
       exact AtE.ret Tryd.func40 (by kernel_rfl) H
      ·replace H := H.2 h23'
       refine AtE.run 1 (fun W => by kernel_rfl) ?_
       refine AtE.load 0 5 (T := 24) (v := .agg #[.int .i64 bu, .slice bp bl bc, .int .i64 ba, .int .i64 bd]) (by kernel_rfl) ?_
       refine AtE.norm (k' := [.inRegion (regOps [.code (EngB4s40 [1,1,0,0])]) [15,16,17,18,19,20,21,22,23,24,25], .code (EngB4s40 [1,1,0,1]), .code (EngB4s40 [1,1,1])]) (e' := [(2, .pointer (some ⟨B, 0, none⟩)), (5, .pointer (some ⟨B4, 0, none⟩)), (26, .bool false), (28, .agg #[.int .i64 bu, .slice bp bl bc, .int .i64 ba, .int .i64 bd])]) (L' := [(B, .cells #[.int .i64 bi, .int .i64 bk, .string bt, .int .i64 bs, .int .i64 br, .int .i64 bu, .slice bp bl bc, .int .i64 ba, .int .i64 bd] 26), (B4, .cells #[.func (.func 64) #[] #[], .bool false, .func (.func 70) #[] #[]] 84)]) ?_ (by kernel_rfl)
       refine AtE.call 63 ⟨[.agg #[.int .i64 bu, .slice bp bl bc, .int .i64 ba, .int .i64 bd]]⟩ (fun W => by kernel_rfl) (by kernel_rfl) H ?_
       clear H
       rintro _ _ ⟨r71, rfl, rfl, H⟩
       refine AtE.split 29 (b := r71) (by kernel_rfl) (fun h24' => ?_) (fun h24' => ?_)
       ·replace H := H.1 h24'
        refine AtE.run 4 (fun W => by kernel_rfl) ?_
        refine AtE.load 1 0 (T := 40) (v := .func (.func 64) #[] #[]) (by kernel_rfl) ?_
        refine AtE.run 1 (fun W => by kernel_rfl) ?_
        refine AtE.load 0 2 (T := 9) (v := .string bt) (by kernel_rfl) ?_
        refine AtE.call 64 ⟨[.string bt]⟩ (fun W => by kernel_rfl) (by kernel_rfl) H ?_
        clear H
        rintro _ _ ⟨r81, rfl, rfl, H⟩
        refine AtE.split 37 (b := r81) (by kernel_rfl) (fun h25' => ?_) (fun h25' => ?_)
        ·replace H := H.1 h25'
         refine AtE.run 9 (fun W => by kernel_rfl) ?_
         refine AtE.load 1 1 (T := 4) (v := .bool false) (by kernel_rfl) ?_
         refine AtE.norm (k' := [.inRegion (regOps [.code (EngB4s40 [1,1,1,0,0])]) [2], .code (EngB4s40 [1,1,1,0,1]), .code (EngB4s40 [1,1,1,1])]) (e' := [(2, .pointer (some ⟨B, 0, none⟩)), (41, .bool false)]) (L' := [(B, .cells #[.int .i64 bi, .int .i64 bk, .string bt, .int .i64 bs, .int .i64 br, .int .i64 bu, .slice bp bl bc, .int .i64 ba, .int .i64 bd] 26), (B4, .cells #[.func (.func 64) #[] #[], .bool false, .func (.func 70) #[] #[]] 84)]) ?_ (by kernel_rfl)
         refine AtE.run 6 (fun W => by kernel_rfl) ?_
         refine AtE.load 0 3 (T := 3) (v := .int .i64 bs) (by kernel_rfl) ?_
         refine AtE.run 2 (fun W => by kernel_rfl) ?_
         refine AtE.splitP 46 (p := bs = (0 : Int)) (by kernel_rfl) (fun h26' => ?_) (fun h26' => ?_)
         ·replace H := H.1 h26'
          refine AtE.run 1 (fun W => by kernel_rfl) ?_
          refine AtE.load 0 4 (T := 3) (v := .int .i64 br) (by kernel_rfl) ?_
          refine AtE.run 4 (fun W => by kernel_rfl) ?_
          exact AtE.ret Tryd.func40 (by kernel_rfl) H
         ·replace H := H.2 h26'
          refine AtE.run 6 (fun W => by kernel_rfl) ?_
          exact AtE.ret Tryd.func40 (by kernel_rfl) H
        ·replace H := H.2 h25'
         refine AtE.run 8 (fun W => by kernel_rfl) ?_
         exact AtE.ret Tryd.func40 (by kernel_rfl) H
       ·replace H := H.2 h24'
        refine AtE.run 16 (fun W => by kernel_rfl) ?_
        exact AtE.ret Tryd.func40 (by kernel_rfl) H
    ·replace H := H.2 h21'
     refine LookAll.cons (fun h27' => ?_) (fun h27' => ?_)
     ·replace H := H.1 h27'
      refine AtE.norm (k' := [.inRegion (regOps [.code (EngB4s40 [1,0])]) [4,5,6,7,8,9], .code (EngB4s40 [1,1])]) (e' := [(2, .pointer (some ⟨B, 0, none⟩)), (11, .tuple #[.agg #[.func (.func 71) #[] #[], .bool false, .func (.func 72) #[] #[]], .bool true])]) (L' := [(B, .cells #[.int .i64 bi, .int .i64 bk, .string bt, .int .i64 bs, .int .i64 br, .int .i64 bu, .slice bp bl bc, .int .i64 ba, .int .i64 bd] 26)]) ?_ (by kernel_rfl)
      refine AtE.run 3 (fun W => by kernel_rfl) ?_
      refine AtE.new (fun B => .pointer (some ⟨B, 0, none⟩)) (.cells #[.nilFunc, .bool false, .nilFunc] 84) (fun W => by kernel_rfl) (by kernel_rfl) (fun B5 => ?_)
      replace H := H B5
      refine AtE.store 1 0 (T := 84) (v := .agg #[.func (.func 71) #[] #[], .bool false, .func (.func 72) #[] #[]]) (by kernel_rfl) ?_
      refine AtE.run 9 (fun W => by kernel_rfl) ?_
      refine AtE.load 0 0 (T := 3) (v := .int .i64 bi) (by kernel_rfl) ?_
      refine AtE.run 3 (fun W => by kernel_rfl) ?_
      refine AtE.splitP 21 (p := bi < (1 : Int)) (by kernel_rfl) (fun h28' => ?_) (fun h28' => ?_)
      ·replace H := H.1 h28'
       refine AtE.run 24 (fun W => by kernel_rfl) ?_
       exact AtE.ret Tryd.func40 (by kernel_rfl) H
      ·replace H := H.2 h28'
       refine AtE.run 1 (fun W => by kernel_rfl) ?_
       refine AtE.load 0 0 (T := 3) (v := .int .i64 bi) (by kernel_rfl) ?_
       refine AtE.run 3 (fun W => by kernel_rfl) ?_
       refine AtE.splitP 26 (p := (1000 : Int) < bi) (by kernel_rfl) (fun h29' => ?_) (fun h29' => ?_)
       ·replace H := H.1 h29'
        refine AtE.run 19 (fun W => by kernel_rfl) ?_
        exact AtE.ret Tryd.func40 (by kernel_rfl) H
       ·replace H := H.2 h29'
        refine AtE.run 1 (fun W => by kernel_rfl) ?_
        refine AtE.load 0 5 (T := 24) (v := .agg #[.int .i64 bu, .slice bp bl bc, .int .i64 ba, .int .i64 bd]) (by kernel_rfl) ?_
        refine AtE.norm (k' := [.inRegion (regOps [.code (EngB4s40 [1,1,0,0])]) [15,16,17,18,19,20,21,22,23,24,25], .code (EngB4s40 [1,1,0,1]), .code (EngB4s40 [1,1,1])]) (e' := [(2, .pointer (some ⟨B, 0, none⟩)), (5, .pointer (some ⟨B5, 0, none⟩)), (26, .bool false), (28, .agg #[.int .i64 bu, .slice bp bl bc, .int .i64 ba, .int .i64 bd])]) (L' := [(B, .cells #[.int .i64 bi, .int .i64 bk, .string bt, .int .i64 bs, .int .i64 br, .int .i64 bu, .slice bp bl bc, .int .i64 ba, .int .i64 bd] 26), (B5, .cells #[.func (.func 71) #[] #[], .bool false, .func (.func 72) #[] #[]] 84)]) ?_ (by kernel_rfl)
        refine AtE.call 63 ⟨[.agg #[.int .i64 bu, .slice bp bl bc, .int .i64 ba, .int .i64 bd]]⟩ (fun W => by kernel_rfl) (by kernel_rfl) H ?_
        clear H
        rintro _ _ ⟨r91, rfl, rfl, H⟩
        refine AtE.split 29 (b := r91) (by kernel_rfl) (fun h30' => ?_) (fun h30' => ?_)
        ·replace H := H.1 h30'
         refine AtE.run 4 (fun W => by kernel_rfl) ?_
         refine AtE.load 1 0 (T := 40) (v := .func (.func 71) #[] #[]) (by kernel_rfl) ?_
         refine AtE.run 1 (fun W => by kernel_rfl) ?_
         refine AtE.load 0 2 (T := 9) (v := .string bt) (by kernel_rfl) ?_
         refine AtE.call 71 ⟨[.string bt]⟩ (fun W => by kernel_rfl) (by kernel_rfl) H ?_
         clear H
         rintro _ _ ⟨r101, rfl, rfl, H⟩
         refine AtE.split 37 (b := r101) (by kernel_rfl) (fun h31' => ?_) (fun h31' => ?_)
         ·replace H := H.1 h31'
          refine AtE.run 9 (fun W => by kernel_rfl) ?_
          refine AtE.load 1 1 (T := 4) (v := .bool false) (by kernel_rfl) ?_
          refine AtE.norm (k' := [.inRegion (regOps [.code (EngB4s40 [1,1,1,0,0])]) [2], .code (EngB4s40 [1,1,1,0,1]), .code (EngB4s40 [1,1,1,1])]) (e' := [(2, .pointer (some ⟨B, 0, none⟩)), (41, .bool false)]) (L' := [(B, .cells #[.int .i64 bi, .int .i64 bk, .string bt, .int .i64 bs, .int .i64 br, .int .i64 bu, .slice bp bl bc, .int .i64 ba, .int .i64 bd] 26), (B5, .cells #[.func (.func 71) #[] #[], .bool false, .func (.func 72) #[] #[]] 84)]) ?_ (by kernel_rfl)
          refine AtE.run 6 (fun W => by kernel_rfl) ?_
          refine AtE.load 0 3 (T := 3) (v := .int .i64 bs) (by kernel_rfl) ?_
          refine AtE.run 2 (fun W => by kernel_rfl) ?_
          refine AtE.splitP 46 (p := bs = (0 : Int)) (by kernel_rfl) (fun h32' => ?_) (fun h32' => ?_)
          ·replace H := H.1 h32'
           refine AtE.run 1 (fun W => by kernel_rfl) ?_
           refine AtE.load 0 4 (T := 3) (v := .int .i64 br) (by kernel_rfl) ?_
           refine AtE.run 4 (fun W => by kernel_rfl) ?_
           exact AtE.ret Tryd.func40 (by kernel_rfl) H
          ·replace H := H.2 h32'
           refine AtE.run 6 (fun W => by kernel_rfl) ?_
           exact AtE.ret Tryd.func40 (by kernel_rfl) H
         ·replace H := H.2 h31'
          refine AtE.run 8 (fun W => by kernel_rfl) ?_
          exact AtE.ret Tryd.func40 (by kernel_rfl) H
        ·replace H := H.2 h30'
         refine AtE.run 16 (fun W => by kernel_rfl) ?_
         exact AtE.ret Tryd.func40 (by kernel_rfl) H
     ·replace H := H.2 h27'
      refine AtE.norm (k' := [.inRegion (regOps [.code (EngB4s40 [1,0])]) [4,5,6,7,8,9], .code (EngB4s40 [1,1])]) (e' := [(2, .pointer (some ⟨B, 0, none⟩)), (11, .tuple #[.agg #[.nilFunc, .bool false, .nilFunc], .bool false])]) (L' := [(B, .cells #[.int .i64 bi, .int .i64 bk, .string bt, .int .i64 bs, .int .i64 br, .int .i64 bu, .slice bp bl bc, .int .i64 ba, .int .i64 bd] 26)]) ?_ (by kernel_rfl)
      refine AtE.run 3 (fun W => by kernel_rfl) ?_
      refine AtE.new (fun B => .pointer (some ⟨B, 0, none⟩)) (.cells #[.nilFunc, .bool false, .nilFunc] 84) (fun W => by kernel_rfl) (by kernel_rfl) (fun B6 => ?_)
      replace H := H B6
      refine AtE.store 1 0 (T := 84) (v := .agg #[.nilFunc, .bool false, .nilFunc]) (by kernel_rfl) ?_
      refine AtE.run 37 (fun W => by kernel_rfl) ?_
      exact AtE.ret Tryd.func40 (by kernel_rfl) H
theorem valid_vc (bi : Int) (bk : Int) (bt : ByteArray) (bs : Int) (br : Int) (bu : Int) (bp : Option Addr) (bl : Nat) (bc : Nat) (ba : Int) (bd : Int) {R : Ending → World → Prop} {w0 W : World} (hm : Mem [] [] w0 W)
  (H :
   ∀ B : Nat,
   CallH Tryd.prog 41 ⟨[]⟩ [(B, .cells #[.int .i64 bi, .int .i64 bk, .string bt, .int .i64 bs, .int .i64 br, .int .i64 bu, .slice bp bl bc, .int .i64 ba, .int .i64 bd] 26)] [] w0 (fun v L' => ∃ (mb : Nat), v = (.map (some mb)) ∧ L' = [(B, .cells #[.int .i64 bi, .int .i64 bk, .string bt, .int .i64 bs, .int .i64 br, .int .i64 bu, .slice bp bl bc, .int .i64 ba, .int .i64 bd] 26), (mb, EngB4m0)] ∧
    CallH Tryd.prog 40 ⟨[.agg #[.int .i64 bi, .int .i64 bk, .string bt, .int .i64 bs, .int .i64 br, .int .i64 bu, .slice bp bl bc, .int .i64 ba, .int .i64 bd], .map (some mb)]⟩ [(B, .cells #[.int .i64 bi, .int .i64 bk, .string bt, .int .i64 bs, .int .i64 br, .int .i64 bu, .slice bp bl bc, .int .i64 ba, .int .i64 bd] 26), (mb, EngB4m0)] [] w0 (fun v L' => ∃ (r21 : Bool), v = (.bool r21) ∧ L' = [(B, .cells #[.int .i64 bi, .int .i64 bk, .string bt, .int .i64 bs, .int .i64 br, .int .i64 bu, .slice bp bl bc, .int .i64 ba, .int .i64 bd] 26), (mb, EngB4m0)] ∧
     Fin R [(B, .cells #[.int .i64 bi, .int .i64 bk, .string bt, .int .i64 bs, .int .i64 br, .int .i64 bu, .slice bp bl bc, .int .i64 ba, .int .i64 bd] 26), (mb, EngB4m0)] [] w0 (.bool r21)))) :
  Calls Tryd.prog 19 ⟨[.agg #[.int .i64 bi, .int .i64 bk, .string bt, .int .i64 bs, .int .i64 br, .int .i64 bu, .slice bp bl bc, .int .i64 ba, .int .i64 bd]]⟩ W R := by
 refine AtE.calls (nt := 6) Tryd.func19 (by kernel_rfl) hm ?_
 refine AtE.run 2 (fun W => by kernel_rfl) ?_
 refine AtE.new (fun B => .pointer (some ⟨B, 0, none⟩)) (.cells #[.int .i64 bi, .int .i64 bk, .string bt, .int .i64 bs, .int .i64 br, .int .i64 bu, .slice bp bl bc, .int .i64 ba, .int .i64 bd] 26) (fun W => by kernel_rfl) (by kernel_rfl) (fun B => ?_)
 replace H := H B
 refine AtE.run 3 (fun W => by kernel_rfl) ?_
 refine AtE.norm (k' := [.code (EngB4s19 [1,0]), .code (EngB4s19 [1,1])]) (e' := [(1, .pointer (some ⟨B, 0, none⟩))]) (L' := [(B, .cells #[.int .i64 bi, .int .i64 bk, .string bt, .int .i64 bs, .int .i64 br, .int .i64 bu, .slice bp bl bc, .int .i64 ba, .int .i64 bd] 26)]) ?_ (by kernel_rfl)
 refine AtE.drawD (by kernel_rfl) ?_
 refine AtD.norm (e' := [(1, .pointer (some ⟨B, 0, none⟩))]) (L' := [(B, .cells #[.int .i64 bi, .int .i64 bk, .string bt, .int .i64 bs, .int .i64 br, .int .i64 bu, .slice bp bl bc, .int .i64 ba, .int .i64 bd] 26)]) ?_ (by kernel_rfl)
 refine AtD.phase 2 [0] [1] [(B, .cells #[.int .i64 bi, .int .i64 bk, .string bt, .int .i64 bs, .int .i64 br, .int .i64 bu, .slice bp bl bc, .int .i64 ba, .int .i64 bd] 26)] (by kernel_rfl) rfl ?_
 refine AtF.load 0 0 (T := 26) (v := .agg #[.int .i64 bi, .int .i64 bk, .string bt, .int .i64 bs, .int .i64 br, .int .i64 bu, .slice bp bl bc, .int .i64 ba, .int .i64 bd]) (by kernel_rfl) ?_
 refine AtF.done (by kernel_rfl) ?_
 refine AtM.call _ 41 ⟨[]⟩ rfl (fun W => by kernel_rfl) (by kernel_rfl) H ?_
 clear H
 rintro _ _ ⟨mb, rfl, rfl, H⟩
 refine AtM.done _ (by kernel_rfl) rfl ?_
 refine AtD.norm (e' := [(3, .agg #[.int .i64 bi, .int .i64 bk, .string bt, .int .i64 bs, .int .i64 br, .int .i64 bu, .slice bp bl bc, .int .i64 ba, .int .i64 bd]), (4, .map (some mb))]) (L' := [(B, .cells #[.int .i64 bi, .int .i64 bk, .string bt, .int .i64 bs, .int .i64 br, .int .i64 bu, .slice bp bl bc, .int .i64 ba, .int .i64 bd] 26), (mb, EngB4m0)]) ?_ (by kernel_rfl)
 refine AtD.tail (by kernel_rfl) ?_
 refine AtE.call 40 ⟨[.agg #[.int .i64 bi, .int .i64 bk, .string bt, .int .i64 bs, .int .i64 br, .int .i64 bu, .slice bp bl bc, .int .i64 ba, .int .i64 bd], .map (some mb)]⟩ (fun W => by kernel_rfl) (by kernel_rfl) H ?_
 clear H
 rintro _ _ ⟨r21, rfl, rfl, H⟩
 refine AtE.run 2 (fun W => by kernel_rfl) ?_
 exact AtE.ret Tryd.func19 (by kernel_rfl) H
theorem rvalid_vc (bi : Int) (bk : Int) (bt : ByteArray) (bs : Int) (br : Int) (bu : Int) (bp : Option Addr) (bl : Nat) (bc : Nat) (ba : Int) (bd : Int) {R : Ending → World → Prop} {w0 W : World} (hm : Mem [] [] w0 W)
  (H :
   ∀ B : Nat,
   CallH Tryd.prog 42 ⟨[.string bt]⟩ [(B, .cells #[.int .i64 bi, .int .i64 bk, .string bt, .int .i64 bs, .int .i64 br, .int .i64 bu, .slice bp bl bc, .int .i64 ba, .int .i64 bd] 26)] [] w0 (fun v L' => ∃ (r1 : Bool), v = (.bool r1) ∧ L' = [(B, .cells #[.int .i64 bi, .int .i64 bk, .string bt, .int .i64 bs, .int .i64 br, .int .i64 bu, .slice bp bl bc, .int .i64 ba, .int .i64 bd] 26)] ∧
    CallH Tryd.prog 43 ⟨[.agg #[.int .i64 bu, .slice bp bl bc, .int .i64 ba, .int .i64 bd]]⟩ [(B, .cells #[.int .i64 bi, .int .i64 bk, .string bt, .int .i64 bs, .int .i64 br, .int .i64 bu, .slice bp bl bc, .int .i64 ba, .int .i64 bd] 26)] [] w0 (fun v L' => ∃ (r21 : Bool), v = (.bool r21) ∧ L' = [(B, .cells #[.int .i64 bi, .int .i64 bk, .string bt, .int .i64 bs, .int .i64 br, .int .i64 bu, .slice bp bl bc, .int .i64 ba, .int .i64 bd] 26)] ∧
     ((bi < (1 : Int)) →
      Fin R [(B, .cells #[.int .i64 bi, .int .i64 bk, .string bt, .int .i64 bs, .int .i64 br, .int .i64 bu, .slice bp bl bc, .int .i64 ba, .int .i64 bd] 26)] [] w0 (.bool false)) ∧
      ((¬ (bi < (1 : Int))) →
      (((1000 : Int) < bi) →
       Fin R [(B, .cells #[.int .i64 bi, .int .i64 bk, .string bt, .int .i64 bs, .int .i64 br, .int .i64 bu, .slice bp bl bc, .int .i64 ba, .int .i64 bd] 26)] [] w0 (.bool false)) ∧
       ((¬ ((1000 : Int) < bi)) →
       ((r1 = true) →
        ((r21 = true) →
         ((bk = (1 : Int)) →
          ((¬ bt = (⟨#[]⟩ : ByteArray)) →
           ((bs = (0 : Int)) →
            Fin R [(B, .cells #[.int .i64 bi, .int .i64 bk, .string bt, .int .i64 bs, .int .i64 br, .int .i64 bu, .slice bp bl bc, .int .i64 ba, .int .i64 bd] 26)] [] w0 (.bool (decide (br = (0 : Int))))) ∧
            ((¬ (bs = (0 : Int))) →
            Fin R [(B, .cells #[.int .i64 bi, .int .i64 bk, .string bt, .int .i64 bs, .int .i64 br, .int .i64 bu, .slice bp bl bc, .int .i64 ba, .int .i64 bd] 26)] [] w0 (.bool false))) ∧
           ((bt = (⟨#[]⟩ : ByteArray)) →
           Fin R [(B, .cells #[.int .i64 bi, .int .i64 bk, .string bt, .int .i64 bs, .int .i64 br, .int .i64 bu, .slice bp bl bc, .int .i64 ba, .int .i64 bd] 26)] [] w0 (.bool false))) ∧
          ((¬ (bk = (1 : Int))) →
          ((bk = (2 : Int)) →
           ((¬ bt = (⟨#[]⟩ : ByteArray)) →
            ((bs = (0 : Int)) →
             Fin R [(B, .cells #[.int .i64 bi, .int .i64 bk, .string bt, .int .i64 bs, .int .i64 br, .int .i64 bu, .slice bp bl bc, .int .i64 ba, .int .i64 bd] 26)] [] w0 (.bool (decide (br = (0 : Int))))) ∧
             ((¬ (bs = (0 : Int))) →
             Fin R [(B, .cells #[.int .i64 bi, .int .i64 bk, .string bt, .int .i64 bs, .int .i64 br, .int .i64 bu, .slice bp bl bc, .int .i64 ba, .int .i64 bd] 26)] [] w0 (.bool false))) ∧
            ((bt = (⟨#[]⟩ : ByteArray)) →
            Fin R [(B, .cells #[.int .i64 bi, .int .i64 bk, .string bt, .int .i64 bs, .int .i64 br, .int .i64 bu, .slice bp bl bc, .int .i64 ba, .int .i64 bd] 26)] [] w0 (.bool false))) ∧
           ((¬ (bk = (2 : Int))) →
           ((bk = (4 : Int)) →
            ((¬ bt = (⟨#[]⟩ : ByteArray)) →
             ((bs = (0 : Int)) →
              Fin R [(B, .cells #[.int .i64 bi, .int .i64 bk, .string bt, .int .i64 bs, .int .i64 br, .int .i64 bu, .slice bp bl bc, .int .i64 ba, .int .i64 bd] 26)] [] w0 (.bool (decide (br = (0 : Int))))) ∧
              ((¬ (bs = (0 : Int))) →
              Fin R [(B, .cells #[.int .i64 bi, .int .i64 bk, .string bt, .int .i64 bs, .int .i64 br, .int .i64 bu, .slice bp bl bc, .int .i64 ba, .int .i64 bd] 26)] [] w0 (.bool false))) ∧
             ((bt = (⟨#[]⟩ : ByteArray)) →
             Fin R [(B, .cells #[.int .i64 bi, .int .i64 bk, .string bt, .int .i64 bs, .int .i64 br, .int .i64 bu, .slice bp bl bc, .int .i64 ba, .int .i64 bd] 26)] [] w0 (.bool false))) ∧
            ((¬ (bk = (4 : Int))) →
            ((bk = (5 : Int)) →
             CallH Tryd.prog 44 ⟨[.string bt]⟩ [(B, .cells #[.int .i64 bi, .int .i64 bk, .string bt, .int .i64 bs, .int .i64 br, .int .i64 bu, .slice bp bl bc, .int .i64 ba, .int .i64 bd] 26)] [] w0 (fun v L' => ∃ (r31 : Bool), v = (.bool r31) ∧ L' = [(B, .cells #[.int .i64 bi, .int .i64 bk, .string bt, .int .i64 bs, .int .i64 br, .int .i64 bu, .slice bp bl bc, .int .i64 ba, .int .i64 bd] 26)] ∧
              ((r31 = true) →
               ((bs = (0 : Int)) →
                Fin R [(B, .cells #[.int .i64 bi, .int .i64 bk, .string bt, .int .i64 bs, .int .i64 br, .int .i64 bu, .slice bp bl bc, .int .i64 ba, .int .i64 bd] 26)] [] w0 (.bool (decide (br = (0 : Int))))) ∧
                ((¬ (bs = (0 : Int))) →
                Fin R [(B, .cells #[.int .i64 bi, .int .i64 bk, .string bt, .int .i64 bs, .int .i64 br, .int .i64 bu, .slice bp bl bc, .int .i64 ba, .int .i64 bd] 26)] [] w0 (.bool false))) ∧
               ((r31 = false) →
               Fin R [(B, .cells #[.int .i64 bi, .int .i64 bk, .string bt, .int .i64 bs, .int .i64 br, .int .i64 bu, .slice bp bl bc, .int .i64 ba, .int .i64 bd] 26)] [] w0 (.bool false)))) ∧
             ((¬ (bk = (5 : Int))) →
             ((bk = (3 : Int)) →
              (((1 : Int) ≤ bs) →
               ((bs ≤ (64 : Int)) →
                (((1 : Int) ≤ br) →
                 Fin R [(B, .cells #[.int .i64 bi, .int .i64 bk, .string bt, .int .i64 bs, .int .i64 br, .int .i64 bu, .slice bp bl bc, .int .i64 ba, .int .i64 bd] 26)] [] w0 (.bool (decide (br ≤ (1000 : Int))))) ∧
                 ((¬ ((1 : Int) ≤ br)) →
                 Fin R [(B, .cells #[.int .i64 bi, .int .i64 bk, .string bt, .int .i64 bs, .int .i64 br, .int .i64 bu, .slice bp bl bc, .int .i64 ba, .int .i64 bd] 26)] [] w0 (.bool false))) ∧
                ((¬ (bs ≤ (64 : Int))) →
                Fin R [(B, .cells #[.int .i64 bi, .int .i64 bk, .string bt, .int .i64 bs, .int .i64 br, .int .i64 bu, .slice bp bl bc, .int .i64 ba, .int .i64 bd] 26)] [] w0 (.bool false))) ∧
               ((¬ ((1 : Int) ≤ bs)) →
               Fin R [(B, .cells #[.int .i64 bi, .int .i64 bk, .string bt, .int .i64 bs, .int .i64 br, .int .i64 bu, .slice bp bl bc, .int .i64 ba, .int .i64 bd] 26)] [] w0 (.bool false))) ∧
              ((¬ (bk = (3 : Int))) →
              Fin R [(B, .cells #[.int .i64 bi, .int .i64 bk, .string bt, .int .i64 bs, .int .i64 br, .int .i64 bu, .slice bp bl bc, .int .i64 ba, .int .i64 bd] 26)] [] w0 (.bool false))))))) ∧
         ((r21 = false) →
         Fin R [(B, .cells #[.int .i64 bi, .int .i64 bk, .string bt, .int .i64 bs, .int .i64 br, .int .i64 bu, .slice bp bl bc, .int .i64 ba, .int .i64 bd] 26)] [] w0 (.bool false))) ∧
        ((r1 = false) →
        Fin R [(B, .cells #[.int .i64 bi, .int .i64 bk, .string bt, .int .i64 bs, .int .i64 br, .int .i64 bu, .slice bp bl bc, .int .i64 ba, .int .i64 bd] 26)] [] w0 (.bool false))))))) :
  Calls Tryd.prog 20 ⟨[.agg #[.int .i64 bi, .int .i64 bk, .string bt, .int .i64 bs, .int .i64 br, .int .i64 bu, .slice bp bl bc, .int .i64 ba, .int .i64 bd]]⟩ W R := by
 refine AtE.calls (nt := 81) Tryd.func20 (by kernel_rfl) hm ?_
 refine AtE.run 2 (fun W => by kernel_rfl) ?_
 refine AtE.new (fun B => .pointer (some ⟨B, 0, none⟩)) (.cells #[.int .i64 bi, .int .i64 bk, .string bt, .int .i64 bs, .int .i64 br, .int .i64 bu, .slice bp bl bc, .int .i64 ba, .int .i64 bd] 26) (fun W => by kernel_rfl) (by kernel_rfl) (fun B => ?_)
 replace H := H B
 refine AtE.run 5 (fun W => by kernel_rfl) ?_
 refine AtE.load 0 2 (T := 9) (v := .string bt) (by kernel_rfl) ?_
 refine AtE.call 42 ⟨[.string bt]⟩ (fun W => by kernel_rfl) (by kernel_rfl) H ?_
 clear H
 rintro _ _ ⟨r1, rfl, rfl, H⟩
 refine AtE.run 5 (fun W => by kernel_rfl) ?_
 refine AtE.load 0 5 (T := 24) (v := .agg #[.int .i64 bu, .slice bp bl bc, .int .i64 ba, .int .i64 bd]) (by kernel_rfl) ?_
 refine AtE.call 43 ⟨[.agg #[.int .i64 bu, .slice bp bl bc, .int .i64 ba, .int .i64 bd]]⟩ (fun W => by kernel_rfl) (by kernel_rfl) H ?_
 clear H
 rintro _ _ ⟨r21, rfl, rfl, H⟩
 refine AtE.run 6 (fun W => by kernel_rfl) ?_
 refine AtE.load 0 0 (T := 3) (v := .int .i64 bi) (by kernel_rfl) ?_
 refine AtE.run 2 (fun W => by kernel_rfl) ?_
 refine AtE.splitP 14 (p := bi < (1 : Int)) (by kernel_rfl) (fun h1' => ?_) (fun h1' => ?_)
 ·replace H := H.1 h1'
  refine AtE.norm (k' := [.inRegion (regOps [.code (EngB4s20 [1,1,1,0,0])]) [4,5,6,7,8,9,10,11,12,13,14,15], .code (EngB4s20 [1,1,1,0,1]), .code (EngB4s20 [1,1,1,1])]) (e' := [(1, .pointer (some ⟨B, 0, none⟩)), (3, .bool r1), (4, .bool r21), (14, .bool true)]) (L' := [(B, .cells #[.int .i64 bi, .int .i64 bk, .string bt, .int .i64 bs, .int .i64 br, .int .i64 bu, .slice bp bl bc, .int .i64 ba, .int .i64 bd] 26)]) ?_ (by kernel_rfl)
  refine AtE.run 18 (fun W => by kernel_rfl) ?_
  exact AtE.ret Tryd.func20 (by kernel_rfl) H
 ·replace H := H.2 h1'
  refine AtE.norm (k' := [.inRegion (regOps [.code (EngB4s20 [1,1,1,0,0])]) [4,5,6,7,8,9,10,11,12,13,14,15], .code (EngB4s20 [1,1,1,0,1]), .code (EngB4s20 [1,1,1,1])]) (e' := [(1, .pointer (some ⟨B, 0, none⟩)), (3, .bool r1), (4, .bool r21), (14, .bool false)]) (L' := [(B, .cells #[.int .i64 bi, .int .i64 bk, .string bt, .int .i64 bs, .int .i64 br, .int .i64 bu, .slice bp bl bc, .int .i64 ba, .int .i64 bd] 26)]) ?_ (by kernel_rfl)
  refine AtE.run 1 (fun W => by kernel_rfl) ?_
  refine AtE.load 0 0 (T := 3) (v := .int .i64 bi) (by kernel_rfl) ?_
  refine AtE.run 3 (fun W => by kernel_rfl) ?_
  refine AtE.splitP 19 (p := (1000 : Int) < bi) (by kernel_rfl) (fun h2' => ?_) (fun h2' => ?_)
  ·replace H := H.1 h2'
   refine AtE.run 13 (fun W => by kernel_rfl) ?_
   exact AtE.ret Tryd.func20 (by kernel_rfl) H
  ·replace H := H.2 h2'
   refine AtE.run 1 (fun W => by kernel_rfl) ?_
   refine AtE.split 20 (b := r1) (by kernel_rfl) (fun h3' => ?_) (fun h3' => ?_)
   ·replace H := H.1 h3'
    refine AtE.run 4 (fun W => by kernel_rfl) ?_
    refine AtE.split 24 (b := r21) (by kernel_rfl) (fun h4' => ?_) (fun h4' => ?_)
    ·replace H := H.1 h4'
     refine AtE.run 9 (fun W => by kernel_rfl) ?_
     refine AtE.load 0 1 (T := 3) (v := .int .i64 bk) (by kernel_rfl) ?_
     refine AtE.run 8 (fun W => by kernel_rfl) ?_
     refine AtE.splitP 29 (p := bk = (1 : Int)) (by kernel_rfl) (fun h5' => ?_) (fun h5' => ?_)
     ·replace H := H.1 h5'
      refine AtE.run 6 (fun W => by kernel_rfl) ?_
      refine AtE.load 0 2 (T := 9) (v := .string bt) (by kernel_rfl) ?_
      refine AtE.norm (k' := [.inRegion (regOps [.code (EngB4s20 [1,1,1,1,0,1,0,1,0,0])]) [2,3,4,5,6,7,8,9,10,11,12,13], .code (EngB4s20 [1,1,1,1,0,1,0,1,0,1]), .inBlock 0, .code (EngB4s20 [1,1,1,1,1])]) (e' := [(1, .pointer (some ⟨B, 0, none⟩)), (34, .string bt)]) (L' := [(B, .cells #[.int .i64 bi, .int .i64 bk, .string bt, .int .i64 bs, .int .i64 br, .int .i64 bu, .slice bp bl bc, .int .i64 ba, .int .i64 bd] 26)]) ?_ (by kernel_rfl)
      refine AtE.run 2 (fun W => by kernel_rfl) ?_
      refine AtE.splitT 36 (x := bt) (y := (⟨#[]⟩ : ByteArray)) (by kernel_rfl) (fun h6' => ?_) (fun h6' => ?_)
      ·replace H := H.1 h6'
       refine AtE.run 1 (fun W => by kernel_rfl) ?_
       refine AtE.load 0 3 (T := 3) (v := .int .i64 bs) (by kernel_rfl) ?_
       refine AtE.run 3 (fun W => by kernel_rfl) ?_
       refine AtE.splitP 41 (p := bs = (0 : Int)) (by kernel_rfl) (fun h7' => ?_) (fun h7' => ?_)
       ·replace H := H.1 h7'
        refine AtE.run 1 (fun W => by kernel_rfl) ?_
        refine AtE.load 0 4 (T := 3) (v := .int .i64 br) (by kernel_rfl) ?_
        refine AtE.run 4 (fun W => by kernel_rfl) ?_
        exact AtE.ret Tryd.func20 (by kernel_rfl) H
       ·replace H := H.2 h7'
        refine AtE.run 6 (fun W => by kernel_rfl) ?_
        exact AtE.ret Tryd.func20 (by kernel_rfl) H
      ·replace H := H.2 h6'
       refine AtE.run 11 (fun W => by kernel_rfl) ?_
       exact AtE.ret Tryd.func20 (by kernel_rfl) H
     ·replace H := H.2 h5'
      refine AtE.run 6 (fun W => by kernel_rfl) ?_
      refine AtE.splitP 29 (p := bk = (2 : Int)) (by kernel_rfl) (fun h8' => ?_) (fun h8' => ?_)
      ·replace H := H.1 h8'
       refine AtE.norm (k' := [.code (EngB4s20 [1,1,1,1,0,1,0,0,1,1,1]), .code (EngB4s20 [1,1,1,1,0,1,0,1]), .inBlock 0, .code (EngB4s20 [1,1,1,1,1])]) (e' := [(1, .pointer (some ⟨B, 0, none⟩)), (28, .int .i64 bk), (29, .bool true)]) (L' := [(B, .cells #[.int .i64 bi, .int .i64 bk, .string bt, .int .i64 bs, .int .i64 br, .int .i64 bu, .slice bp bl bc, .int .i64 ba, .int .i64 bd] 26)]) ?_ (by kernel_rfl)
       refine AtE.run 6 (fun W => by kernel_rfl) ?_
       refine AtE.load 0 2 (T := 9) (v := .string bt) (by kernel_rfl) ?_
       refine AtE.run 2 (fun W => by kernel_rfl) ?_
       refine AtE.splitT 36 (x := bt) (y := (⟨#[]⟩ : ByteArray)) (by kernel_rfl) (fun h9' => ?_) (fun h9' => ?_)
       ·replace H := H.1 h9'
        refine AtE.run 1 (fun W => by kernel_rfl) ?_
        refine AtE.load 0 3 (T := 3) (v := .int .i64 bs) (by kernel_rfl) ?_
        refine AtE.run 3 (fun W => by kernel_rfl) ?_
        refine AtE.splitP 41 (p := bs = (0 : Int)) (by kernel_rfl) (fun h10' => ?_) (fun h10' => ?_)
        ·replace H := H.1 h10'
         refine AtE.run 1 (fun W => by kernel_rfl) ?_
         refine AtE.load 0 4 (T := 3) (v := .int .i64 br) (by kernel_rfl) ?_
         refine AtE.run 4 (fun W => by kernel_rfl) ?_
         exact AtE.ret Tryd.func20 (by kernel_rfl) H
        ·replace H := H.2 h10'
         refine AtE.run 6 (fun W => by kernel_rfl) ?_
         exact AtE.ret Tryd.func20 (by kernel_rfl) H
       ·replace H := H.2 h9'
        refine AtE.run 11 (fun W => by kernel_rfl) ?_
        exact AtE.ret Tryd.func20 (by kernel_rfl) H
      ·replace H := H.2 h8'
       refine AtE.norm (k' := [.code (EngB4s20 [1,1,1,1,0,1,0,0,1,1,1]), .code (EngB4s20 [1,1,1,1,0,1,0,1]), .inBlock 0, .code (EngB4s20 [1,1,1,1,1])]) (e' := [(1, .pointer (some ⟨B, 0, none⟩)), (28, .int .i64 bk), (29, .bool false)]) (L' := [(B, .cells #[.int .i64 bi, .int .i64 bk, .string bt, .int .i64 bs, .int .i64 br, .int .i64 bu, .slice bp bl bc, .int .i64 ba, .int .i64 bd] 26)]) ?_ (by kernel_rfl)
       refine AtE.run 5 (fun W => by kernel_rfl) ?_
       refine AtE.splitP 29 (p := bk = (4 : Int)) (by kernel_rfl) (fun h11' => ?_) (fun h11' => ?_)
       ·replace H := H.1 h11'
        refine AtE.run 4 (fun W => by kernel_rfl) ?_
        refine AtE.load 0 2 (T := 9) (v := .string bt) (by kernel_rfl) ?_
        refine AtE.run 2 (fun W => by kernel_rfl) ?_
        refine AtE.splitT 36 (x := bt) (y := (⟨#[]⟩ : ByteArray)) (by kernel_rfl) (fun h12' => ?_) (fun h12' => ?_)
        ·replace H := H.1 h12'
         refine AtE.run 1 (fun W => by kernel_rfl) ?_
         refine AtE.load 0 3 (T := 3) (v := .int .i64 bs) (by kernel_rfl) ?_
         refine AtE.run 3 (fun W => by kernel_rfl) ?_
         refine AtE.splitP 41 (p := bs = (0 : Int)) (by kernel_rfl) (fun h13' => ?_) (fun h13' => ?_)
         ·replace H := H.1 h13'
          refine AtE.run 1 (fun W => by kernel_rfl) ?_
          refine AtE.load 0 4 (T := 3) (v := .int .i64 br) (by kernel_rfl) ?_
          refine AtE.run 4 (fun W => by kernel_rfl) ?_
          exact AtE.ret Tryd.func20 (by kernel_rfl) H
         ·replace H := H.2 h13'
          refine AtE.run 6 (fun W => by kernel_rfl) ?_
          exact AtE.ret Tryd.func20 (by kernel_rfl) H
        ·replace H := H.2 h12'
         refine AtE.run 11 (fun W => by kernel_rfl) ?_
         exact AtE.ret Tryd.func20 (by kernel_rfl) H
       ·replace H := H.2 h11'
        refine AtE.run 6 (fun W => by kernel_rfl) ?_
        refine AtE.splitP 46 (p := bk = (5 : Int)) (by kernel_rfl) (fun h14' => ?_) (fun h14' => ?_)
        ·replace H := H.1 h14'
         refine AtE.run 4 (fun W => by kernel_rfl) ?_
         refine AtE.load 0 2 (T := 9) (v := .string bt) (by kernel_rfl) ?_
         refine AtE.call 44 ⟨[.string bt]⟩ (fun W => by kernel_rfl) (by kernel_rfl) H ?_
         clear H
         rintro _ _ ⟨r31, rfl, rfl, H⟩
         refine AtE.run 1 (fun W => by kernel_rfl) ?_
         refine AtE.split 51 (b := r31) (by kernel_rfl) (fun h15' => ?_) (fun h15' => ?_)
         ·replace H := H.1 h15'
          refine AtE.run 1 (fun W => by kernel_rfl) ?_
          refine AtE.load 0 3 (T := 3) (v := .int .i64 bs) (by kernel_rfl) ?_
          refine AtE.run 3 (fun W => by kernel_rfl) ?_
          refine AtE.splitP 56 (p := bs = (0 : Int)) (by kernel_rfl) (fun h16' => ?_) (fun h16' => ?_)
          ·replace H := H.1 h16'
           refine AtE.norm (k' := [.inRegion (regOps [.code (EngB4s20 [1,1,1,1,0,1,0,1,1,1,0,0])]) [9,10,11,12,13], .code (EngB4s20 [1,1,1,1,0,1,0,1,1,1,0,1]), .inBlock 0, .code (EngB4s20 [1,1,1,1,1])]) (e' := [(1, .pointer (some ⟨B, 0, none⟩)), (56, .bool true)]) (L' := [(B, .cells #[.int .i64 bi, .int .i64 bk, .string bt, .int .i64 bs, .int .i64 br, .int .i64 bu, .slice bp bl bc, .int .i64 ba, .int .i64 bd] 26)]) ?_ (by kernel_rfl)
           refine AtE.run 1 (fun W => by kernel_rfl) ?_
           refine AtE.load 0 4 (T := 3) (v := .int .i64 br) (by kernel_rfl) ?_
           refine AtE.run 4 (fun W => by kernel_rfl) ?_
           exact AtE.ret Tryd.func20 (by kernel_rfl) H
          ·replace H := H.2 h16'
           refine AtE.norm (k' := [.inRegion (regOps [.code (EngB4s20 [1,1,1,1,0,1,0,1,1,1,0,0])]) [9,10,11,12,13], .code (EngB4s20 [1,1,1,1,0,1,0,1,1,1,0,1]), .inBlock 0, .code (EngB4s20 [1,1,1,1,1])]) (e' := [(1, .pointer (some ⟨B, 0, none⟩)), (56, .bool false)]) (L' := [(B, .cells #[.int .i64 bi, .int .i64 bk, .string bt, .int .i64 bs, .int .i64 br, .int .i64 bu, .slice bp bl bc, .int .i64 ba, .int .i64 bd] 26)]) ?_ (by kernel_rfl)
           refine AtE.run 6 (fun W => by kernel_rfl) ?_
           exact AtE.ret Tryd.func20 (by kernel_rfl) H
         ·replace H := H.2 h15'
          refine AtE.run 11 (fun W => by kernel_rfl) ?_
          exact AtE.ret Tryd.func20 (by kernel_rfl) H
        ·replace H := H.2 h14'
         refine AtE.run 6 (fun W => by kernel_rfl) ?_
         refine AtE.splitP 61 (p := bk = (3 : Int)) (by kernel_rfl) (fun h17' => ?_) (fun h17' => ?_)
         ·replace H := H.1 h17'
          refine AtE.run 4 (fun W => by kernel_rfl) ?_
          refine AtE.load 0 3 (T := 3) (v := .int .i64 bs) (by kernel_rfl) ?_
          refine AtE.run 2 (fun W => by kernel_rfl) ?_
          refine AtE.splitP 66 (p := (1 : Int) ≤ bs) (by kernel_rfl) (fun h18' => ?_) (fun h18' => ?_)
          ·replace H := H.1 h18'
           refine AtE.run 1 (fun W => by kernel_rfl) ?_
           refine AtE.load 0 3 (T := 3) (v := .int .i64 bs) (by kernel_rfl) ?_
           refine AtE.run 3 (fun W => by kernel_rfl) ?_
           refine AtE.splitP 71 (p := bs ≤ (64 : Int)) (by kernel_rfl) (fun h19' => ?_) (fun h19' => ?_)
           ·replace H := H.1 h19'
            refine AtE.norm (k' := [.inRegion (regOps [.code (EngB4s20 [1,1,1,1,0,1,0,1,1,1,1,1,0,0])]) [9,10,11,12,13,14,15,16,17,18], .code (EngB4s20 [1,1,1,1,0,1,0,1,1,1,1,1,0,1]), .inBlock 0, .code (EngB4s20 [1,1,1,1,1])]) (e' := [(1, .pointer (some ⟨B, 0, none⟩)), (71, .bool true)]) (L' := [(B, .cells #[.int .i64 bi, .int .i64 bk, .string bt, .int .i64 bs, .int .i64 br, .int .i64 bu, .slice bp bl bc, .int .i64 ba, .int .i64 bd] 26)]) ?_ (by kernel_rfl)
            refine AtE.run 1 (fun W => by kernel_rfl) ?_
            refine AtE.load 0 4 (T := 3) (v := .int .i64 br) (by kernel_rfl) ?_
            refine AtE.run 3 (fun W => by kernel_rfl) ?_
            refine AtE.splitP 76 (p := (1 : Int) ≤ br) (by kernel_rfl) (fun h20' => ?_) (fun h20' => ?_)
            ·replace H := H.1 h20'
             refine AtE.run 1 (fun W => by kernel_rfl) ?_
             refine AtE.load 0 4 (T := 3) (v := .int .i64 br) (by kernel_rfl) ?_
             refine AtE.run 4 (fun W => by kernel_rfl) ?_
             exact AtE.ret Tryd.func20 (by kernel_rfl) H
            ·replace H := H.2 h20'
             refine AtE.run 6 (fun W => by kernel_rfl) ?_
             exact AtE.ret Tryd.func20 (by kernel_rfl) H
           ·replace H := H.2 h19'
            refine AtE.norm (k' := [.inRegion (regOps [.code (EngB4s20 [1,1,1,1,0,1,0,1,1,1,1,1,0,0])]) [9,10,11,12,13,14,15,16,17,18], .code (EngB4s20 [1,1,1,1,0,1,0,1,1,1,1,1,0,1]), .inBlock 0, .code (EngB4s20 [1,1,1,1,1])]) (e' := [(1, .pointer (some ⟨B, 0, none⟩)), (71, .bool false)]) (L' := [(B, .cells #[.int .i64 bi, .int .i64 bk, .string bt, .int .i64 bs, .int .i64 br, .int .i64 bu, .slice bp bl bc, .int .i64 ba, .int .i64 bd] 26)]) ?_ (by kernel_rfl)
            refine AtE.run 11 (fun W => by kernel_rfl) ?_
            exact AtE.ret Tryd.func20 (by kernel_rfl) H
          ·replace H := H.2 h18'
           refine AtE.run 16 (fun W => by kernel_rfl) ?_
           exact AtE.ret Tryd.func20 (by kernel_rfl) H
         ·replace H := H.2 h17'
          refine AtE.run 7 (fun W => by kernel_rfl) ?_
          exact AtE.ret Tryd.func20 (by kernel_rfl) H
    ·replace H := H.2 h4'
     refine AtE.run 8 (fun W => by kernel_rfl) ?_
     exact AtE.ret Tryd.func20 (by kernel_rfl) H
   ·replace H := H.2 h3'
    refine AtE.run 12 (fun W => by kernel_rfl) ?_
    exact AtE.ret Tryd.func20 (by kernel_rfl) H
end Go.Eng
namespace Go.Eng
open Go Go.RowKit Go.Proofs
set_option linter.unusedVariables false
set_option maxRecDepth 100000
noncomputable abbrev EngB5s21 := sub (Eng.body Tryd.f21)
noncomputable abbrev EngB5s22 := sub (Eng.body Tryd.f22)
abbrev EngB5m0 : Obj := .map #[{ key := .int .i64 (1 : Int), val := .agg #[.func (.func 64) #[] #[], .bool false, .func (.func 66) #[] #[]], born := 0 }, { key := .int .i64 (2 : Int), val := .agg #[.func (.func 64) #[] #[], .bool false, .func (.func 67) #[] #[]], born := 1 }, { key := .int .i64 (3 : Int), val := .agg #[.func (.func 65) #[] #[], .bool true, .func (.func 69) #[] #[]], born := 2 }, { key := .int .i64 (4 : Int), val := .agg #[.func (.func 64) #[] #[], .bool false, .func (.func 70) #[] #[]], born := 3 }, { key := .int .i64 (5 : Int), val := .agg #[.func (.func 71) #[] #[], .bool false, .func (.func 72) #[] #[]], born := 4 }] 5
def validL_c0 (B : Nat) (l1_p : Option Addr) (l1_l : Nat) (l1_c : Nat) (t12_p : Option Addr) (t12_l : Nat) (t12_c : Nat) (t13 : Int) (t14 : Int) (w0 : World) (R : Ending → World → Prop) : Prop :=
 AtE Tryd.prog 21 38 [.code (EngB5s21 [1,1,1,0,1,0,0]), .inLoop (EngB5s21 [1,1,1,0,1,0,0]), .inBlock 0, .code (EngB5s21 [1,1,1,1])] [(0, .slice l1_p l1_l l1_c), (3, .map (some B)), (12, .slice t12_p t12_l t12_c), (13, .int .i64 t13), (14, .int .i64 t14)] [(B, EngB5m0)] [] w0 (nrm R)
def validL_c1 (B2 : Nat) (B3 : Nat) (l2_p : Option Addr) (l2_l : Nat) (l2_c : Nat) (t121_p : Option Addr) (t121_l : Nat) (t121_c : Nat) (t131 : Int) (t141 : Int) (t25_p : Option Addr) (t25_l : Nat) (t25_c : Nat) (t26 : Int) (t27 : Int) (m0 : Int) (m1 : Int) (m2 : ByteArray) (m3 : Int) (m4 : Int) (m5 : Int) (m6_p : Option Addr) (m6_l : Nat) (m6_c : Nat) (m7 : Int) (m8 : Int) (w0 : World) (R : Ending → World → Prop) : Prop :=
 AtE Tryd.prog 21 38 [.code (EngB5s21 [1,1,1,0,1,0,0,1,1,0,0,1,1,1,0,0]), .inLoop (EngB5s21 [1,1,1,0,1,0,0,1,1,0,0,1,1,1,0,0]), .inBlock 2, .inBlock 1, .code (EngB5s21 [1,1,1,0,1,0,0,1,1,1]), .inLoop (EngB5s21 [1,1,1,0,1,0,0]), .inBlock 0, .code (EngB5s21 [1,1,1,1])] [(0, .slice l2_p l2_l l2_c), (3, .map (some B2)), (5, .pointer (some ⟨B3, 0, none⟩)), (12, .slice t121_p t121_l t121_c), (13, .int .i64 t131), (14, .int .i64 t141), (25, .slice t25_p t25_l t25_c), (26, .int .i64 t26), (27, .int .i64 t27)] [(B2, EngB5m0), (B3, .cells #[.int .i64 m0, .int .i64 m1, .string m2, .int .i64 m3, .int .i64 m4, .int .i64 m5, .slice m6_p m6_l m6_c, .int .i64 m7, .int .i64 m8] 26)] [] w0 (nrm R)
theorem validL_c0_vc (B : Nat) (l1_p : Option Addr) (l1_l : Nat) (l1_c : Nat) (t12_p : Option Addr) (t12_l : Nat) (t12_c : Nat) (t13 : Int) (t14 : Int) {R : Ending → World → Prop} {w0 : World}
  (H :
   ((t14 < t13) →
    ∃ t12_pb t12_po : Nat, t12_p = some ⟨t12_pb, t12_po, none⟩ ∧
    (0 ≤ t14 ∧ t14 < t12_l) ∧
    ∃ (cw : List Value) (m_0 : Int) (m_1 : Int) (m_2 : ByteArray) (m_3 : Int) (m_4 : Int) (m_5 : Int) (m_6_p : Option Addr) (m_6_l : Nat) (m_6_c : Nat) (m_7 : Int) (m_8 : Int), blkW w0 t12_pb = some cw ∧ ((cw.drop (t12_po + ((Int.toNat t14) * 9))).take 9 = [.int .i64 m_0, .int .i64 m_1, .string m_2, .int .i64 m_3, .int .i64 m_4, .int .i64 m_5, .slice m_6_p m_6_l m_6_c, .int .i64 m_7, .int .i64 m_8] ∧ (t12_po + ((Int.toNat t14) * 9)) + 9 ≤ cw.length) ∧
    ∀ B1 : Nat,
    CallH Tryd.prog 40 ⟨[.agg #[.int .i64 m_0, .int .i64 m_1, .string m_2, .int .i64 m_3, .int .i64 m_4, .int .i64 m_5, .slice m_6_p m_6_l m_6_c, .int .i64 m_7, .int .i64 m_8], .map (some B)]⟩ [(B, EngB5m0), (B1, .cells #[.int .i64 m_0, .int .i64 m_1, .string m_2, .int .i64 m_3, .int .i64 m_4, .int .i64 m_5, .slice m_6_p m_6_l m_6_c, .int .i64 m_7, .int .i64 m_8] 26)] [] w0 (fun v L' => ∃ (r21 : Bool), v = (.bool r21) ∧ L' = [(B, EngB5m0), (B1, .cells #[.int .i64 m_0, .int .i64 m_1, .string m_2, .int .i64 m_3, .int .i64 m_4, .int .i64 m_5, .slice m_6_p m_6_l m_6_c, .int .i64 m_7, .int .i64 m_8] 26)] ∧
     ((r21 = true) →
      (0 ≤ t14 ∧ t14 ≤ (l1_c : Int)) ∧
      validL_c1 B B1 l1_p l1_l l1_c (some ⟨t12_pb, t12_po, none⟩) t12_l t12_c t13 t14 l1_p (Int.toNat t14) l1_c ((Int.toNat t14) : Int) (0 : Int) m_0 m_1 m_2 m_3 m_4 m_5 m_6_p m_6_l m_6_c m_7 m_8 w0 R) ∧
      ((r21 = false) →
      Fin R [(B, EngB5m0), (B1, .cells #[.int .i64 m_0, .int .i64 m_1, .string m_2, .int .i64 m_3, .int .i64 m_4, .int .i64 m_5, .slice m_6_p m_6_l m_6_c, .int .i64 m_7, .int .i64 m_8] 26)] [] w0 (.bool false)))) ∧
    ((¬ (t14 < t13)) →
    Fin R [(B, EngB5m0)] [] w0 (.bool true))) :
  validL_c0 B l1_p l1_l l1_c t12_p t12_l t12_c t13 t14 w0 R := by
 unfold validL_c0
 refine AtE.run 5 (fun W => by kernel_rfl) ?_
 refine AtE.splitP 15 (p := t14 < t13) (by kernel_rfl) (fun h2' => ?_) (fun h2' => ?_)
 ·replace H := H.1 h2'
  refine AtE.run 7 (fun W => by kernel_rfl) ?_
  obtain ⟨t12_pb, t12_po, rfl, H⟩ := H
  refine AtE.indexAddrL (E := 26) (b := t12_pb) (o := t12_po) (len := t12_l) (cap := t12_c) (sz := 9) (o' := (t12_po + ((Int.toNat t14) * 9))) (kd := .i64) (i := t14) (by kernel_rfl) H.1 (by omega) ?_
  replace H := H.2
  obtain ⟨cw, m_0, m_1, m_2, m_3, m_4, m_5, m_6_p, m_6_l, m_6_c, m_7, m_8, hw, hx, H⟩ := H
  refine AtE.loadW (b := t12_pb) (off := (t12_po + ((Int.toNat t14) * 9))) (T := 26) (v := .agg #[.int .i64 m_0, .int .i64 m_1, .string m_2, .int .i64 m_3, .int .i64 m_4, .int .i64 m_5, .slice m_6_p m_6_l m_6_c, .int .i64 m_7, .int .i64 m_8]) (by kernel_rfl) List.not_mem_nil hw (valAt_agg hx.1 hx.2 (by kernel_rfl) (by kernel_rfl)) ?_
  refine AtE.new (fun B => .pointer (some ⟨B, 0, none⟩)) (.cells #[.int .i64 (0 : Int), .int .i64 (0 : Int), .string (⟨#[]⟩), .int .i64 (0 : Int), .int .i64 (0 : Int), .int .i64 (0 : Int), .slice none 0 0, .int .i64 (0 : Int), .int .i64 (0 : Int)] 26) (fun W => by kernel_rfl) (by kernel_rfl) (fun B1 => ?_)
  replace H := H B1
  refine AtE.run 1 (fun W => by kernel_rfl) ?_
  refine AtE.store 1 0 (T := 26) (v := .agg #[.int .i64 m_0, .int .i64 m_1, .string m_2, .int .i64 m_3, .int .i64 m_4, .int .i64 m_5, .slice m_6_p m_6_l m_6_c, .int .i64 m_7, .int .i64 m_8]) (by kernel_rfl) ?_
  refine AtE.run 4 (fun W => by kernel_rfl) ?_
  refine AtE.load 1 0 (T := 26) (v := .agg #[.int .i64 m_0, .int .i64 m_1, .string m_2, .int .i64 m_3, .int .i64 m_4, .int .i64 m_5, .slice m_6_p m_6_l m_6_c, .int .i64 m_7, .int .i64 m_8]) (by kernel_rfl) ?_
  refine AtE.norm (k' := [.inRegion (regOps [.code (EngB5s21 [1,1,1,0,1,0,0,1,1,0,0,1,0,0])]) [1,2,3], .code (EngB5s21 [1,1,1,0,1,0,0,1,1,0,0,1,0,1]), .code (EngB5s21 [1,1,1,0,1,0,0,1,1,0,0,1,1]), .inBlock 1, .code (EngB5s21 [1,1,1,0,1,0,0,1,1,1]), .inLoop (EngB5s21 [1,1,1,0,1,0,0]), .inBlock 0, .code (EngB5s21 [1,1,1,1])]) (e' := [(0, .slice l1_p l1_l l1_c), (3, .map (some B)), (4, .int .i64 t14), (5, .pointer (some ⟨B1, 0, none⟩)), (12, .slice (some ⟨t12_pb, t12_po, none⟩) t12_l t12_c), (13, .int .i64 t13), (14, .int .i64 t14), (19, .agg #[.int .i64 m_0, .int .i64 m_1, .string m_2, .int .i64 m_3, .int .i64 m_4, .int .i64 m_5, .slice m_6_p m_6_l m_6_c, .int .i64 m_7, .int .i64 m_8])]) (L' := [(B, EngB5m0), (B1, .cells #[.int .i64 m_0, .int .i64 m_1, .string m_2, .int .i64 m_3, .int .i64 m_4, .int .i64 m_5, .slice m_6_p m_6_l m_6_c, .int .i64 m_7, .int .i64 m_8] 26)]) ?_ (by kernel_rfl)
  refine AtE.run 1 (fun W => by kernel_rfl) ?_
  refine AtE.call 40 ⟨[.agg #[.int .i64 m_0, .int .i64 m_1, .string m_2, .int .i64 m_3, .int .i64 m_4, .int .i64 m_5, .slice m_6_p m_6_l m_6_c, .int .i64 m_7, .int .i64 m_8], .map (some B)]⟩ (fun W => by kernel_rfl) (by kernel_rfl) H ?_
  clear H
  rintro _ _ ⟨r21, rfl, rfl, H⟩
  refine AtE.split 21 (b := r21) (by kernel_rfl) (fun h3' => ?_) (fun h3' => ?_)
  ·replace H := H.1 h3'
   refine AtE.run 8 (fun W => by kernel_rfl) ?_
   refine AtE.sliceU (E := 26) (p := l1_p) (len := l1_l) (cap := l1_c) (sz := 9) (lo := none) (hi := some (.int .i64 t14)) (y := t14) (by kernel_rfl) (.inr rfl) (.inl ⟨.i64, rfl⟩) H.1 ?_
   replace H := H.2
   refine AtE.run 5 (fun W => by kernel_rfl) ?_
   exact AtE.cut [0,1] H (by kernel_rfl)
  ·replace H := H.2 h3'
   refine AtE.run 7 (fun W => by kernel_rfl) ?_
   exact AtE.ret Tryd.func21 (by kernel_rfl) H
 ·replace H := H.2 h2'
  refine AtE.run 6 (fun W => by kernel_rfl) ?_
  exact AtE.ret Tryd.func21 (by kernel_rfl) H
theorem validL_c1_vc (B2 : Nat) (B3 : Nat) (l2_p : Option Addr) (l2_l : Nat) (l2_c : Nat) (t121_p : Option Addr) (t121_l : Nat) (t121_c : Nat) (t131 : Int) (t141 : Int) (t25_p : Option Addr) (t25_l : Nat) (t25_c : Nat) (t26 : Int) (t27 : Int) (m0 : Int) (m1 : Int) (m2 : ByteArray) (m3 : Int) (m4 : Int) (m5 : Int) (m6_p : Option Addr) (m6_l : Nat) (m6_c : Nat) (m7 : Int) (m8 : Int) {R : Ending → World → Prop} {w0 : World}
  (H :
   ((t27 < t26) →
    ∃ t25_pb t25_po : Nat, t25_p = some ⟨t25_pb, t25_po, none⟩ ∧
    (0 ≤ t27 ∧ t27 < t25_l) ∧
    ∃ (cw1 : List Value) (m9_0 : Int) (m9_1 : Int) (m9_2 : ByteArray) (m9_3 : Int) (m9_4 : Int) (m9_5 : Int) (m9_6_p : Option Addr) (m9_6_l : Nat) (m9_6_c : Nat) (m9_7 : Int) (m9_8 : Int), blkW w0 t25_pb = some cw1 ∧ ((cw1.drop (t25_po + ((Int.toNat t27) * 9))).take 9 = [.int .i64 m9_0, .int .i64 m9_1, .string m9_2, .int .i64 m9_3, .int .i64 m9_4, .int .i64 m9_5, .slice m9_6_p m9_6_l m9_6_c, .int .i64 m9_7, .int .i64 m9_8] ∧ (t25_po + ((Int.toNat t27) * 9)) + 9 ≤ cw1.length) ∧
    ∀ B4 : Nat,
    ((m9_0 = m0) →
     Fin R [(B2, EngB5m0), (B3, .cells #[.int .i64 m0, .int .i64 m1, .string m2, .int .i64 m3, .int .i64 m4, .int .i64 m5, .slice m6_p m6_l m6_c, .int .i64 m7, .int .i64 m8] 26), (B4, .cells #[.int .i64 m9_0, .int .i64 m9_1, .string m9_2, .int .i64 m9_3, .int .i64 m9_4, .int .i64 m9_5, .slice m9_6_p m9_6_l m9_6_c, .int .i64 m9_7, .int .i64 m9_8] 26)] [] w0 (.bool false)) ∧
     ((¬ (m9_0 = m0)) →
     validL_c1 B2 B3 l2_p l2_l l2_c t121_p t121_l t121_c t131 t141 (some ⟨t25_pb, t25_po, none⟩) t25_l t25_c t26 (IntKind.i64.wrap (t27 + (1 : Int))) m0 m1 m2 m3 m4 m5 m6_p m6_l m6_c m7 m8 w0 R)) ∧
    ((¬ (t27 < t26)) →
    validL_c0 B2 l2_p l2_l l2_c t121_p t121_l t121_c t131 (IntKind.i64.wrap (t141 + (1 : Int))) w0 R)) :
  validL_c1 B2 B3 l2_p l2_l l2_c t121_p t121_l t121_c t131 t141 t25_p t25_l t25_c t26 t27 m0 m1 m2 m3 m4 m5 m6_p m6_l m6_c m7 m8 w0 R := by
 unfold validL_c1
 refine AtE.run 5 (fun W => by kernel_rfl) ?_
 refine AtE.splitP 28 (p := t27 < t26) (by kernel_rfl) (fun h4' => ?_) (fun h4' => ?_)
 ·replace H := H.1 h4'
  refine AtE.run 6 (fun W => by kernel_rfl) ?_
  obtain ⟨t25_pb, t25_po, rfl, H⟩ := H
  refine AtE.indexAddrL (E := 26) (b := t25_pb) (o := t25_po) (len := t25_l) (cap := t25_c) (sz := 9) (o' := (t25_po + ((Int.toNat t27) * 9))) (kd := .i64) (i := t27) (by kernel_rfl) H.1 (by omega) ?_
  replace H := H.2
  obtain ⟨cw1, m9_0, m9_1, m9_2, m9_3, m9_4, m9_5, m9_6_p, m9_6_l, m9_6_c, m9_7, m9_8, hw, hx, H⟩ := H
  refine AtE.loadW (b := t25_pb) (off := (t25_po + ((Int.toNat t27) * 9))) (T := 26) (v := .agg #[.int .i64 m9_0, .int .i64 m9_1, .string m9_2, .int .i64 m9_3, .int .i64 m9_4, .int .i64 m9_5, .slice m9_6_p m9_6_l m9_6_c, .int .i64 m9_7, .int .i64 m9_8]) (by kernel_rfl) List.not_mem_nil hw (valAt_agg hx.1 hx.2 (by kernel_rfl) (by kernel_rfl)) ?_
  refine AtE.new (fun B => .pointer (some ⟨B, 0, none⟩)) (.cells #[.int .i64 (0 : Int), .int .i64 (0 : Int), .string (⟨#[]⟩), .int .i64 (0 : Int), .int .i64 (0 : Int), .int .i64 (0 : Int), .slice none 0 0, .int .i64 (0 : Int), .int .i64 (0 : Int)] 26) (fun W => by kernel_rfl) (by kernel_rfl) (fun B4 => ?_)
  replace H := H B4
  refine AtE.store 2 0 (T := 26) (v := .agg #[.int .i64 m9_0, .int .i64 m9_1, .string m9_2, .int .i64 m9_3, .int .i64 m9_4, .int .i64 m9_5, .slice m9_6_p m9_6_l m9_6_c, .int .i64 m9_7, .int .i64 m9_8]) (by kernel_rfl) ?_
  refine AtE.run 4 (fun W => by kernel_rfl) ?_
  refine AtE.load 2 0 (T := 3) (v := .int .i64 m9_0) (by kernel_rfl) ?_
  refine AtE.norm (k' := [.inRegion (regOps [.code (EngB5s21 [1,1,1,0,1,0,0,1,1,0,0,1,1,1,0,0,1,1,0,0,1,0])]) [2,3,4], .code (EngB5s21 [1,1,1,0,1,0,0,1,1,0,0,1,1,1,0,0,1,1,0,0,1,1]), .inBlock 3, .code (EngB5s21 [1,1,1,0,1,0,0,1,1,0,0,1,1,1,0,0,1,1,1]), .inLoop (EngB5s21 [1,1,1,0,1,0,0,1,1,0,0,1,1,1,0,0]), .inBlock 2, .inBlock 1, .code (EngB5s21 [1,1,1,0,1,0,0,1,1,1]), .inLoop (EngB5s21 [1,1,1,0,1,0,0]), .inBlock 0, .code (EngB5s21 [1,1,1,1])]) (e' := [(0, .slice l2_p l2_l l2_c), (3, .map (some B2)), (5, .pointer (some ⟨B3, 0, none⟩)), (12, .slice t121_p t121_l t121_c), (13, .int .i64 t131), (14, .int .i64 t141), (25, .slice (some ⟨t25_pb, t25_po, none⟩) t25_l t25_c), (26, .int .i64 t26), (27, .int .i64 t27), (32, .int .i64 m9_0)]) (L' := [(B2, EngB5m0), (B3, .cells #[.int .i64 m0, .int .i64 m1, .string m2, .int .i64 m3, .int .i64 m4, .int .i64 m5, .slice m6_p m6_l m6_c, .int .i64 m7, .int .i64 m8] 26), (B4, .cells #[.int .i64 m9_0, .int .i64 m9_1, .string m9_2, .int .i64 m9_3, .int .i64 m9_4, .int .i64 m9_5, .slice m9_6_p m9_6_l m9_6_c, .int .i64 m9_7, .int .i64 m9_8] 26)]) ?_ (by kernel_rfl)
  refine AtE.run 1 (fun W => by kernel_rfl) ?_
  refine AtE.load 1 0 (T := 3) (v := .int .i64 m0) (by kernel_rfl) ?_
  refine AtE.run 2 (fun W => by kernel_rfl) ?_
  refine AtE.splitP 35 (p := m9_0 = m0) (by kernel_rfl) (fun h5' => ?_) (fun h5' => ?_)
  ·replace H := H.1 h5'
   refine AtE.run 5 (fun W => by kernel_rfl) ?_
   exact AtE.ret Tryd.func21 (by kernel_rfl) H
  ·replace H := H.2 h5'
   refine AtE.run 8 (fun W => by kernel_rfl) ?_
   exact AtE.cut [0,1] H (by kernel_rfl)
 ·replace H := H.2 h4'
  refine AtE.run 8 (fun W => by kernel_rfl) ?_
  exact AtE.cut [0] H (by kernel_rfl)
theorem validL_vc (l_p : Option Addr) (l_l : Nat) (l_c : Nat) {R : Ending → World → Prop} {w0 W : World} (hm : Mem [] [] w0 W)
  (H :
   (((24 : Int) < (l_l : Int)) →
    Fin R [] [] w0 (.bool false)) ∧
    ((¬ ((24 : Int) < (l_l : Int))) →
    CallH Tryd.prog 41 ⟨[]⟩ [] [] w0 (fun v L' => ∃ (mb : Nat), v = (.map (some mb)) ∧ L' = [(mb, EngB5m0)] ∧
     validL_c0 mb l_p l_l l_c l_p l_l l_c (l_l : Int) (0 : Int) w0 R))) :
  Calls Tryd.prog 21 ⟨[.slice l_p l_l l_c]⟩ W R := by
 refine AtE.calls (nt := 38) Tryd.func21 (by kernel_rfl) hm ?_
 refine AtE.run 11 (fun W => by kernel_rfl) ?_
 refine AtE.splitP 10 (p := (24 : Int) < (l_l : Int)) (by kernel_rfl) (fun h1' => ?_) (fun h1' => ?_)
 ·replace H := H.1 h1'
  refine AtE.run 5 (fun W => by kernel_rfl) ?_
  exact AtE.ret Tryd.func21 (by kernel_rfl) H
 ·replace H := H.2 h1'
  refine AtE.run 4 (fun W => by kernel_rfl) ?_
  refine AtE.call 41 ⟨[]⟩ (fun W => by kernel_rfl) (by kernel_rfl) H ?_
  clear H
  rintro _ _ ⟨mb, rfl, rfl, H⟩
  refine AtE.run 11 (fun W => by kernel_rfl) ?_
  exact AtE.cut [0] H (by kernel_rfl)
def rvalidL_c0 (l1_p : Option Addr) (l1_l : Nat) (l1_c : Nat) (i : Int) (w0 : World) (R : Ending → World → Prop) : Prop :=
 AtE Tryd.prog 22 38 [.code (EngB5s22 [1,1,0,1,0,0]), .inLoop (EngB5s22 [1,1,0,1,0,0]), .inBlock 0, .code (EngB5s22 [1,1,1])] [(0, .slice l1_p l1_l l1_c), (3, .int .i64 i)] [] [] w0 (nrm R)
def rvalidL_c1 (l2_p : Option Addr) (l2_l : Nat) (l2_c : Nat) (i1 : Int) (kv : Int) (w0 : World) (R : Ending → World → Prop) : Prop :=
 AtE Tryd.prog 22 38 [.code (EngB5s22 [1,1,0,1,0,0,1,0,0,1,1,1,0,0]), .inLoop (EngB5s22 [1,1,0,1,0,0,1,0,0,1,1,1,0,0]), .inBlock 2, .inBlock 1, .code (EngB5s22 [1,1,0,1,0,0,1,1]), .inLoop (EngB5s22 [1,1,0,1,0,0]), .inBlock 0, .code (EngB5s22 [1,1,1])] [(0, .slice l2_p l2_l l2_c), (3, .int .i64 i1), (5, .int .i64 kv)] [] [] w0 (nrm R)
theorem rvalidL_c0_vc (l1_p : Option Addr) (l1_l : Nat) (l1_c : Nat) (i : Int) {R : Ending → World → Prop} {w0 : World}
  (H :
   ((i < (l1_l : Int)) →
    ∃ l1_pb l1_po : Nat, l1_p = some ⟨l1_pb, l1_po, none⟩ ∧
    (0 ≤ i ∧ i < l1_l) ∧
    ∃ (cw : List Value) (m_0 : Int) (m_1 : Int) (m_2 : ByteArray) (m_3 : Int) (m_4 : Int) (m_5 : Int) (m_6_p : Option Addr) (m_6_l : Nat) (m_6_c : Nat) (m_7 : Int) (m_8 : Int), blkW w0 l1_pb = some cw ∧ ((cw.drop (l1_po + ((Int.toNat i) * 9))).take 9 = [.int .i64 m_0, .int .i64 m_1, .string m_2, .int .i64 m_3, .int .i64 m_4, .int .i64 m_5, .slice m_6_p m_6_l m_6_c, .int .i64 m_7, .int .i64 m_8] ∧ (l1_po + ((Int.toNat i) * 9)) + 9 ≤ cw.length) ∧
    CallH Tryd.prog 20 ⟨[.agg #[.int .i64 m_0, .int .i64 m_1, .string m_2, .int .i64 m_3, .int .i64 m_4, .int .i64 m_5, .slice m_6_p m_6_l m_6_c, .int .i64 m_7, .int .i64 m_8]]⟩ [] [] w0 (fun v L' => ∃ (r1 : Bool), v = (.bool r1) ∧ L' = [] ∧
     ((r1 = true) →
      rvalidL_c1 (some ⟨l1_pb, l1_po, none⟩) l1_l l1_c i (0 : Int) w0 R) ∧
      ((r1 = false) →
      Fin R [] [] w0 (.bool false)))) ∧
    ((¬ (i < (l1_l : Int))) →
    Fin R [] [] w0 (.bool true))) :
  rvalidL_c0 l1_p l1_l l1_c i w0 R := by
 unfold rvalidL_c0
 refine AtE.run 8 (fun W => by kernel_rfl) ?_
 refine AtE.splitP 12 (p := i < (l1_l : Int)) (by kernel_rfl) (fun h2' => ?_) (fun h2' => ?_)
 ·replace H := H.1 h2'
  refine AtE.run 8 (fun W => by kernel_rfl) ?_
  obtain ⟨l1_pb, l1_po, rfl, H⟩ := H
  refine AtE.indexAddrL (E := 26) (b := l1_pb) (o := l1_po) (len := l1_l) (cap := l1_c) (sz := 9) (o' := (l1_po + ((Int.toNat i) * 9))) (kd := .i64) (i := i) (by kernel_rfl) H.1 (by omega) ?_
  replace H := H.2
  obtain ⟨cw, m_0, m_1, m_2, m_3, m_4, m_5, m_6_p, m_6_l, m_6_c, m_7, m_8, hw, hx, H⟩ := H
  refine AtE.loadW (b := l1_pb) (off := (l1_po + ((Int.toNat i) * 9))) (T := 26) (v := .agg #[.int .i64 m_0, .int .i64 m_1, .string m_2, .int .i64 m_3, .int .i64 m_4, .int .i64 m_5, .slice m_6_p m_6_l m_6_c, .int .i64 m_7, .int .i64 m_8]) (by kernel_rfl) List.not_mem_nil hw (valAt_agg hx.1 hx.2 (by kernel_rfl) (by kernel_rfl)) ?_
  refine AtE.call 20 ⟨[.agg #[.int .i64 m_0, .int .i64 m_1, .string m_2, .int .i64 m_3, .int .i64 m_4, .int .i64 m_5, .slice m_6_p m_6_l m_6_c, .int .i64 m_7, .int .i64 m_8]]⟩ (fun W => by kernel_rfl) (by kernel_rfl) H ?_
  clear H
  rintro _ _ ⟨r1, rfl, rfl, H⟩
  refine AtE.run 6 (fun W => by kernel_rfl) ?_
  refine AtE.split 20 (b := r1) (by kernel_rfl) (fun h3' => ?_) (fun h3' => ?_)
  ·replace H := H.1 h3'
   refine AtE.run 10 (fun W => by kernel_rfl) ?_
   exact AtE.cut [] H (by kernel_rfl)
  ·replace H := H.2 h3'
   refine AtE.run 7 (fun W => by kernel_rfl) ?_
   exact AtE.ret Tryd.func22 (by kernel_rfl) H
 ·replace H := H.2 h2'
  refine AtE.run 6 (fun W => by kernel_rfl) ?_
  exact AtE.ret Tryd.func22 (by kernel_rfl) H
theorem rvalidL_c1_vc (l2_p : Option Addr) (l2_l : Nat) (l2_c : Nat) (i1 : Int) (kv : Int) {R : Ending → World → Prop} {w0 : World}
  (H :
   ((kv < i1) →
    ∃ l2_pb l2_po : Nat, l2_p = some ⟨l2_pb, l2_po, none⟩ ∧
    (0 ≤ kv ∧ kv < l2_l) ∧
    ∃ (cw1 : List Value) (m11 : Int), blkW w0 l2_pb = some cw1 ∧ cw1[(l2_po + ((Int.toNat kv) * 9))]? = some (.int .i64 m11) ∧
    (0 ≤ i1 ∧ i1 < l2_l) ∧
    ∃ (cw2 : List Value) (m21 : Int), blkW w0 l2_pb = some cw2 ∧ cw2[(l2_po + ((Int.toNat i1) * 9))]? = some (.int .i64 m21) ∧
    ((m11 = m21) →
     Fin R [] [] w0 (.bool false)) ∧
     ((¬ (m11 = m21)) →
     ∀ kv1 : Int, kv1 = (IntKind.i64.wrap (kv + (1 : Int))) →
     rvalidL_c1 (some ⟨l2_pb, l2_po, none⟩) l2_l l2_c i1 kv1 w0 R)) ∧
    ((¬ (kv < i1)) →
    ∀ i2 : Int, i2 = (IntKind.i64.wrap (i1 + (1 : Int))) →
    rvalidL_c0 l2_p l2_l l2_c i2 w0 R)) :
  rvalidL_c1 l2_p l2_l l2_c i1 kv w0 R := by
 unfold rvalidL_c1
 refine AtE.run 7 (fun W => by kernel_rfl) ?_
 refine AtE.splitP 24 (p := kv < i1) (by kernel_rfl) (fun h4' => ?_) (fun h4' => ?_)
 ·replace H := H.1 h4'
  refine AtE.run 5 (fun W => by kernel_rfl) ?_
  refine AtE.norm (k' := [.code (EngB5s22 [1,1,0,1,0,0,1,0,0,1,1,1,0,0,1,0,0,0]), .code (EngB5s22 [1,1,0,1,0,0,1,0,0,1,1,1,0,0,1,0,0,1]), .inBlock 3, .code (EngB5s22 [1,1,0,1,0,0,1,0,0,1,1,1,0,0,1,1]), .inLoop (EngB5s22 [1,1,0,1,0,0,1,0,0,1,1,1,0,0]), .inBlock 2, .inBlock 1, .code (EngB5s22 [1,1,0,1,0,0,1,1]), .inLoop (EngB5s22 [1,1,0,1,0,0]), .inBlock 0, .code (EngB5s22 [1,1,1])]) (e' := [(0, .slice l2_p l2_l l2_c), (3, .int .i64 i1), (5, .int .i64 kv)]) (L' := []) ?_ (by kernel_rfl)
  refine AtE.draw 11 (by kernel_rfl) ?_
  refine AtQ.pure (by kernel_rfl) (fun W => by kernel_rfl) ?_
  refine AtQ.pure (by kernel_rfl) (fun W => by kernel_rfl) ?_
  obtain ⟨l2_pb, l2_po, rfl, H⟩ := H
  refine AtQ.indexAddrL (E := 26) (b := l2_pb) (o := l2_po) (len := l2_l) (cap := l2_c) (sz := 9) (o' := (l2_po + ((Int.toNat kv) * 9))) (kd := .i64) (i := kv) (by kernel_rfl) H.1 (by omega) ?_
  replace H := H.2
  refine AtQ.pure (by kernel_rfl) (fun W => by kernel_rfl) ?_
  obtain ⟨cw1, m11, hw, hx, H⟩ := H
  refine AtQ.loadW (b := l2_pb) (off := (l2_po + ((Int.toNat kv) * 9))) (T := 3) (v := .int .i64 m11) (by kernel_rfl) List.not_mem_nil hw (valAt_one hx (by kernel_rfl)) ?_
  refine AtQ.pure (by kernel_rfl) (fun W => by kernel_rfl) ?_
  refine AtQ.pure (by kernel_rfl) (fun W => by kernel_rfl) ?_
  refine AtQ.indexAddrL (E := 26) (b := l2_pb) (o := l2_po) (len := l2_l) (cap := l2_c) (sz := 9) (o' := (l2_po + ((Int.toNat i1) * 9))) (kd := .i64) (i := i1) (by kernel_rfl) H.1 (by omega) ?_
  replace H := H.2
  refine AtQ.pure (by kernel_rfl) (fun W => by kernel_rfl) ?_
  obtain ⟨cw2, m21, hw, hx, H⟩ := H
  refine AtQ.loadW (b := l2_pb) (off := (l2_po + ((Int.toNat i1) * 9))) (T := 3) (v := .int .i64 m21) (by kernel_rfl) List.not_mem_nil hw (valAt_one hx (by kernel_rfl)) ?_
  refine AtQ.pure (by kernel_rfl) (fun W => by kernel_rfl) ?_
  refine AtQ.done (by kernel_rfl) ?_
  refine AtE.run 1 (fun W => by kernel_rfl) ?_
  refine AtE.splitP 37 (p := m11 = m21) (by kernel_rfl) (fun h5' => ?_) (fun h5' => ?_)
  ·replace H := H.1 h5'
   refine AtE.run 5 (fun W => by kernel_rfl) ?_
   exact AtE.ret Tryd.func22 (by kernel_rfl) H
  ·replace H := H.2 h5'
   refine AtE.run 7 (fun W => by kernel_rfl) ?_
   refine AtE.letI 5 (kd := .i64) (n := (IntKind.i64.wrap (kv + (1 : Int)))) (by kernel_rfl) (fun kv1 hkv1 => ?_)
   replace H := H kv1 hkv1
   refine AtE.norm (k' := [.inRegion (regOps [.code (EngB5s22 [1,1,0,1,0,0,1,0,0,1,1,1,0,0,1,1])]) [], .inLoop (EngB5s22 [1,1,0,1,0,0,1,0,0,1,1,1,0,0]), .inBlock 2, .inBlock 1, .code (EngB5s22 [1,1,0,1,0,0,1,1]), .inLoop (EngB5s22 [1,1,0,1,0,0]), .inBlock 0, .code (EngB5s22 [1,1,1])]) (e' := [(0, .slice (some ⟨l2_pb, l2_po, none⟩) l2_l l2_c), (3, .int .i64 i1), (5, .int .i64 kv1)]) (L' := []) ?_ (by kernel_rfl)
   refine AtE.run 2 (fun W => by kernel_rfl) ?_
   exact AtE.cut [] H (by kernel_rfl)
 ·replace H := H.2 h4'
  refine AtE.run 7 (fun W => by kernel_rfl) ?_
  refine AtE.letI 3 (kd := .i64) (n := (IntKind.i64.wrap (i1 + (1 : Int)))) (by kernel_rfl) (fun i2 hi2 => ?_)
  replace H := H i2 hi2
  refine AtE.run 2 (fun W => by kernel_rfl) ?_
  exact AtE.cut [] H (by kernel_rfl)
theorem rvalidL_vc (l_p : Option Addr) (l_l : Nat) (l_c : Nat) {R : Ending → World → Prop} {w0 W : World} (hm : Mem [] [] w0 W)
  (H :
   (((24 : Int) < (l_l : Int)) →
    Fin R [] [] w0 (.bool false)) ∧
    ((¬ ((24 : Int) < (l_l : Int))) →
    rvalidL_c0 l_p l_l l_c (0 : Int) w0 R)) :
  Calls Tryd.prog 22 ⟨[.slice l_p l_l l_c]⟩ W R := by
 refine AtE.calls (nt := 38) Tryd.func22 (by kernel_rfl) hm ?_
 refine AtE.run 11 (fun W => by kernel_rfl) ?_
 refine AtE.splitP 8 (p := (24 : Int) < (l_l : Int)) (by kernel_rfl) (fun h1' => ?_) (fun h1' => ?_)
 ·replace H := H.1 h1'
  refine AtE.run 5 (fun W => by kernel_rfl) ?_
  exact AtE.ret Tryd.func22 (by kernel_rfl) H
 ·replace H := H.2 h1'
  refine AtE.run 9 (fun W => by kernel_rfl) ?_
  exact AtE.cut [] H (by kernel_rfl)
end Go.Eng
namespace Go.Eng
open Go Go.RowKit Go.Proofs Wire
set_option linter.unusedVariables false
abbrev rulesObj : Obj := .map #[{ key := .int .i64 (1 : Int), val := .agg #[.func (.func 64) #[] #[], .bool false, .func (.func 66) #[] #[]], born := 0 }, { key := .int .i64 (2 : Int), val := .agg #[.func (.func 64) #[] #[], .bool false, .func (.func 67) #[] #[]], born := 1 }, { key := .int .i64 (3 : Int), val := .agg #[.func (.func 65) #[] #[], .bool true, .func (.func 69) #[] #[]], born := 2 }, { key := .int .i64 (4 : Int), val := .agg #[.func (.func 64) #[] #[], .bool false, .func (.func 70) #[] #[]], born := 3 }, { key := .int .i64 (5 : Int), val := .agg #[.func (.func 71) #[] #[], .bool false, .func (.func 72) #[] #[]], born := 4 }] 5
theorem rules_e : EffC Tryd.prog 41 ⟨[]⟩ [] (fun v L' => ∃ mb : Nat, v = .map (some mb) ∧ L' = [(mb, rulesObj)]) := by
  intro W hm
  exact rules_vc (Mem.start [] W) fun B W' hm' => ⟨_, _, rfl, hm', B, rfl, rfl⟩
theorem CallH.rules {L : SHeap} {S : List Nat} {w0 : World} {K : Value → SHeap → Prop} (hK : ∀ mb : Nat, K (.map (some mb)) (L ++ [(mb, rulesObj)])) : CallH Tryd.prog 41 ⟨[]⟩ L S w0 K :=
  CallH.eff (L1 := L) rules_e (List.Perm.refl _) fun v L' ⟨mb, hv, hl⟩ => ⟨L ++ [(mb, rulesObj)], by rw [hl]; exact List.perm_append_comm, by rw [hv]; exact hK mb⟩
theorem ok_id {b : Blk} (h : ¬ (1 ≤ b.id ∧ b.id ≤ 1000)) : (Value.bool false) = .bool b.ok := by rw [Blk.ok, decide_eq_false h, Bool.false_and]
theorem ok_lab {b : Blk} (h : b.lab.ok = false) : (Value.bool false) = .bool b.ok := by rw [Blk.ok, h, Bool.false_and, Bool.and_false]
theorem ok_kind {b : Blk} (h : b.kindOk = false) : (Value.bool false) = .bool b.ok := by rw [Blk.ok, h, Bool.and_false, Bool.and_false]
theorem ok_yes {b : Blk} {v : Bool} (h : 1 ≤ b.id ∧ b.id ≤ 1000) (hl : b.lab.ok = true) (hk : v = b.kindOk) : (Value.bool v) = .bool b.ok := by rw [Blk.ok, decide_eq_true h, hl, hk, Bool.true_and, Bool.true_and]
theorem kind1 {b : Blk} (k : b.kind = 1) : b.kindOk = (fillOk b.text && b.noRef) := by rw [Blk.kindOk, if_pos k]
theorem kind2 {b : Blk} (k : b.kind = 2) : b.kindOk = (fillOk b.text && b.noRef) := by rw [Blk.kindOk, if_neg (by omega), if_pos k]
theorem kind3 {b : Blk} (k : b.kind = 3) : b.kindOk = (txtOk b.text && decide (1 ≤ b.story ∧ b.story ≤ 64 ∧ 1 ≤ b.ref ∧ b.ref ≤ 1000)) := by rw [Blk.kindOk, if_neg (by omega), if_neg (by omega), if_pos k]
theorem kind4 {b : Blk} (k : b.kind = 4) : b.kindOk = (fillOk b.text && b.noRef) := by rw [Blk.kindOk, if_neg (by omega), if_neg (by omega), if_neg (by omega), if_pos k]
theorem kind5 {b : Blk} (k : b.kind = 5) : b.kindOk = (nameOk b.text && b.noRef) := by rw [Blk.kindOk, if_neg (by omega), if_neg (by omega), if_neg (by omega), if_neg (by omega), if_pos k]
theorem kind0 {b : Blk} (k1 : ¬ b.kind = 1) (k2 : ¬ b.kind = 2) (k3 : ¬ b.kind = 3) (k4 : ¬ b.kind = 4) (k5 : ¬ b.kind = 5) : b.kindOk = false := by rw [Blk.kindOk, if_neg k1, if_neg k2, if_neg k3, if_neg k4, if_neg k5]
theorem noRef_of {b : Blk} (h : b.story = 0) : decide (b.ref = 0) = b.noRef := by simp [Blk.noRef, h]
theorem noRef_no {b : Blk} (h : ¬ b.story = 0) : b.noRef = false := by simp [Blk.noRef, h]
theorem quote_of {b : Blk} (h : 1 ≤ b.story) (h2 : b.story ≤ 64) (h3 : 1 ≤ b.ref) : decide (b.ref ≤ 1000) = decide (1 ≤ b.story ∧ b.story ≤ 64 ∧ 1 ≤ b.ref ∧ b.ref ≤ 1000) := by simp only [decide_eq_decide]; omega
theorem follows_c {W : World} {p : Option Addr} {c mb : Nat} {b : Blk} (h : IntsL (lkW W) p b.lab.after) (hf : b.Fits) (hmap : W.heap[mb]? = some rulesObj) :
    PW Tryd.prog 40 ⟨[.agg ⟨b.cells p c⟩, .map (some mb)]⟩ W (.bool b.ok) := by
  refine follows_vc b.id b.kind b.text b.story b.ref b.lab.unt p b.lab.after.length c b.lab.appr b.lab.den mb (Mem.start [] W) fun B => ⟨hmap, ?_⟩
  have hv : ∀ L W', Mem L [] W W' → PW Tryd.prog 63 ⟨[.agg ⟨b.lab.cells p c⟩]⟩ W' (.bool b.lab.ok) := fun L W' hm' => labValid_c (h.mono (lkW_kept hm')) hf.2
  refine ⟨fun k1 B1 => ?_, fun k1 => ⟨fun k2 B2 => ?_, fun k2 => ⟨fun k3 B3 => ?_, fun k3 => ⟨fun k4 B4 => ?_, fun k4 => ⟨fun k5 B5 => ?_, fun k5 B6 => finPW (ok_kind (kind0 k1 k2 k3 k4 k5))⟩⟩⟩⟩⟩
  · refine ⟨fun i1 => finPW (ok_id (by omega)), fun i1 => ⟨fun i2 => finPW (ok_id (by omega)), fun i2 => CallH.pw (hv _) ⟨_, rfl, rfl, fun hl => CallH.pure (rul1_c b.text hf.1) ⟨_, rfl, rfl, fun ht => ⟨fun q1 => finPW (ok_yes ⟨by omega, by omega⟩ hl ?_), fun q1 => finPW (ok_kind ?_)⟩, fun ht => finPW (ok_kind ?_)⟩, fun hl => finPW (ok_lab hl)⟩⟩⟩
    · rw [kind1 k1, ht, Bool.true_and, noRef_of q1]
    · rw [kind1 k1, noRef_no q1, Bool.and_false]
    · rw [kind1 k1, ht, Bool.false_and]
  · refine ⟨fun i1 => finPW (ok_id (by omega)), fun i1 => ⟨fun i2 => finPW (ok_id (by omega)), fun i2 => CallH.pw (hv _) ⟨_, rfl, rfl, fun hl => CallH.pure (rul1_c b.text hf.1) ⟨_, rfl, rfl, fun ht => ⟨fun q1 => finPW (ok_yes ⟨by omega, by omega⟩ hl ?_), fun q1 => finPW (ok_kind ?_)⟩, fun ht => finPW (ok_kind ?_)⟩, fun hl => finPW (ok_lab hl)⟩⟩⟩
    · rw [kind2 k2, ht, Bool.true_and, noRef_of q1]
    · rw [kind2 k2, noRef_no q1, Bool.and_false]
    · rw [kind2 k2, ht, Bool.false_and]
  · have fail : ¬ (1 ≤ b.story ∧ b.story ≤ 64 ∧ 1 ≤ b.ref ∧ b.ref ≤ 1000) → (Value.bool false) = .bool b.ok := fun hn => ok_kind (by rw [kind3 k3, decide_eq_false hn, Bool.and_false])
    refine ⟨fun i1 => finPW (ok_id (by omega)), fun i1 => ⟨fun i2 => finPW (ok_id (by omega)), fun i2 => CallH.pw (hv _) ⟨_, rfl, rfl, fun hl => CallH.pure (isText_c b.text hf.1) ⟨_, rfl, rfl, fun ht => ?_, fun ht => finPW (ok_kind ?_)⟩, fun hl => finPW (ok_lab hl)⟩⟩⟩
    · refine ⟨fun q1 => ⟨fun q2 => ⟨fun q3 => finPW (ok_yes ⟨by omega, by omega⟩ hl ?_), fun q3 => finPW (fail (by omega))⟩, fun q2 => finPW (fail (by omega))⟩, fun q1 => finPW (fail (by omega))⟩
      rw [kind3 k3, ht, Bool.true_and, quote_of q1 q2 q3]
    · rw [kind3 k3, ht, Bool.false_and]
  · refine ⟨fun i1 => finPW (ok_id (by omega)), fun i1 => ⟨fun i2 => finPW (ok_id (by omega)), fun i2 => CallH.pw (hv _) ⟨_, rfl, rfl, fun hl => CallH.pure (rul1_c b.text hf.1) ⟨_, rfl, rfl, fun ht => ⟨fun q1 => finPW (ok_yes ⟨by omega, by omega⟩ hl ?_), fun q1 => finPW (ok_kind ?_)⟩, fun ht => finPW (ok_kind ?_)⟩, fun hl => finPW (ok_lab hl)⟩⟩⟩
    · rw [kind4 k4, ht, Bool.true_and, noRef_of q1]
    · rw [kind4 k4, noRef_no q1, Bool.and_false]
    · rw [kind4 k4, ht, Bool.false_and]
  · refine ⟨fun i1 => finPW (ok_id (by omega)), fun i1 => ⟨fun i2 => finPW (ok_id (by omega)), fun i2 => CallH.pw (hv _) ⟨_, rfl, rfl, fun hl => CallH.pure (isName_c b.text hf.1) ⟨_, rfl, rfl, fun ht => ⟨fun q1 => finPW (ok_yes ⟨by omega, by omega⟩ hl ?_), fun q1 => finPW (ok_kind ?_)⟩, fun ht => finPW (ok_kind ?_)⟩, fun hl => finPW (ok_lab hl)⟩⟩⟩
    · rw [kind5 k5, ht, Bool.true_and, noRef_of q1]
    · rw [kind5 k5, noRef_no q1, Bool.and_false]
    · rw [kind5 k5, ht, Bool.false_and]
theorem valid_c {W : World} {p : Option Addr} {c : Nat} {b : Blk} (h : IntsL (lkW W) p b.lab.after) (hf : b.Fits) : PW Tryd.prog 19 ⟨[.agg ⟨b.cells p c⟩]⟩ W (.bool b.ok) := by
  refine valid_vc b.id b.kind b.text b.story b.ref b.lab.unt p b.lab.after.length c b.lab.appr b.lab.den (Mem.start [] W) fun B => ?_
  refine CallH.rules fun mb => ⟨mb, rfl, rfl, ?_⟩
  refine CallH.pw (fun W' hm' => follows_c (h.mono (lkW_kept hm')) hf (hm'.here (mb, rulesObj) (by simp))) ⟨_, rfl, rfl, finPW rfl⟩
theorem fill_of {s : ByteArray} (h : ¬ s = (⟨#[]⟩ : ByteArray)) (ht : txtOk s = true) : fillOk s = true := by
  rw [fillOk, ht, decide_eq_true (show s.size ≠ 0 from fun h0 => h (ba_nil.2 h0))]; rfl
theorem fill_nil {s : ByteArray} (h : s = (⟨#[]⟩ : ByteArray)) : fillOk s = false := by
  rw [fillOk, decide_eq_false (show ¬ s.size ≠ 0 from fun h0 => h0 (ba_nil.1 h)), Bool.false_and]
theorem txt_kind {b : Blk} (ht : txtOk b.text = false) : b.kindOk = false := by
  have hn : nameOk b.text = false := by
    cases h : nameOk b.text with
    | false => rfl
    | true => rw [name_txt h] at ht; cases ht
  have hf : fillOk b.text = false := by rw [fillOk, ht, Bool.and_false]
  unfold Blk.kindOk
  simp only [hn, hf, ht, Bool.false_and]
  repeat' split
  all_goals rfl
theorem rvalid_c {W : World} {p : Option Addr} {c : Nat} {b : Blk} (h : IntsL (lkW W) p b.lab.after) (hf : b.Fits) : PW Tryd.prog 20 ⟨[.agg ⟨b.cells p c⟩]⟩ W (.bool b.ok) := by
  refine rvalid_vc b.id b.kind b.text b.story b.ref b.lab.unt p b.lab.after.length c b.lab.appr b.lab.den (Mem.start [] W) fun B => ?_
  refine CallH.pure (rIsText_c b.text hf.1) ⟨_, rfl, rfl, ?_⟩
  refine CallH.pw (fun W' hm' => rlabValid_c (h.mono (lkW_kept hm')) hf.2) ⟨_, rfl, rfl, ?_⟩
  refine ⟨fun i1 => finPW (ok_id (by omega)), fun i1 => ⟨fun i2 => finPW (ok_id (by omega)), fun i2 => ⟨fun ht => ⟨fun hl => ?_, fun hl => finPW (ok_lab hl)⟩, fun ht => finPW (ok_kind (txt_kind ht))⟩⟩⟩
  have hid : 1 ≤ b.id ∧ b.id ≤ 1000 := ⟨by omega, by omega⟩
  refine ⟨fun k1 => ⟨fun e => ⟨fun q => finPW (ok_yes hid hl ?_), fun q => finPW (ok_kind ?_)⟩, fun e => finPW (ok_kind ?_)⟩, fun k1 => ⟨fun k2 => ⟨fun e => ⟨fun q => finPW (ok_yes hid hl ?_), fun q => finPW (ok_kind ?_)⟩, fun e => finPW (ok_kind ?_)⟩, fun k2 => ⟨fun k4 => ⟨fun e => ⟨fun q => finPW (ok_yes hid hl ?_), fun q => finPW (ok_kind ?_)⟩, fun e => finPW (ok_kind ?_)⟩, fun k4 => ⟨fun k5 => ?_, fun k5 => ⟨fun k3 => ?_, fun k3 => finPW (ok_kind (kind0 k1 k2 k3 k4 k5))⟩⟩⟩⟩⟩
  · rw [kind1 k1, fill_of e ht, Bool.true_and, noRef_of q]
  · rw [kind1 k1, noRef_no q, Bool.and_false]
  · rw [kind1 k1, fill_nil e, Bool.false_and]
  · rw [kind2 k2, fill_of e ht, Bool.true_and, noRef_of q]
  · rw [kind2 k2, noRef_no q, Bool.and_false]
  · rw [kind2 k2, fill_nil e, Bool.false_and]
  · rw [kind4 k4, fill_of e ht, Bool.true_and, noRef_of q]
  · rw [kind4 k4, noRef_no q, Bool.and_false]
  · rw [kind4 k4, fill_nil e, Bool.false_and]
  · refine CallH.pure (rIsName_c b.text hf.1) ⟨_, rfl, rfl, fun hn => ⟨fun q => finPW (ok_yes hid hl ?_), fun q => finPW (ok_kind ?_)⟩, fun hn => finPW (ok_kind ?_)⟩
    · rw [kind5 k5, hn, Bool.true_and, noRef_of q]
    · rw [kind5 k5, noRef_no q, Bool.and_false]
    · rw [kind5 k5, hn, Bool.false_and]
  · have fail : ¬ (1 ≤ b.story ∧ b.story ≤ 64 ∧ 1 ≤ b.ref ∧ b.ref ≤ 1000) → (Value.bool false) = .bool b.ok := fun hn => ok_kind (by rw [kind3 k3, decide_eq_false hn, Bool.and_false])
    refine ⟨fun q1 => ⟨fun q2 => ⟨fun q3 => finPW (ok_yes hid hl ?_), fun q3 => finPW (fail (by omega))⟩, fun q2 => finPW (fail (by omega))⟩, fun q1 => finPW (fail (by omega))⟩
    rw [kind3 k3, ht, Bool.true_and, quote_of q1 q2 q3]
theorem head_at {c : List Value} {n : Nat} {v : Value} {r : List Value} (h : (c.drop n).take 9 = v :: r) : c[n]? = some v := by
  have : ((c.drop n).take 9)[0]? = some v := by rw [h]; rfl
  rw [List.getElem?_take_of_lt (by decide), List.getElem?_drop] at this
  simpa using this
def dupGo (l : List Blk) (b : Blk) (k : Nat) : Bool := (l.drop k).all fun e => decide (e.id ≠ b.id)
theorem dup_step {l : List Blk} {b : Blk} {k : Nat} (h : k < l.length) : dupGo l b k = (decide (l[k].id ≠ b.id) && dupGo l b (k + 1)) := by
  unfold dupGo
  rw [List.drop_eq_getElem_cons h, List.all_cons]
theorem dup_end {l : List Blk} {b : Blk} {k : Nat} (h : l.length ≤ k) : dupGo l b k = true := by
  unfold dupGo; rw [List.drop_of_length_le h]; rfl
def okGo (l : List Blk) (i : Nat) : Bool := listGo (l.take i) (l.drop i)
theorem okGo_step {l : List Blk} {i : Nat} (h : i < l.length) : okGo l i = (l[i].ok && (dupGo (l.take i) l[i] 0 && okGo l (i + 1))) := by
  unfold okGo dupGo
  rw [List.drop_eq_getElem_cons h, listGo, List.drop_zero]
  congr 2
  rw [List.take_add_one, List.getElem?_eq_getElem h]; rfl
theorem okGo_end {l : List Blk} {i : Nat} (h : l.length ≤ i) : okGo l i = true := by
  unfold okGo; rw [List.drop_of_length_le h]; rfl
theorem validL_loop {w0 : World} {p : Option Addr} {c mb : Nat} {R : Ending → World → Prop} {l : List Blk} (hl : BlksL (lkW w0) p l) (hn : l.length ≤ 24) (hc : l.length ≤ c) (HR : ∀ L v, Fin R [] [] w0 v → Fin R L [] w0 v) :
    ∀ (g i : Nat), g + i = l.length → Fin R [] [] w0 (.bool (okGo l i)) → validL_c0 mb p l.length c p l.length c (l.length : Int) (i : Int) w0 R
  | 0, i, hg, H => by
    apply validL_c0_vc
    refine no (by omega) (HR _ _ (finEq H ?_))
    rw [okGo_end (by omega)]
  | g + 1, i, hg, H => by
    apply validL_c0_vc
    have hi : i < l.length := by omega
    obtain ⟨B1, o1, c1, rfl, e2, e3, p6, c6, e4, e5, e6⟩ := hl.get hi
    rw [okGo_step hi] at H
    refine yes (by omega) ⟨B1, o1, rfl, by omega, c1, l[i].id, l[i].kind, l[i].text, l[i].story, l[i].ref, l[i].lab.unt, p6, l[i].lab.after.length, c6, l[i].lab.appr, l[i].lab.den, e2, ⟨by simpa using e4, by simpa using e3⟩, fun B2 => ?_⟩
    refine CallH.pw (fun W' hm' => follows_c (e5.mono (lkW_kept hm')) e6 (hm'.here (mb, rulesObj) (by simp))) ⟨_, rfl, rfl, fun hok => ⟨by omega, ?_⟩, fun hok => HR _ _ (finEq H ?_)⟩
    · rw [hok, Bool.true_and] at H
      rw [Int.toNat_natCast]
      have inner : ∀ (q k : Nat), q + k = i → Fin R [] [] w0 (.bool (dupGo (l.take i) l[i] k && okGo l (i + 1))) →
          validL_c1 mb B2 (some ⟨B1, o1, none⟩) l.length c (some ⟨B1, o1, none⟩) l.length c (l.length : Int) (i : Int) (some ⟨B1, o1, none⟩) i c (i : Int) (k : Int) l[i].id l[i].kind l[i].text l[i].story l[i].ref l[i].lab.unt p6 l[i].lab.after.length c6 l[i].lab.appr l[i].lab.den w0 R := by
        intro q
        induction q with
        | zero =>
          intro k hk HH
          apply validL_c1_vc
          refine no (by omega) ?_
          rw [wi64 (by omega), show (i : Int) + 1 = ((i + 1 : Nat) : Int) by omega]
          refine validL_loop hl hn hc HR g (i + 1) (by omega) (finEq HH ?_)
          rw [dup_end (by rw [List.length_take]; omega), Bool.true_and]
        | succ q ih =>
          intro k hk HH
          apply validL_c1_vc
          have hk1 : k < l.length := by omega
          have hk2 : k < (l.take i).length := by rw [List.length_take]; omega
          obtain ⟨B3, o3, c3, he, f2, f3, p7, c7, f4, f5, f6⟩ := hl.get hk1
          cases he
          have hget : (l.take i)[k] = l[k] := List.getElem_take
          rw [dup_step hk2, hget] at HH
          refine yes (by omega) ⟨B1, o1, rfl, by omega, c3, l[k].id, l[k].kind, l[k].text, l[k].story, l[k].ref, l[k].lab.unt, p7, l[k].lab.after.length, c7, l[k].lab.appr, l[k].lab.den, f2, ⟨by simpa using f4, by simpa using f3⟩, fun B4 => ⟨fun hd => HR _ _ (finEq HH ?_), fun hd => ?_⟩⟩
          · rw [decide_eq_false (show ¬ l[k].id ≠ l[i].id from fun h => h hd), Bool.false_and, Bool.false_and]
          · rw [wi64 (by omega), show (k : Int) + 1 = ((k + 1 : Nat) : Int) by omega]
            refine ih (k + 1) (by omega) (finEq HH ?_)
            rw [decide_eq_true (show l[k].id ≠ l[i].id from hd), Bool.true_and]
      exact inner i 0 (by omega) H
    · rw [hok, Bool.false_and]
theorem validL_c {W : World} {p : Option Addr} {c : Nat} {l : List Blk} (hl : BlksL (lkW W) p l) (hc : l.length ≤ c) : PW Tryd.prog 21 ⟨[.slice p l.length c]⟩ W (.bool (listOk l)) := by
  refine validL_vc p l.length c (Mem.start [] W) ⟨fun h => finPW ?_, fun h => CallH.rules fun mb => ⟨mb, rfl, rfl, validL_loop hl (by omega) hc pwLoose l.length 0 (by omega) (finPW ?_)⟩⟩
  · rw [listOk, decide_eq_false (by omega), Bool.false_and]
  · rw [listOk, decide_eq_true (by omega), Bool.true_and]; rfl
theorem rvalidL_loop {w0 : World} {p : Option Addr} {c : Nat} {R : Ending → World → Prop} {l : List Blk} (hl : BlksL (lkW w0) p l) (hn : l.length ≤ 24) :
    ∀ (g i : Nat), g + i = l.length → Fin R [] [] w0 (.bool (okGo l i)) → rvalidL_c0 p l.length c (i : Int) w0 R
  | 0, i, hg, H => by
    apply rvalidL_c0_vc
    refine no (by omega) (finEq H ?_)
    rw [okGo_end (by omega)]
  | g + 1, i, hg, H => by
    apply rvalidL_c0_vc
    have hi : i < l.length := by omega
    obtain ⟨B1, o1, c1, rfl, e2, e3, p6, c6, e4, e5, e6⟩ := hl.get hi
    rw [okGo_step hi] at H
    refine yes (by omega) ⟨B1, o1, rfl, by omega, c1, l[i].id, l[i].kind, l[i].text, l[i].story, l[i].ref, l[i].lab.unt, p6, l[i].lab.after.length, c6, l[i].lab.appr, l[i].lab.den, e2, ⟨by simpa using e4, by simpa using e3⟩, ?_⟩
    refine CallH.pw (fun W' hm' => rvalid_c (e5.mono (lkW_kept hm')) e6) ⟨_, rfl, rfl, fun hok => ?_, fun hok => finEq H ?_⟩
    · rw [hok, Bool.true_and] at H
      have inner : ∀ (q k : Nat), q + k = i → Fin R [] [] w0 (.bool (dupGo (l.take i) l[i] k && okGo l (i + 1))) →
          rvalidL_c1 (some ⟨B1, o1, none⟩) l.length c (i : Int) (k : Int) w0 R := by
        intro q
        induction q with
        | zero =>
          intro k hk HH
          apply rvalidL_c1_vc
          refine no (by omega) ?_
          rintro _ rfl
          rw [wi64 (by omega), show (i : Int) + 1 = ((i + 1 : Nat) : Int) by omega]
          refine rvalidL_loop hl hn g (i + 1) (by omega) (finEq HH ?_)
          rw [dup_end (by rw [List.length_take]; omega), Bool.true_and]
        | succ q ih =>
          intro k hk HH
          apply rvalidL_c1_vc
          have hk1 : k < l.length := by omega
          have hk2 : k < (l.take i).length := by rw [List.length_take]; omega
          obtain ⟨B3, o3, c3, he, f2, f3, p7, c7, f4, f5, f6⟩ := hl.get hk1
          cases he
          have hget : (l.take i)[k] = l[k] := List.getElem_take
          rw [dup_step hk2, hget] at HH
          refine yes (by omega) ⟨B1, o1, rfl, by omega, c3, l[k].id, f2, by simpa using head_at f4, by omega, c1, l[i].id, e2, by simpa using head_at e4, fun hd => finEq HH ?_, fun hd => ?_⟩
          · rw [decide_eq_false (show ¬ l[k].id ≠ l[i].id from fun h => h hd), Bool.false_and, Bool.false_and]
          · rintro _ rfl
            rw [wi64 (by omega), show (k : Int) + 1 = ((k + 1 : Nat) : Int) by omega]
            refine ih (k + 1) (by omega) (finEq HH ?_)
            rw [decide_eq_true (show l[k].id ≠ l[i].id from hd), Bool.true_and]
      exact inner i 0 (by omega) H
    · rw [hok, Bool.false_and]
theorem rvalidL_c {W : World} {p : Option Addr} {c : Nat} {l : List Blk} (hl : BlksL (lkW W) p l) : PW Tryd.prog 22 ⟨[.slice p l.length c]⟩ W (.bool (listOk l)) := by
  refine rvalidL_vc p l.length c (Mem.start [] W) ⟨fun h => finPW ?_, fun h => rvalidL_loop hl (by omega) l.length 0 (by omega) (finPW ?_)⟩
  · rw [listOk, decide_eq_false (by omega), Bool.false_and]
  · rw [listOk, decide_eq_true (by omega), Bool.true_and]; rfl
end Go.Eng
namespace Go.Eng
open Go Go.RowKit Go.Proofs
set_option linter.unusedVariables false
set_option maxRecDepth 100000
noncomputable abbrev EngB6s23 := sub (Eng.body Tryd.f23)
noncomputable abbrev EngB6s24 := sub (Eng.body Tryd.f24)
noncomputable abbrev EngB6s26 := sub (Eng.body Tryd.f26)
noncomputable abbrev EngB6s47 := sub (Eng.body Tryd.f47)
theorem same_vc (xi : Int) (xk : Int) (xt : ByteArray) (xs : Int) (xr : Int) (xu : Int) (xp : Option Addr) (xl : Nat) (xc : Nat) (xa : Int) (xd : Int) (yi : Int) (yk : Int) (yt : ByteArray) (ys : Int) (yr : Int) (yu : Int) (yp : Option Addr) (yl : Nat) (yc : Nat) (ya : Int) (yd : Int) {R : Ending → World → Prop} {w0 W : World} (hm : Mem [] [] w0 W)
  (H :
   ∀ B : Nat,
   ∀ B1 : Nat,
   ((xi = yi) →
    ((xk = yk) →
     ((xt = yt) →
      ((xs = ys) →
       ((xr = yr) →
        CallH Tryd.prog 45 ⟨[.agg #[.int .i64 xu, .slice xp xl xc, .int .i64 xa, .int .i64 xd], .agg #[.int .i64 yu, .slice yp yl yc, .int .i64 ya, .int .i64 yd]]⟩ [(B, .cells #[.int .i64 xi, .int .i64 xk, .string xt, .int .i64 xs, .int .i64 xr, .int .i64 xu, .slice xp xl xc, .int .i64 xa, .int .i64 xd] 26), (B1, .cells #[.int .i64 yi, .int .i64 yk, .string yt, .int .i64 ys, .int .i64 yr, .int .i64 yu, .slice yp yl yc, .int .i64 ya, .int .i64 yd] 26)] [] w0 (fun v L' => ∃ (r1 : Bool), v = (.bool r1) ∧ L' = [(B, .cells #[.int .i64 xi, .int .i64 xk, .string xt, .int .i64 xs, .int .i64 xr, .int .i64 xu, .slice xp xl xc, .int .i64 xa, .int .i64 xd] 26), (B1, .cells #[.int .i64 yi, .int .i64 yk, .string yt, .int .i64 ys, .int .i64 yr, .int .i64 yu, .slice yp yl yc, .int .i64 ya, .int .i64 yd] 26)] ∧
         Fin R [(B, .cells #[.int .i64 xi, .int .i64 xk, .string xt, .int .i64 xs, .int .i64 xr, .int .i64 xu, .slice xp xl xc, .int .i64 xa, .int .i64 xd] 26), (B1, .cells #[.int .i64 yi, .int .i64 yk, .string yt, .int .i64 ys, .int .i64 yr, .int .i64 yu, .slice yp yl yc, .int .i64 ya, .int .i64 yd] 26)] [] w0 (.bool r1))) ∧
        ((¬ (xr = yr)) →
        Fin R [(B, .cells #[.int .i64 xi, .int .i64 xk, .string xt, .int .i64 xs, .int .i64 xr, .int .i64 xu, .slice xp xl xc, .int .i64 xa, .int .i64 xd] 26), (B1, .cells #[.int .i64 yi, .int .i64 yk, .string yt, .int .i64 ys, .int .i64 yr, .int .i64 yu, .slice yp yl yc, .int .i64 ya, .int .i64 yd] 26)] [] w0 (.bool false))) ∧
       ((¬ (xs = ys)) →
       Fin R [(B, .cells #[.int .i64 xi, .int .i64 xk, .string xt, .int .i64 xs, .int .i64 xr, .int .i64 xu, .slice xp xl xc, .int .i64 xa, .int .i64 xd] 26), (B1, .cells #[.int .i64 yi, .int .i64 yk, .string yt, .int .i64 ys, .int .i64 yr, .int .i64 yu, .slice yp yl yc, .int .i64 ya, .int .i64 yd] 26)] [] w0 (.bool false))) ∧
      ((¬ xt = yt) →
      Fin R [(B, .cells #[.int .i64 xi, .int .i64 xk, .string xt, .int .i64 xs, .int .i64 xr, .int .i64 xu, .slice xp xl xc, .int .i64 xa, .int .i64 xd] 26), (B1, .cells #[.int .i64 yi, .int .i64 yk, .string yt, .int .i64 ys, .int .i64 yr, .int .i64 yu, .slice yp yl yc, .int .i64 ya, .int .i64 yd] 26)] [] w0 (.bool false))) ∧
     ((¬ (xk = yk)) →
     Fin R [(B, .cells #[.int .i64 xi, .int .i64 xk, .string xt, .int .i64 xs, .int .i64 xr, .int .i64 xu, .slice xp xl xc, .int .i64 xa, .int .i64 xd] 26), (B1, .cells #[.int .i64 yi, .int .i64 yk, .string yt, .int .i64 ys, .int .i64 yr, .int .i64 yu, .slice yp yl yc, .int .i64 ya, .int .i64 yd] 26)] [] w0 (.bool false))) ∧
    ((¬ (xi = yi)) →
    Fin R [(B, .cells #[.int .i64 xi, .int .i64 xk, .string xt, .int .i64 xs, .int .i64 xr, .int .i64 xu, .slice xp xl xc, .int .i64 xa, .int .i64 xd] 26), (B1, .cells #[.int .i64 yi, .int .i64 yk, .string yt, .int .i64 ys, .int .i64 yr, .int .i64 yu, .slice yp yl yc, .int .i64 ya, .int .i64 yd] 26)] [] w0 (.bool false))) :
  Calls Tryd.prog 23 ⟨[.agg #[.int .i64 xi, .int .i64 xk, .string xt, .int .i64 xs, .int .i64 xr, .int .i64 xu, .slice xp xl xc, .int .i64 xa, .int .i64 xd], .agg #[.int .i64 yi, .int .i64 yk, .string yt, .int .i64 ys, .int .i64 yr, .int .i64 yu, .slice yp yl yc, .int .i64 ya, .int .i64 yd]]⟩ W R := by
 refine AtE.calls (nt := 45) Tryd.func23 (by kernel_rfl) hm ?_
 refine AtE.run 2 (fun W => by kernel_rfl) ?_
 refine AtE.new (fun B => .pointer (some ⟨B, 0, none⟩)) (.cells #[.int .i64 xi, .int .i64 xk, .string xt, .int .i64 xs, .int .i64 xr, .int .i64 xu, .slice xp xl xc, .int .i64 xa, .int .i64 xd] 26) (fun W => by kernel_rfl) (by kernel_rfl) (fun B => ?_)
 replace H := H B
 refine AtE.new (fun B => .pointer (some ⟨B, 0, none⟩)) (.cells #[.int .i64 yi, .int .i64 yk, .string yt, .int .i64 ys, .int .i64 yr, .int .i64 yu, .slice yp yl yc, .int .i64 ya, .int .i64 yd] 26) (fun W => by kernel_rfl) (by kernel_rfl) (fun B1 => ?_)
 replace H := H B1
 refine AtE.run 5 (fun W => by kernel_rfl) ?_
 refine AtE.load 0 0 (T := 3) (v := .int .i64 xi) (by kernel_rfl) ?_
 refine AtE.run 1 (fun W => by kernel_rfl) ?_
 refine AtE.load 1 0 (T := 3) (v := .int .i64 yi) (by kernel_rfl) ?_
 refine AtE.run 2 (fun W => by kernel_rfl) ?_
 refine AtE.splitP 10 (p := xi = yi) (by kernel_rfl) (fun h1' => ?_) (fun h1' => ?_)
 ·replace H := H.1 h1'
  refine AtE.run 1 (fun W => by kernel_rfl) ?_
  refine AtE.load 0 1 (T := 3) (v := .int .i64 xk) (by kernel_rfl) ?_
  refine AtE.run 1 (fun W => by kernel_rfl) ?_
  refine AtE.load 1 1 (T := 3) (v := .int .i64 yk) (by kernel_rfl) ?_
  refine AtE.norm (k' := [.inRegion (regOps [.code (EngB6s23 [1,0])]) [10,11,12,13,14,15,16,17,18,19,20,21,22,23,24,25,26,27,28,29,30,31,32,33,34,35,36,37,38,39,40], .code (EngB6s23 [1,1])]) (e' := [(2, .pointer (some ⟨B, 0, none⟩)), (3, .pointer (some ⟨B1, 0, none⟩)), (10, .bool true), (12, .int .i64 xk), (14, .int .i64 yk)]) (L' := [(B, .cells #[.int .i64 xi, .int .i64 xk, .string xt, .int .i64 xs, .int .i64 xr, .int .i64 xu, .slice xp xl xc, .int .i64 xa, .int .i64 xd] 26), (B1, .cells #[.int .i64 yi, .int .i64 yk, .string yt, .int .i64 ys, .int .i64 yr, .int .i64 yu, .slice yp yl yc, .int .i64 ya, .int .i64 yd] 26)]) ?_ (by kernel_rfl)
  refine AtE.run 3 (fun W => by kernel_rfl) ?_
  refine AtE.splitP 17 (p := xk = yk) (by kernel_rfl) (fun h2' => ?_) (fun h2' => ?_)
  ·replace H := H.1 h2'
   refine AtE.run 1 (fun W => by kernel_rfl) ?_
   refine AtE.load 0 2 (T := 9) (v := .string xt) (by kernel_rfl) ?_
   refine AtE.run 1 (fun W => by kernel_rfl) ?_
   refine AtE.load 1 2 (T := 9) (v := .string yt) (by kernel_rfl) ?_
   refine AtE.run 3 (fun W => by kernel_rfl) ?_
   refine AtE.splitS 24 (x := xt) (y := yt) (by kernel_rfl) (fun h3' => ?_) (fun h3' => ?_)
   ·replace H := H.1 h3'
    refine AtE.run 1 (fun W => by kernel_rfl) ?_
    refine AtE.load 0 3 (T := 3) (v := .int .i64 xs) (by kernel_rfl) ?_
    refine AtE.run 1 (fun W => by kernel_rfl) ?_
    refine AtE.load 1 3 (T := 3) (v := .int .i64 ys) (by kernel_rfl) ?_
    refine AtE.run 3 (fun W => by kernel_rfl) ?_
    refine AtE.splitP 31 (p := xs = ys) (by kernel_rfl) (fun h4' => ?_) (fun h4' => ?_)
    ·replace H := H.1 h4'
     refine AtE.norm (k' := [.inRegion (regOps [.code (EngB6s23 [1,0])]) [27,28,29,30,31,32,33,34,35,36,37,38,39,40], .code (EngB6s23 [1,1])]) (e' := [(2, .pointer (some ⟨B, 0, none⟩)), (3, .pointer (some ⟨B1, 0, none⟩)), (31, .bool true)]) (L' := [(B, .cells #[.int .i64 xi, .int .i64 xk, .string xt, .int .i64 xs, .int .i64 xr, .int .i64 xu, .slice xp xl xc, .int .i64 xa, .int .i64 xd] 26), (B1, .cells #[.int .i64 yi, .int .i64 yk, .string yt, .int .i64 ys, .int .i64 yr, .int .i64 yu, .slice yp yl yc, .int .i64 ya, .int .i64 yd] 26)]) ?_ (by kernel_rfl)
     refine AtE.run 1 (fun W => by kernel_rfl) ?_
     refine AtE.load 0 4 (T := 3) (v := .int .i64 xr) (by kernel_rfl) ?_
     refine AtE.run 1 (fun W => by kernel_rfl) ?_
     refine AtE.load 1 4 (T := 3) (v := .int .i64 yr) (by kernel_rfl) ?_
     refine AtE.run 3 (fun W => by kernel_rfl) ?_
     refine AtE.splitP 38 (p := xr = yr) (by kernel_rfl) (fun h5' => ?_) (fun h5' => ?_)
     ·replace H := H.1 h5'
      refine AtE.run 1 (fun W => by kernel_rfl) ?_
      refine AtE.load 0 5 (T := 24) (v := .agg #[.int .i64 xu, .slice xp xl xc, .int .i64 xa, .int .i64 xd]) (by kernel_rfl) ?_
      refine AtE.run 1 (fun W => by kernel_rfl) ?_
      refine AtE.load 1 5 (T := 24) (v := .agg #[.int .i64 yu, .slice yp yl yc, .int .i64 ya, .int .i64 yd]) (by kernel_rfl) ?_
      refine AtE.call 45 ⟨[.agg #[.int .i64 xu, .slice xp xl xc, .int .i64 xa, .int .i64 xd], .agg #[.int .i64 yu, .slice yp yl yc, .int .i64 ya, .int .i64 yd]]⟩ (fun W => by kernel_rfl) (by kernel_rfl) H ?_
      clear H
      rintro _ _ ⟨r1, rfl, rfl, H⟩
      refine AtE.run 3 (fun W => by kernel_rfl) ?_
      exact AtE.ret Tryd.func23 (by kernel_rfl) H
     ·replace H := H.2 h5'
      refine AtE.run 8 (fun W => by kernel_rfl) ?_
      exact AtE.ret Tryd.func23 (by kernel_rfl) H
    ·replace H := H.2 h4'
     refine AtE.norm (k' := [.inRegion (regOps [.code (EngB6s23 [1,0])]) [27,28,29,30,31,32,33,34,35,36,37,38,39,40], .code (EngB6s23 [1,1])]) (e' := [(2, .pointer (some ⟨B, 0, none⟩)), (3, .pointer (some ⟨B1, 0, none⟩)), (31, .bool false)]) (L' := [(B, .cells #[.int .i64 xi, .int .i64 xk, .string xt, .int .i64 xs, .int .i64 xr, .int .i64 xu, .slice xp xl xc, .int .i64 xa, .int .i64 xd] 26), (B1, .cells #[.int .i64 yi, .int .i64 yk, .string yt, .int .i64 ys, .int .i64 yr, .int .i64 yu, .slice yp yl yc, .int .i64 ya, .int .i64 yd] 26)]) ?_ (by kernel_rfl)
     refine AtE.run 15 (fun W => by kernel_rfl) ?_
     exact AtE.ret Tryd.func23 (by kernel_rfl) H
   ·replace H := H.2 h3'
    refine AtE.run 22 (fun W => by kernel_rfl) ?_
    exact AtE.ret Tryd.func23 (by kernel_rfl) H
  ·replace H := H.2 h2'
   refine AtE.run 29 (fun W => by kernel_rfl) ?_
   exact AtE.ret Tryd.func23 (by kernel_rfl) H
 ·replace H := H.2 h1'
  refine AtE.run 36 (fun W => by kernel_rfl) ?_
  exact AtE.ret Tryd.func23 (by kernel_rfl) H
theorem rsame_vc (xi : Int) (xk : Int) (xt : ByteArray) (xs : Int) (xr : Int) (xu : Int) (xp : Option Addr) (xl : Nat) (xc : Nat) (xa : Int) (xd : Int) (yi : Int) (yk : Int) (yt : ByteArray) (ys : Int) (yr : Int) (yu : Int) (yp : Option Addr) (yl : Nat) (yc : Nat) (ya : Int) (yd : Int) {R : Ending → World → Prop} {w0 W : World} (hm : Mem [] [] w0 W)
  (H :
   ∀ B : Nat,
   ∀ B1 : Nat,
   ((xi = yi) →
    ((xk = yk) →
     ((xt = yt) →
      ((xs = ys) →
       ((xr = yr) →
        CallH Tryd.prog 46 ⟨[.agg #[.int .i64 xu, .slice xp xl xc, .int .i64 xa, .int .i64 xd], .agg #[.int .i64 yu, .slice yp yl yc, .int .i64 ya, .int .i64 yd]]⟩ [(B, .cells #[.int .i64 xi, .int .i64 xk, .string xt, .int .i64 xs, .int .i64 xr, .int .i64 xu, .slice xp xl xc, .int .i64 xa, .int .i64 xd] 26), (B1, .cells #[.int .i64 yi, .int .i64 yk, .string yt, .int .i64 ys, .int .i64 yr, .int .i64 yu, .slice yp yl yc, .int .i64 ya, .int .i64 yd] 26)] [] w0 (fun v L' => ∃ (r1 : Bool), v = (.bool r1) ∧ L' = [(B, .cells #[.int .i64 xi, .int .i64 xk, .string xt, .int .i64 xs, .int .i64 xr, .int .i64 xu, .slice xp xl xc, .int .i64 xa, .int .i64 xd] 26), (B1, .cells #[.int .i64 yi, .int .i64 yk, .string yt, .int .i64 ys, .int .i64 yr, .int .i64 yu, .slice yp yl yc, .int .i64 ya, .int .i64 yd] 26)] ∧
         Fin R [(B, .cells #[.int .i64 xi, .int .i64 xk, .string xt, .int .i64 xs, .int .i64 xr, .int .i64 xu, .slice xp xl xc, .int .i64 xa, .int .i64 xd] 26), (B1, .cells #[.int .i64 yi, .int .i64 yk, .string yt, .int .i64 ys, .int .i64 yr, .int .i64 yu, .slice yp yl yc, .int .i64 ya, .int .i64 yd] 26)] [] w0 (.bool r1))) ∧
        ((¬ (xr = yr)) →
        Fin R [(B, .cells #[.int .i64 xi, .int .i64 xk, .string xt, .int .i64 xs, .int .i64 xr, .int .i64 xu, .slice xp xl xc, .int .i64 xa, .int .i64 xd] 26), (B1, .cells #[.int .i64 yi, .int .i64 yk, .string yt, .int .i64 ys, .int .i64 yr, .int .i64 yu, .slice yp yl yc, .int .i64 ya, .int .i64 yd] 26)] [] w0 (.bool false))) ∧
       ((¬ (xs = ys)) →
       Fin R [(B, .cells #[.int .i64 xi, .int .i64 xk, .string xt, .int .i64 xs, .int .i64 xr, .int .i64 xu, .slice xp xl xc, .int .i64 xa, .int .i64 xd] 26), (B1, .cells #[.int .i64 yi, .int .i64 yk, .string yt, .int .i64 ys, .int .i64 yr, .int .i64 yu, .slice yp yl yc, .int .i64 ya, .int .i64 yd] 26)] [] w0 (.bool false))) ∧
      ((¬ xt = yt) →
      Fin R [(B, .cells #[.int .i64 xi, .int .i64 xk, .string xt, .int .i64 xs, .int .i64 xr, .int .i64 xu, .slice xp xl xc, .int .i64 xa, .int .i64 xd] 26), (B1, .cells #[.int .i64 yi, .int .i64 yk, .string yt, .int .i64 ys, .int .i64 yr, .int .i64 yu, .slice yp yl yc, .int .i64 ya, .int .i64 yd] 26)] [] w0 (.bool false))) ∧
     ((¬ (xk = yk)) →
     Fin R [(B, .cells #[.int .i64 xi, .int .i64 xk, .string xt, .int .i64 xs, .int .i64 xr, .int .i64 xu, .slice xp xl xc, .int .i64 xa, .int .i64 xd] 26), (B1, .cells #[.int .i64 yi, .int .i64 yk, .string yt, .int .i64 ys, .int .i64 yr, .int .i64 yu, .slice yp yl yc, .int .i64 ya, .int .i64 yd] 26)] [] w0 (.bool false))) ∧
    ((¬ (xi = yi)) →
    Fin R [(B, .cells #[.int .i64 xi, .int .i64 xk, .string xt, .int .i64 xs, .int .i64 xr, .int .i64 xu, .slice xp xl xc, .int .i64 xa, .int .i64 xd] 26), (B1, .cells #[.int .i64 yi, .int .i64 yk, .string yt, .int .i64 ys, .int .i64 yr, .int .i64 yu, .slice yp yl yc, .int .i64 ya, .int .i64 yd] 26)] [] w0 (.bool false))) :
  Calls Tryd.prog 24 ⟨[.agg #[.int .i64 xi, .int .i64 xk, .string xt, .int .i64 xs, .int .i64 xr, .int .i64 xu, .slice xp xl xc, .int .i64 xa, .int .i64 xd], .agg #[.int .i64 yi, .int .i64 yk, .string yt, .int .i64 ys, .int .i64 yr, .int .i64 yu, .slice yp yl yc, .int .i64 ya, .int .i64 yd]]⟩ W R := by
 refine AtE.calls (nt := 45) Tryd.func24 (by kernel_rfl) hm ?_
 refine AtE.run 2 (fun W => by kernel_rfl) ?_
 refine AtE.new (fun B => .pointer (some ⟨B, 0, none⟩)) (.cells #[.int .i64 xi, .int .i64 xk, .string xt, .int .i64 xs, .int .i64 xr, .int .i64 xu, .slice xp xl xc, .int .i64 xa, .int .i64 xd] 26) (fun W => by kernel_rfl) (by kernel_rfl) (fun B => ?_)
 replace H := H B
 refine AtE.new (fun B => .pointer (some ⟨B, 0, none⟩)) (.cells #[.int .i64 yi, .int .i64 yk, .string yt, .int .i64 ys, .int .i64 yr, .int .i64 yu, .slice yp yl yc, .int .i64 ya, .int .i64 yd] 26) (fun W => by kernel_rfl) (by kernel_rfl) (fun B1 => ?_)
 replace H := H B1
 refine AtE.run 5 (fun W => by kernel_rfl) ?_
 refine AtE.load 0 0 (T := 3) (v := .int .i64 xi) (by kernel_rfl) ?_
 refine AtE.run 1 (fun W => by kernel_rfl) ?_
 refine AtE.load 1 0 (T := 3) (v := .int .i64 yi) (by kernel_rfl) ?_
 refine AtE.run 2 (fun W => by kernel_rfl) ?_
 refine AtE.splitP 10 (p := xi = yi) (by kernel_rfl) (fun h1' => ?_) (fun h1' => ?_)
 ·replace H := H.1 h1'
  refine AtE.run 1 (fun W => by kernel_rfl) ?_
  refine AtE.load 0 1 (T := 3) (v := .int .i64 xk) (by kernel_rfl) ?_
  refine AtE.run 1 (fun W => by kernel_rfl) ?_
  refine AtE.load 1 1 (T := 3) (v := .int .i64 yk) (by kernel_rfl) ?_
  refine AtE.norm (k' := [.inRegion (regOps [.code (EngB6s24 [1,0])]) [10,11,12,13,14,15,16,17,18,19,20,21,22,23,24,25,26,27,28,29,30,31,32,33,34,35,36,37,38,39,40], .code (EngB6s24 [1,1])]) (e' := [(2, .pointer (some ⟨B, 0, none⟩)), (3, .pointer (some ⟨B1, 0, none⟩)), (10, .bool true), (12, .int .i64 xk), (14, .int .i64 yk)]) (L' := [(B, .cells #[.int .i64 xi, .int .i64 xk, .string xt, .int .i64 xs, .int .i64 xr, .int .i64 xu, .slice xp xl xc, .int .i64 xa, .int .i64 xd] 26), (B1, .cells #[.int .i64 yi, .int .i64 yk, .string yt, .int .i64 ys, .int .i64 yr, .int .i64 yu, .slice yp yl yc, .int .i64 ya, .int .i64 yd] 26)]) ?_ (by kernel_rfl)
  refine AtE.run 3 (fun W => by kernel_rfl) ?_
  refine AtE.splitP 17 (p := xk = yk) (by kernel_rfl) (fun h2' => ?_) (fun h2' => ?_)
  ·replace H := H.1 h2'
   refine AtE.run 1 (fun W => by kernel_rfl) ?_
   refine AtE.load 0 2 (T := 9) (v := .string xt) (by kernel_rfl) ?_
   refine AtE.run 1 (fun W => by kernel_rfl) ?_
   refine AtE.load 1 2 (T := 9) (v := .string yt) (by kernel_rfl) ?_
   refine AtE.run 3 (fun W => by kernel_rfl) ?_
   refine AtE.splitS 24 (x := xt) (y := yt) (by kernel_rfl) (fun h3' => ?_) (fun h3' => ?_)
   ·replace H := H.1 h3'
    refine AtE.run 1 (fun W => by kernel_rfl) ?_
    refine AtE.load 0 3 (T := 3) (v := .int .i64 xs) (by kernel_rfl) ?_
    refine AtE.run 1 (fun W => by kernel_rfl) ?_
    refine AtE.load 1 3 (T := 3) (v := .int .i64 ys) (by kernel_rfl) ?_
    refine AtE.run 3 (fun W => by kernel_rfl) ?_
    refine AtE.splitP 31 (p := xs = ys) (by kernel_rfl) (fun h4' => ?_) (fun h4' => ?_)
    ·replace H := H.1 h4'
     refine AtE.norm (k' := [.inRegion (regOps [.code (EngB6s24 [1,0])]) [27,28,29,30,31,32,33,34,35,36,37,38,39,40], .code (EngB6s24 [1,1])]) (e' := [(2, .pointer (some ⟨B, 0, none⟩)), (3, .pointer (some ⟨B1, 0, none⟩)), (31, .bool true)]) (L' := [(B, .cells #[.int .i64 xi, .int .i64 xk, .string xt, .int .i64 xs, .int .i64 xr, .int .i64 xu, .slice xp xl xc, .int .i64 xa, .int .i64 xd] 26), (B1, .cells #[.int .i64 yi, .int .i64 yk, .string yt, .int .i64 ys, .int .i64 yr, .int .i64 yu, .slice yp yl yc, .int .i64 ya, .int .i64 yd] 26)]) ?_ (by kernel_rfl)
     refine AtE.run 1 (fun W => by kernel_rfl) ?_
     refine AtE.load 0 4 (T := 3) (v := .int .i64 xr) (by kernel_rfl) ?_
     refine AtE.run 1 (fun W => by kernel_rfl) ?_
     refine AtE.load 1 4 (T := 3) (v := .int .i64 yr) (by kernel_rfl) ?_
     refine AtE.run 3 (fun W => by kernel_rfl) ?_
     refine AtE.splitP 38 (p := xr = yr) (by kernel_rfl) (fun h5' => ?_) (fun h5' => ?_)
     ·replace H := H.1 h5'
      refine AtE.run 1 (fun W => by kernel_rfl) ?_
      refine AtE.load 0 5 (T := 24) (v := .agg #[.int .i64 xu, .slice xp xl xc, .int .i64 xa, .int .i64 xd]) (by kernel_rfl) ?_
      refine AtE.run 1 (fun W => by kernel_rfl) ?_
      refine AtE.load 1 5 (T := 24) (v := .agg #[.int .i64 yu, .slice yp yl yc, .int .i64 ya, .int .i64 yd]) (by kernel_rfl) ?_
      refine AtE.call 46 ⟨[.agg #[.int .i64 xu, .slice xp xl xc, .int .i64 xa, .int .i64 xd], .agg #[.int .i64 yu, .slice yp yl yc, .int .i64 ya, .int .i64 yd]]⟩ (fun W => by kernel_rfl) (by kernel_rfl) H ?_
      clear H
      rintro _ _ ⟨r1, rfl, rfl, H⟩
      refine AtE.run 3 (fun W => by kernel_rfl) ?_
      exact AtE.ret Tryd.func24 (by kernel_rfl) H
     ·replace H := H.2 h5'
      refine AtE.run 8 (fun W => by kernel_rfl) ?_
      exact AtE.ret Tryd.func24 (by kernel_rfl) H
    ·replace H := H.2 h4'
     refine AtE.norm (k' := [.inRegion (regOps [.code (EngB6s24 [1,0])]) [27,28,29,30,31,32,33,34,35,36,37,38,39,40], .code (EngB6s24 [1,1])]) (e' := [(2, .pointer (some ⟨B, 0, none⟩)), (3, .pointer (some ⟨B1, 0, none⟩)), (31, .bool false)]) (L' := [(B, .cells #[.int .i64 xi, .int .i64 xk, .string xt, .int .i64 xs, .int .i64 xr, .int .i64 xu, .slice xp xl xc, .int .i64 xa, .int .i64 xd] 26), (B1, .cells #[.int .i64 yi, .int .i64 yk, .string yt, .int .i64 ys, .int .i64 yr, .int .i64 yu, .slice yp yl yc, .int .i64 ya, .int .i64 yd] 26)]) ?_ (by kernel_rfl)
     refine AtE.run 15 (fun W => by kernel_rfl) ?_
     exact AtE.ret Tryd.func24 (by kernel_rfl) H
   ·replace H := H.2 h3'
    refine AtE.run 22 (fun W => by kernel_rfl) ?_
    exact AtE.ret Tryd.func24 (by kernel_rfl) H
  ·replace H := H.2 h2'
   refine AtE.run 29 (fun W => by kernel_rfl) ?_
   exact AtE.ret Tryd.func24 (by kernel_rfl) H
 ·replace H := H.2 h1'
  refine AtE.run 36 (fun W => by kernel_rfl) ?_
  exact AtE.ret Tryd.func24 (by kernel_rfl) H
def eqBlks_c0 (s21_p : Option Addr) (s21_l : Nat) (s21_c : Nat) (t15_p : Option Addr) (t15_l : Nat) (t15_c : Nat) (t16 : Int) (t17 : Int) (w0 : World) (R : Ending → World → Prop) : Prop :=
 AtE Tryd.prog 47 32 [.code (EngB6s47 [1,1,0,1,0,0]), .inLoop (EngB6s47 [1,1,0,1,0,0]), .inBlock 0, .code (EngB6s47 [1,1,1])] [(1, .slice s21_p s21_l s21_c), (2, .func (.func 23) #[] #[]), (15, .slice t15_p t15_l t15_c), (16, .int .i64 t16), (17, .int .i64 t17)] [] [] w0 (nrm R)
theorem eqBlks_c0_vc (s21_p : Option Addr) (s21_l : Nat) (s21_c : Nat) (t15_p : Option Addr) (t15_l : Nat) (t15_c : Nat) (t16 : Int) (t17 : Int) {R : Ending → World → Prop} {w0 : World}
  (H :
   ((t17 < t16) →
    ∃ t15_pb t15_po : Nat, t15_p = some ⟨t15_pb, t15_po, none⟩ ∧
    (0 ≤ t17 ∧ t17 < t15_l) ∧
    ∃ (cw : List Value) (m_0 : Int) (m_1 : Int) (m_2 : ByteArray) (m_3 : Int) (m_4 : Int) (m_5 : Int) (m_6_p : Option Addr) (m_6_l : Nat) (m_6_c : Nat) (m_7 : Int) (m_8 : Int), blkW w0 t15_pb = some cw ∧ ((cw.drop (t15_po + ((Int.toNat t17) * 9))).take 9 = [.int .i64 m_0, .int .i64 m_1, .string m_2, .int .i64 m_3, .int .i64 m_4, .int .i64 m_5, .slice m_6_p m_6_l m_6_c, .int .i64 m_7, .int .i64 m_8] ∧ (t15_po + ((Int.toNat t17) * 9)) + 9 ≤ cw.length) ∧
    ∀ B : Nat,
    ∃ s21_pb s21_po : Nat, s21_p = some ⟨s21_pb, s21_po, none⟩ ∧
    (0 ≤ t17 ∧ t17 < s21_l) ∧
    ∃ (cw1 : List Value) (m1_0 : Int) (m1_1 : Int) (m1_2 : ByteArray) (m1_3 : Int) (m1_4 : Int) (m1_5 : Int) (m1_6_p : Option Addr) (m1_6_l : Nat) (m1_6_c : Nat) (m1_7 : Int) (m1_8 : Int), blkW w0 s21_pb = some cw1 ∧ ((cw1.drop (s21_po + ((Int.toNat t17) * 9))).take 9 = [.int .i64 m1_0, .int .i64 m1_1, .string m1_2, .int .i64 m1_3, .int .i64 m1_4, .int .i64 m1_5, .slice m1_6_p m1_6_l m1_6_c, .int .i64 m1_7, .int .i64 m1_8] ∧ (s21_po + ((Int.toNat t17) * 9)) + 9 ≤ cw1.length) ∧
    ∀ B1 : Nat,
    CallH Tryd.prog 23 ⟨[.agg #[.int .i64 m_0, .int .i64 m_1, .string m_2, .int .i64 m_3, .int .i64 m_4, .int .i64 m_5, .slice m_6_p m_6_l m_6_c, .int .i64 m_7, .int .i64 m_8], .agg #[.int .i64 m1_0, .int .i64 m1_1, .string m1_2, .int .i64 m1_3, .int .i64 m1_4, .int .i64 m1_5, .slice m1_6_p m1_6_l m1_6_c, .int .i64 m1_7, .int .i64 m1_8]]⟩ [(B, .cells #[.int .i64 m_0, .int .i64 m_1, .string m_2, .int .i64 m_3, .int .i64 m_4, .int .i64 m_5, .slice m_6_p m_6_l m_6_c, .int .i64 m_7, .int .i64 m_8] 26), (B1, .cells #[.int .i64 m1_0, .int .i64 m1_1, .string m1_2, .int .i64 m1_3, .int .i64 m1_4, .int .i64 m1_5, .slice m1_6_p m1_6_l m1_6_c, .int .i64 m1_7, .int .i64 m1_8] 26)] [] w0 (fun v L' => ∃ (r1 : Bool), v = (.bool r1) ∧ L' = [(B, .cells #[.int .i64 m_0, .int .i64 m_1, .string m_2, .int .i64 m_3, .int .i64 m_4, .int .i64 m_5, .slice m_6_p m_6_l m_6_c, .int .i64 m_7, .int .i64 m_8] 26), (B1, .cells #[.int .i64 m1_0, .int .i64 m1_1, .string m1_2, .int .i64 m1_3, .int .i64 m1_4, .int .i64 m1_5, .slice m1_6_p m1_6_l m1_6_c, .int .i64 m1_7, .int .i64 m1_8] 26)] ∧
     ((r1 = true) →
      eqBlks_c0 (some ⟨s21_pb, s21_po, none⟩) s21_l s21_c (some ⟨t15_pb, t15_po, none⟩) t15_l t15_c t16 (IntKind.i64.wrap (t17 + (1 : Int))) w0 R) ∧
      ((r1 = false) →
      Fin R [(B, .cells #[.int .i64 m_0, .int .i64 m_1, .string m_2, .int .i64 m_3, .int .i64 m_4, .int .i64 m_5, .slice m_6_p m_6_l m_6_c, .int .i64 m_7, .int .i64 m_8] 26), (B1, .cells #[.int .i64 m1_0, .int .i64 m1_1, .string m1_2, .int .i64 m1_3, .int .i64 m1_4, .int .i64 m1_5, .slice m1_6_p m1_6_l m1_6_c, .int .i64 m1_7, .int .i64 m1_8] 26)] [] w0 (.bool false)))) ∧
    ((¬ (t17 < t16)) →
    Fin R [] [] w0 (.bool true))) :
  eqBlks_c0 s21_p s21_l s21_c t15_p t15_l t15_c t16 t17 w0 R := by
 unfold eqBlks_c0
 refine AtE.run 5 (fun W => by kernel_rfl) ?_
 refine AtE.splitP 18 (p := t17 < t16) (by kernel_rfl) (fun h2' => ?_) (fun h2' => ?_)
 ·replace H := H.1 h2'
  refine AtE.run 7 (fun W => by kernel_rfl) ?_
  obtain ⟨t15_pb, t15_po, rfl, H⟩ := H
  refine AtE.indexAddrL (E := 26) (b := t15_pb) (o := t15_po) (len := t15_l) (cap := t15_c) (sz := 9) (o' := (t15_po + ((Int.toNat t17) * 9))) (kd := .i64) (i := t17) (by kernel_rfl) H.1 (by omega) ?_
  replace H := H.2
  obtain ⟨cw, m_0, m_1, m_2, m_3, m_4, m_5, m_6_p, m_6_l, m_6_c, m_7, m_8, hw, hx, H⟩ := H
  refine AtE.loadW (b := t15_pb) (off := (t15_po + ((Int.toNat t17) * 9))) (T := 26) (v := .agg #[.int .i64 m_0, .int .i64 m_1, .string m_2, .int .i64 m_3, .int .i64 m_4, .int .i64 m_5, .slice m_6_p m_6_l m_6_c, .int .i64 m_7, .int .i64 m_8]) (by kernel_rfl) List.not_mem_nil hw (valAt_agg hx.1 hx.2 (by kernel_rfl) (by kernel_rfl)) ?_
  refine AtE.new (fun B => .pointer (some ⟨B, 0, none⟩)) (.cells #[.int .i64 (0 : Int), .int .i64 (0 : Int), .string (⟨#[]⟩), .int .i64 (0 : Int), .int .i64 (0 : Int), .int .i64 (0 : Int), .slice none 0 0, .int .i64 (0 : Int), .int .i64 (0 : Int)] 26) (fun W => by kernel_rfl) (by kernel_rfl) (fun B => ?_)
  replace H := H B
  refine AtE.run 1 (fun W => by kernel_rfl) ?_
  refine AtE.store 0 0 (T := 26) (v := .agg #[.int .i64 m_0, .int .i64 m_1, .string m_2, .int .i64 m_3, .int .i64 m_4, .int .i64 m_5, .slice m_6_p m_6_l m_6_c, .int .i64 m_7, .int .i64 m_8]) (by kernel_rfl) ?_
  refine AtE.run 5 (fun W => by kernel_rfl) ?_
  obtain ⟨s21_pb, s21_po, rfl, H⟩ := H
  refine AtE.norm (k' := [.inRegion (regOps [.code (EngB6s47 [1,1,0,1,0,0,1,1,0,0,1,0])]) [2,3,4,5], .code (EngB6s47 [1,1,0,1,0,0,1,1,0,0,1,1]), .inBlock 1, .code (EngB6s47 [1,1,0,1,0,0,1,1,1]), .inLoop (EngB6s47 [1,1,0,1,0,0]), .inBlock 0, .code (EngB6s47 [1,1,1])]) (e' := [(1, .slice (some ⟨s21_pb, s21_po, none⟩) s21_l s21_c), (2, .func (.func 23) #[] #[]), (8, .pointer (some ⟨B, 0, none⟩)), (15, .slice (some ⟨t15_pb, t15_po, none⟩) t15_l t15_c), (16, .int .i64 t16), (17, .int .i64 t17), (22, .slice (some ⟨s21_pb, s21_po, none⟩) s21_l s21_c), (23, .int .i64 t17)]) (L' := [(B, .cells #[.int .i64 m_0, .int .i64 m_1, .string m_2, .int .i64 m_3, .int .i64 m_4, .int .i64 m_5, .slice m_6_p m_6_l m_6_c, .int .i64 m_7, .int .i64 m_8] 26)]) ?_ (by kernel_rfl)
  refine AtE.indexAddrL (E := 26) (b := s21_pb) (o := s21_po) (len := s21_l) (cap := s21_c) (sz := 9) (o' := (s21_po + ((Int.toNat t17) * 9))) (kd := .i64) (i := t17) (by kernel_rfl) H.1 (by omega) ?_
  replace H := H.2
  obtain ⟨cw1, m1_0, m1_1, m1_2, m1_3, m1_4, m1_5, m1_6_p, m1_6_l, m1_6_c, m1_7, m1_8, hw, hx, H⟩ := H
  refine AtE.loadW (b := s21_pb) (off := (s21_po + ((Int.toNat t17) * 9))) (T := 26) (v := .agg #[.int .i64 m1_0, .int .i64 m1_1, .string m1_2, .int .i64 m1_3, .int .i64 m1_4, .int .i64 m1_5, .slice m1_6_p m1_6_l m1_6_c, .int .i64 m1_7, .int .i64 m1_8]) (by kernel_rfl) List.not_mem_nil hw (valAt_agg hx.1 hx.2 (by kernel_rfl) (by kernel_rfl)) ?_
  refine AtE.new (fun B => .pointer (some ⟨B, 0, none⟩)) (.cells #[.int .i64 (0 : Int), .int .i64 (0 : Int), .string (⟨#[]⟩), .int .i64 (0 : Int), .int .i64 (0 : Int), .int .i64 (0 : Int), .slice none 0 0, .int .i64 (0 : Int), .int .i64 (0 : Int)] 26) (fun W => by kernel_rfl) (by kernel_rfl) (fun B1 => ?_)
  replace H := H B1
  refine AtE.store 1 0 (T := 26) (v := .agg #[.int .i64 m1_0, .int .i64 m1_1, .string m1_2, .int .i64 m1_3, .int .i64 m1_4, .int .i64 m1_5, .slice m1_6_p m1_6_l m1_6_c, .int .i64 m1_7, .int .i64 m1_8]) (by kernel_rfl) ?_
  refine AtE.run 4 (fun W => by kernel_rfl) ?_
  refine AtE.load 0 0 (T := 26) (v := .agg #[.int .i64 m_0, .int .i64 m_1, .string m_2, .int .i64 m_3, .int .i64 m_4, .int .i64 m_5, .slice m_6_p m_6_l m_6_c, .int .i64 m_7, .int .i64 m_8]) (by kernel_rfl) ?_
  refine AtE.load 1 0 (T := 26) (v := .agg #[.int .i64 m1_0, .int .i64 m1_1, .string m1_2, .int .i64 m1_3, .int .i64 m1_4, .int .i64 m1_5, .slice m1_6_p m1_6_l m1_6_c, .int .i64 m1_7, .int .i64 m1_8]) (by kernel_rfl) ?_
  refine AtE.call 23 ⟨[.agg #[.int .i64 m_0, .int .i64 m_1, .string m_2, .int .i64 m_3, .int .i64 m_4, .int .i64 m_5, .slice m_6_p m_6_l m_6_c, .int .i64 m_7, .int .i64 m_8], .agg #[.int .i64 m1_0, .int .i64 m1_1, .string m1_2, .int .i64 m1_3, .int .i64 m1_4, .int .i64 m1_5, .slice m1_6_p m1_6_l m1_6_c, .int .i64 m1_7, .int .i64 m1_8]]⟩ (fun W => by kernel_rfl) (by kernel_rfl) H ?_
  clear H
  rintro _ _ ⟨r1, rfl, rfl, H⟩
  refine AtE.norm (k' := [.inRegion (regOps [.code (EngB6s47 [1,1,0,1,0,0,1,1,0,0,1,1,0])]) [4], .code (EngB6s47 [1,1,0,1,0,0,1,1,0,0,1,1,1]), .inBlock 1, .code (EngB6s47 [1,1,0,1,0,0,1,1,1]), .inLoop (EngB6s47 [1,1,0,1,0,0]), .inBlock 0, .code (EngB6s47 [1,1,1])]) (e' := [(1, .slice (some ⟨s21_pb, s21_po, none⟩) s21_l s21_c), (2, .func (.func 23) #[] #[]), (15, .slice (some ⟨t15_pb, t15_po, none⟩) t15_l t15_c), (16, .int .i64 t16), (17, .int .i64 t17), (29, .bool r1)]) (L' := [(B, .cells #[.int .i64 m_0, .int .i64 m_1, .string m_2, .int .i64 m_3, .int .i64 m_4, .int .i64 m_5, .slice m_6_p m_6_l m_6_c, .int .i64 m_7, .int .i64 m_8] 26), (B1, .cells #[.int .i64 m1_0, .int .i64 m1_1, .string m1_2, .int .i64 m1_3, .int .i64 m1_4, .int .i64 m1_5, .slice m1_6_p m1_6_l m1_6_c, .int .i64 m1_7, .int .i64 m1_8] 26)]) ?_ (by kernel_rfl)
  refine AtE.split 29 (b := r1) (by kernel_rfl) (fun h3' => ?_) (fun h3' => ?_)
  ·replace H := H.1 h3'
   refine AtE.run 10 (fun W => by kernel_rfl) ?_
   exact AtE.cut [] H (by kernel_rfl)
  ·replace H := H.2 h3'
   refine AtE.run 7 (fun W => by kernel_rfl) ?_
   exact AtE.ret Tryd.func47 (by kernel_rfl) H
 ·replace H := H.2 h2'
  refine AtE.run 6 (fun W => by kernel_rfl) ?_
  exact AtE.ret Tryd.func47 (by kernel_rfl) H
theorem eqBlks_vc (s1_p : Option Addr) (s1_l : Nat) (s1_c : Nat) (s2_p : Option Addr) (s2_l : Nat) (s2_c : Nat) {R : Ending → World → Prop} {w0 W : World} (hm : Mem [] [] w0 W)
  (H :
   ((¬ ((s1_l : Int) = (s2_l : Int))) →
    Fin R [] [] w0 (.bool false)) ∧
    (((s1_l : Int) = (s2_l : Int)) →
    eqBlks_c0 s2_p s2_l s2_c s1_p s1_l s1_c (s1_l : Int) (0 : Int) w0 R)) :
  Calls Tryd.prog 47 ⟨[.slice s1_p s1_l s1_c, .slice s2_p s2_l s2_c, .func (.func 23) #[] #[]]⟩ W R := by
 refine AtE.calls (nt := 32) Tryd.func47 (by kernel_rfl) hm ?_
 refine AtE.run 13 (fun W => by kernel_rfl) ?_
 refine AtE.splitN 14 (p := (s1_l : Int) = (s2_l : Int)) (by kernel_rfl) (fun h1' => ?_) (fun h1' => ?_)
 ·replace H := H.1 h1'
  refine AtE.run 5 (fun W => by kernel_rfl) ?_
  exact AtE.ret Tryd.func47 (by kernel_rfl) H
 ·replace H := H.2 h1'
  refine AtE.run 11 (fun W => by kernel_rfl) ?_
  exact AtE.cut [] H (by kernel_rfl)
theorem sameL_vc (a_p : Option Addr) (a_l : Nat) (a_c : Nat) (b_p : Option Addr) (b_l : Nat) (b_c : Nat) {R : Ending → World → Prop} {w0 W : World} (hm : Mem [] [] w0 W)
  (H :
   CallH Tryd.prog 47 ⟨[.slice a_p a_l a_c, .slice b_p b_l b_c, .func (.func 23) #[] #[]]⟩ [] [] w0 (fun v L' => ∃ (r1 : Bool), v = (.bool r1) ∧ L' = [] ∧
    Fin R [] [] w0 (.bool r1))) :
  Calls Tryd.prog 25 ⟨[.slice a_p a_l a_c, .slice b_p b_l b_c]⟩ W R := by
 refine AtE.calls (nt := 8) Tryd.func25 (by kernel_rfl) hm ?_
 refine AtE.run 8 (fun W => by kernel_rfl) ?_
 refine AtE.call 47 ⟨[.slice a_p a_l a_c, .slice b_p b_l b_c, .func (.func 23) #[] #[]]⟩ (fun W => by kernel_rfl) (by kernel_rfl) H ?_
 clear H
 rintro _ _ ⟨r1, rfl, rfl, H⟩
 refine AtE.run 2 (fun W => by kernel_rfl) ?_
 exact AtE.ret Tryd.func25 (by kernel_rfl) H
def rsameL_c0 (a1_p : Option Addr) (a1_l : Nat) (a1_c : Nat) (b1_p : Option Addr) (b1_l : Nat) (b1_c : Nat) (i : Int) (w0 : World) (R : Ending → World → Prop) : Prop :=
 AtE Tryd.prog 26 29 [.code (EngB6s26 [1,1,0,1,0,0]), .inLoop (EngB6s26 [1,1,0,1,0,0]), .inBlock 0, .code (EngB6s26 [1,1,1])] [(0, .slice a1_p a1_l a1_c), (1, .slice b1_p b1_l b1_c), (5, .int .i64 i)] [] [] w0 (nrm R)
theorem rsameL_c0_vc (a1_p : Option Addr) (a1_l : Nat) (a1_c : Nat) (b1_p : Option Addr) (b1_l : Nat) (b1_c : Nat) (i : Int) {R : Ending → World → Prop} {w0 : World}
  (H :
   ((i < (a1_l : Int)) →
    ∃ a1_pb a1_po : Nat, a1_p = some ⟨a1_pb, a1_po, none⟩ ∧
    (0 ≤ i ∧ i < a1_l) ∧
    ∃ (cw : List Value) (m_0 : Int) (m_1 : Int) (m_2 : ByteArray) (m_3 : Int) (m_4 : Int) (m_5 : Int) (m_6_p : Option Addr) (m_6_l : Nat) (m_6_c : Nat) (m_7 : Int) (m_8 : Int), blkW w0 a1_pb = some cw ∧ ((cw.drop (a1_po + ((Int.toNat i) * 9))).take 9 = [.int .i64 m_0, .int .i64 m_1, .string m_2, .int .i64 m_3, .int .i64 m_4, .int .i64 m_5, .slice m_6_p m_6_l m_6_c, .int .i64 m_7, .int .i64 m_8] ∧ (a1_po + ((Int.toNat i) * 9)) + 9 ≤ cw.length) ∧
    ∃ b1_pb b1_po : Nat, b1_p = some ⟨b1_pb, b1_po, none⟩ ∧
    (0 ≤ i ∧ i < b1_l) ∧
    ∃ (cw1 : List Value) (m1_0 : Int) (m1_1 : Int) (m1_2 : ByteArray) (m1_3 : Int) (m1_4 : Int) (m1_5 : Int) (m1_6_p : Option Addr) (m1_6_l : Nat) (m1_6_c : Nat) (m1_7 : Int) (m1_8 : Int), blkW w0 b1_pb = some cw1 ∧ ((cw1.drop (b1_po + ((Int.toNat i) * 9))).take 9 = [.int .i64 m1_0, .int .i64 m1_1, .string m1_2, .int .i64 m1_3, .int .i64 m1_4, .int .i64 m1_5, .slice m1_6_p m1_6_l m1_6_c, .int .i64 m1_7, .int .i64 m1_8] ∧ (b1_po + ((Int.toNat i) * 9)) + 9 ≤ cw1.length) ∧
    ∃ (r1 : Bool), (QCall Tryd.prog 24 ⟨[.agg #[.int .i64 m_0, .int .i64 m_1, .string m_2, .int .i64 m_3, .int .i64 m_4, .int .i64 m_5, .slice m_6_p m_6_l m_6_c, .int .i64 m_7, .int .i64 m_8], .agg #[.int .i64 m1_0, .int .i64 m1_1, .string m1_2, .int .i64 m1_3, .int .i64 m1_4, .int .i64 m1_5, .slice m1_6_p m1_6_l m1_6_c, .int .i64 m1_7, .int .i64 m1_8]]⟩ [] [] w0 (.bool r1)) ∧
    ((r1 = true) →
     ∀ i1 : Int, i1 = (IntKind.i64.wrap (i + (1 : Int))) →
     rsameL_c0 (some ⟨a1_pb, a1_po, none⟩) a1_l a1_c (some ⟨b1_pb, b1_po, none⟩) b1_l b1_c i1 w0 R) ∧
     ((r1 = false) →
     Fin R [] [] w0 (.bool false))) ∧
    ((¬ (i < (a1_l : Int))) →
    Fin R [] [] w0 (.bool true))) :
  rsameL_c0 a1_p a1_l a1_c b1_p b1_l b1_c i w0 R := by
 unfold rsameL_c0
 refine AtE.run 8 (fun W => by kernel_rfl) ?_
 refine AtE.splitP 15 (p := i < (a1_l : Int)) (by kernel_rfl) (fun h2' => ?_) (fun h2' => ?_)
 ·replace H := H.1 h2'
  refine AtE.run 5 (fun W => by kernel_rfl) ?_
  refine AtE.norm (k' := [.code (EngB6s26 [1,1,0,1,0,0,1,0,0,0]), .code (EngB6s26 [1,1,0,1,0,0,1,0,0,1]), .inBlock 1, .code (EngB6s26 [1,1,0,1,0,0,1,1]), .inLoop (EngB6s26 [1,1,0,1,0,0]), .inBlock 0, .code (EngB6s26 [1,1,1])]) (e' := [(0, .slice a1_p a1_l a1_c), (1, .slice b1_p b1_l b1_c), (5, .int .i64 i)]) (L' := []) ?_ (by kernel_rfl)
  refine AtE.draw 10 (by kernel_rfl) ?_
  refine AtQ.pure (by kernel_rfl) (fun W => by kernel_rfl) ?_
  refine AtQ.pure (by kernel_rfl) (fun W => by kernel_rfl) ?_
  obtain ⟨a1_pb, a1_po, rfl, H⟩ := H
  refine AtQ.indexAddrL (E := 26) (b := a1_pb) (o := a1_po) (len := a1_l) (cap := a1_c) (sz := 9) (o' := (a1_po + ((Int.toNat i) * 9))) (kd := .i64) (i := i) (by kernel_rfl) H.1 (by omega) ?_
  replace H := H.2
  obtain ⟨cw, m_0, m_1, m_2, m_3, m_4, m_5, m_6_p, m_6_l, m_6_c, m_7, m_8, hw, hx, H⟩ := H
  refine AtQ.loadW (b := a1_pb) (off := (a1_po + ((Int.toNat i) * 9))) (T := 26) (v := .agg #[.int .i64 m_0, .int .i64 m_1, .string m_2, .int .i64 m_3, .int .i64 m_4, .int .i64 m_5, .slice m_6_p m_6_l m_6_c, .int .i64 m_7, .int .i64 m_8]) (by kernel_rfl) List.not_mem_nil hw (valAt_agg hx.1 hx.2 (by kernel_rfl) (by kernel_rfl)) ?_
  refine AtQ.pure (by kernel_rfl) (fun W => by kernel_rfl) ?_
  refine AtQ.pure (by kernel_rfl) (fun W => by kernel_rfl) ?_
  obtain ⟨b1_pb, b1_po, rfl, H⟩ := H
  refine AtQ.indexAddrL (E := 26) (b := b1_pb) (o := b1_po) (len := b1_l) (cap := b1_c) (sz := 9) (o' := (b1_po + ((Int.toNat i) * 9))) (kd := .i64) (i := i) (by kernel_rfl) H.1 (by omega) ?_
  replace H := H.2
  obtain ⟨cw1, m1_0, m1_1, m1_2, m1_3, m1_4, m1_5, m1_6_p, m1_6_l, m1_6_c, m1_7, m1_8, hw, hx, H⟩ := H
  refine AtQ.loadW (b := b1_pb) (off := (b1_po + ((Int.toNat i) * 9))) (T := 26) (v := .agg #[.int .i64 m1_0, .int .i64 m1_1, .string m1_2, .int .i64 m1_3, .int .i64 m1_4, .int .i64 m1_5, .slice m1_6_p m1_6_l m1_6_c, .int .i64 m1_7, .int .i64 m1_8]) (by kernel_rfl) List.not_mem_nil hw (valAt_agg hx.1 hx.2 (by kernel_rfl) (by kernel_rfl)) ?_
  obtain ⟨r1, hq, H⟩ := H
  refine AtQ.call 24 ⟨[.agg #[.int .i64 m_0, .int .i64 m_1, .string m_2, .int .i64 m_3, .int .i64 m_4, .int .i64 m_5, .slice m_6_p m_6_l m_6_c, .int .i64 m_7, .int .i64 m_8], .agg #[.int .i64 m1_0, .int .i64 m1_1, .string m1_2, .int .i64 m1_3, .int .i64 m1_4, .int .i64 m1_5, .slice m1_6_p m1_6_l m1_6_c, .int .i64 m1_7, .int .i64 m1_8]]⟩ (fun W => by kernel_rfl) (by kernel_rfl) hq ?_
  refine AtQ.pure (by kernel_rfl) (fun W => by kernel_rfl) ?_
  refine AtQ.done (by kernel_rfl) ?_
  refine AtE.run 4 (fun W => by kernel_rfl) ?_
  refine AtE.split 27 (b := r1) (by kernel_rfl) (fun h3' => ?_) (fun h3' => ?_)
  ·replace H := H.1 h3'
   refine AtE.norm (k' := [.inRegion (regOps [.code (EngB6s26 [1,1,0,1,0,0,1,0,0,1,0])]) [1], .code (EngB6s26 [1,1,0,1,0,0,1,0,0,1,1]), .inBlock 1, .code (EngB6s26 [1,1,0,1,0,0,1,1]), .inLoop (EngB6s26 [1,1,0,1,0,0]), .inBlock 0, .code (EngB6s26 [1,1,1])]) (e' := [(0, .slice (some ⟨a1_pb, a1_po, none⟩) a1_l a1_c), (1, .slice (some ⟨b1_pb, b1_po, none⟩) b1_l b1_c), (5, .int .i64 i), (27, .bool true)]) (L' := []) ?_ (by kernel_rfl)
   refine AtE.run 9 (fun W => by kernel_rfl) ?_
   refine AtE.letI 5 (kd := .i64) (n := (IntKind.i64.wrap (i + (1 : Int)))) (by kernel_rfl) (fun i1 hi1 => ?_)
   replace H := H i1 hi1
   refine AtE.run 2 (fun W => by kernel_rfl) ?_
   exact AtE.cut [] H (by kernel_rfl)
  ·replace H := H.2 h3'
   refine AtE.norm (k' := [.inRegion (regOps [.code (EngB6s26 [1,1,0,1,0,0,1,0,0,1,0])]) [1], .code (EngB6s26 [1,1,0,1,0,0,1,0,0,1,1]), .inBlock 1, .code (EngB6s26 [1,1,0,1,0,0,1,1]), .inLoop (EngB6s26 [1,1,0,1,0,0]), .inBlock 0, .code (EngB6s26 [1,1,1])]) (e' := [(0, .slice (some ⟨a1_pb, a1_po, none⟩) a1_l a1_c), (1, .slice (some ⟨b1_pb, b1_po, none⟩) b1_l b1_c), (5, .int .i64 i), (27, .bool false)]) (L' := []) ?_ (by kernel_rfl)
   refine AtE.run 7 (fun W => by kernel_rfl) ?_
   exact AtE.ret Tryd.func26 (by kernel_rfl) H
 ·replace H := H.2 h2'
  refine AtE.run 6 (fun W => by kernel_rfl) ?_
  exact AtE.ret Tryd.func26 (by kernel_rfl) H
theorem rsameL_vc (a_p : Option Addr) (a_l : Nat) (a_c : Nat) (b_p : Option Addr) (b_l : Nat) (b_c : Nat) {R : Ending → World → Prop} {w0 W : World} (hm : Mem [] [] w0 W)
  (H :
   ((¬ ((a_l : Int) = (b_l : Int))) →
    Fin R [] [] w0 (.bool false)) ∧
    (((a_l : Int) = (b_l : Int)) →
    rsameL_c0 a_p a_l a_c b_p b_l b_c (0 : Int) w0 R)) :
  Calls Tryd.prog 26 ⟨[.slice a_p a_l a_c, .slice b_p b_l b_c]⟩ W R := by
 refine AtE.calls (nt := 29) Tryd.func26 (by kernel_rfl) hm ?_
 refine AtE.run 13 (fun W => by kernel_rfl) ?_
 refine AtE.splitN 11 (p := (a_l : Int) = (b_l : Int)) (by kernel_rfl) (fun h1' => ?_) (fun h1' => ?_)
 ·replace H := H.1 h1'
  refine AtE.run 5 (fun W => by kernel_rfl) ?_
  exact AtE.ret Tryd.func26 (by kernel_rfl) H
 ·replace H := H.2 h1'
  refine AtE.run 9 (fun W => by kernel_rfl) ?_
  exact AtE.cut [] H (by kernel_rfl)
end Go.Eng
namespace Go.Eng
open Go Go.RowKit Go.Proofs Wire
set_option linter.unusedVariables false
theorem QCall.pw {P : Program} {L : SHeap} {S : List Nat} {w0 : World} {g : FuncId} {args : Array Value} {v : Value} (h : ∀ W, Mem L S w0 W → PW P g args W v) : QCall P g args L S w0 v :=
  fun W hm => (h W hm).mono fun _ _ hh => ⟨hh.1, hm.after hh.2⟩
theorem QCallB.pw {P : Program} {L : SHeap} {S : List Nat} {w0 : World} {g : FuncId} {args : Array Value} {v : Value} (h : ∀ W, Mem L S w0 W → PW P g args W v) : QCallB P g args L S w0 v := h
theorem Blk.ext' {x y : Blk} : x = y ↔ x.id = y.id ∧ x.kind = y.kind ∧ x.text = y.text ∧ x.story = y.story ∧ x.ref = y.ref ∧ x.lab = y.lab := by
  cases x; cases y; simp
theorem Blk.ne {x y : Blk} (h : ¬ (x.id = y.id ∧ x.kind = y.kind ∧ x.text = y.text ∧ x.story = y.story ∧ x.ref = y.ref ∧ x.lab = y.lab)) : (Value.bool false) = .bool (decide (x = y)) := by
  rw [decide_eq_false (fun e => h (Blk.ext'.1 e))]
theorem Blk.eqLab {x y : Blk} (h1 : x.id = y.id) (h2 : x.kind = y.kind) (h3 : x.text = y.text) (h4 : x.story = y.story) (h5 : x.ref = y.ref) : decide (x.lab = y.lab) = decide (x = y) := by
  simp only [Blk.ext', h1, h2, h3, h4, h5, true_and]
theorem same_c {W : World} {p q : Option Addr} {c d : Nat} {x y : Blk} (hx : IntsL (lkW W) p x.lab.after) (hy : IntsL (lkW W) q y.lab.after) (hf : x.Fits) :
    PW Tryd.prog 23 ⟨[.agg ⟨x.cells p c⟩, .agg ⟨y.cells q d⟩]⟩ W (.bool (decide (x = y))) := by
  refine same_vc x.id x.kind x.text x.story x.ref x.lab.unt p x.lab.after.length c x.lab.appr x.lab.den y.id y.kind y.text y.story y.ref y.lab.unt q y.lab.after.length d y.lab.appr y.lab.den (Mem.start [] W) fun B B1 => ?_
  refine ⟨fun h1 => ⟨fun h2 => ⟨fun h3 => ⟨fun h4 => ⟨fun h5 => ?_, fun h5 => finPW (Blk.ne fun h => h5 h.2.2.2.2.1)⟩, fun h4 => finPW (Blk.ne fun h => h4 h.2.2.2.1)⟩, fun h3 => finPW (Blk.ne fun h => h3 h.2.2.1)⟩, fun h2 => finPW (Blk.ne fun h => h2 h.2.1)⟩, fun h1 => finPW (Blk.ne fun h => h1 h.1)⟩
  exact CallH.pw (fun W' hm' => labSame_c (hx.mono (lkW_kept hm')) (hy.mono (lkW_kept hm')) hf.2) ⟨_, rfl, rfl, finPW (by rw [Blk.eqLab h1 h2 h3 h4 h5])⟩
theorem rsame_c {W : World} {p q : Option Addr} {c d : Nat} {x y : Blk} (hx : IntsL (lkW W) p x.lab.after) (hy : IntsL (lkW W) q y.lab.after) (hf : x.Fits) :
    PW Tryd.prog 24 ⟨[.agg ⟨x.cells p c⟩, .agg ⟨y.cells q d⟩]⟩ W (.bool (decide (x = y))) := by
  refine rsame_vc x.id x.kind x.text x.story x.ref x.lab.unt p x.lab.after.length c x.lab.appr x.lab.den y.id y.kind y.text y.story y.ref y.lab.unt q y.lab.after.length d y.lab.appr y.lab.den (Mem.start [] W) fun B B1 => ?_
  refine ⟨fun h1 => ⟨fun h2 => ⟨fun h3 => ⟨fun h4 => ⟨fun h5 => ?_, fun h5 => finPW (Blk.ne fun h => h5 h.2.2.2.2.1)⟩, fun h4 => finPW (Blk.ne fun h => h4 h.2.2.2.1)⟩, fun h3 => finPW (Blk.ne fun h => h3 h.2.2.1)⟩, fun h2 => finPW (Blk.ne fun h => h2 h.2.1)⟩, fun h1 => finPW (Blk.ne fun h => h1 h.1)⟩
  exact CallH.pw (fun W' hm' => rlabSame_c (hx.mono (lkW_kept hm')) (hy.mono (lkW_kept hm')) hf.2) ⟨_, rfl, rfl, finPW (by rw [Blk.eqLab h1 h2 h3 h4 h5])⟩
theorem eqBlks_loop {w0 : World} {p q : Option Addr} {cp cq : Nat} {R : Ending → World → Prop} {a b : List Blk} (ha : BlksL (lkW w0) p a) (hb : BlksL (lkW w0) q b) (hl : a.length = b.length) (hm : a.length ≤ 9223372036854775807) (HR : ∀ L v, Fin R [] [] w0 v → Fin R L [] w0 v) :
    ∀ (g i : Nat), g + i = a.length → Fin R [] [] w0 (.bool (decide (a.drop i = b.drop i))) → eqBlks_c0 q b.length cq p a.length cp (a.length : Int) (i : Int) w0 R
  | 0, i, hg, H => by
    apply eqBlks_c0_vc
    refine no (by omega) (finEq H ?_)
    rw [List.drop_of_length_le (by omega), List.drop_of_length_le (by omega)]
    simp
  | g + 1, i, hg, H => by
    apply eqBlks_c0_vc
    have h1 : i < a.length := by omega
    have h2 : i < b.length := by omega
    obtain ⟨B1, o1, c1, rfl, e2, e3, p6, c6, e4, e5, e6⟩ := ha.get h1
    obtain ⟨B2, o2, c2, rfl, f2, f3, p7, c7, f4, f5, f6⟩ := hb.get h2
    simp only [drop_eq h1 h2] at H
    refine yes (by omega) ⟨B1, o1, rfl, by omega, c1, a[i].id, a[i].kind, a[i].text, a[i].story, a[i].ref, a[i].lab.unt, p6, a[i].lab.after.length, c6, a[i].lab.appr, a[i].lab.den, e2, ⟨by simpa using e4, by simpa using e3⟩, fun B3 =>
      ⟨B2, o2, rfl, by omega, c2, b[i].id, b[i].kind, b[i].text, b[i].story, b[i].ref, b[i].lab.unt, p7, b[i].lab.after.length, c7, b[i].lab.appr, b[i].lab.den, f2, ⟨by simpa using f4, by simpa using f3⟩, fun B4 => ?_⟩⟩
    refine CallH.pw (fun W' hm' => same_c (e5.mono (lkW_kept hm')) (f5.mono (lkW_kept hm')) e6) ⟨_, rfl, rfl, fun h => ?_, fun h => HR _ _ (finEq H ?_)⟩
    · have h := of_decide_eq_true h
      rw [wi64 (by omega), show (i : Int) + 1 = ((i + 1 : Nat) : Int) by omega]
      refine eqBlks_loop ha hb hl hm HR g (i + 1) (by omega) (finEq H ?_)
      simp [h]
    · have h := of_decide_eq_false h
      simp [h]
theorem sameL_c {W : World} {p q : Option Addr} {cp cq : Nat} {a b : List Blk} (ha : BlksL (lkW W) p a) (hb : BlksL (lkW W) q b) (hm : a.length ≤ 9223372036854775807) :
    PW Tryd.prog 25 ⟨[.slice p a.length cp, .slice q b.length cq]⟩ W (.bool (decide (a = b))) := by
  refine sameL_vc p a.length cp q b.length cq (Mem.start [] W) (CallH.pw (v := .bool (decide (a = b))) (fun W' hm' => ?_) ⟨_, rfl, rfl, finPW rfl⟩)
  have ha := ha.mono (lkW_kept hm')
  have hb := hb.mono (lkW_kept hm')
  refine eqBlks_vc p a.length cp q b.length cq (Mem.start [] W') ⟨fun h => finPW ?_, fun h => eqBlks_loop ha hb (by omega) hm pwLoose a.length 0 (by omega) (finPW ?_)⟩
  · rw [decide_eq_false]
    intro hab; subst hab; exact h rfl
  · simp
theorem rsameL_loop {w0 : World} {p q : Option Addr} {cp cq : Nat} {R : Ending → World → Prop} {a b : List Blk} (ha : BlksL (lkW w0) p a) (hb : BlksL (lkW w0) q b) (hl : a.length = b.length) (hm : a.length ≤ 9223372036854775807) :
    ∀ (g i : Nat), g + i = a.length → Fin R [] [] w0 (.bool (decide (a.drop i = b.drop i))) → rsameL_c0 p a.length cp q b.length cq (i : Int) w0 R
  | 0, i, hg, H => by
    apply rsameL_c0_vc
    refine no (by omega) (finEq H ?_)
    rw [List.drop_of_length_le (by omega), List.drop_of_length_le (by omega)]
    simp
  | g + 1, i, hg, H => by
    apply rsameL_c0_vc
    have h1 : i < a.length := by omega
    have h2 : i < b.length := by omega
    obtain ⟨B1, o1, c1, rfl, e2, e3, p6, c6, e4, e5, e6⟩ := ha.get h1
    obtain ⟨B2, o2, c2, rfl, f2, f3, p7, c7, f4, f5, f6⟩ := hb.get h2
    simp only [drop_eq h1 h2] at H
    refine yes (by omega) ⟨B1, o1, rfl, by omega, c1, a[i].id, a[i].kind, a[i].text, a[i].story, a[i].ref, a[i].lab.unt, p6, a[i].lab.after.length, c6, a[i].lab.appr, a[i].lab.den, e2, ⟨by simpa using e4, by simpa using e3⟩,
      B2, o2, rfl, by omega, c2, b[i].id, b[i].kind, b[i].text, b[i].story, b[i].ref, b[i].lab.unt, p7, b[i].lab.after.length, c7, b[i].lab.appr, b[i].lab.den, f2, ⟨by simpa using f4, by simpa using f3⟩, _, QCall.pw fun W' hm' => rsame_c (e5.mono (lkW_kept hm')) (f5.mono (lkW_kept hm')) e6, fun h => ?_, fun h => finEq H ?_⟩
    · have h := of_decide_eq_true h
      rintro _ rfl
      rw [wi64 (by omega), show (i : Int) + 1 = ((i + 1 : Nat) : Int) by omega]
      refine rsameL_loop ha hb hl hm g (i + 1) (by omega) (finEq H ?_)
      simp [h]
    · have h := of_decide_eq_false h
      simp [h]
theorem rsameL_c {W : World} {p q : Option Addr} {cp cq : Nat} {a b : List Blk} (ha : BlksL (lkW W) p a) (hb : BlksL (lkW W) q b) (hm : a.length ≤ 9223372036854775807) :
    PW Tryd.prog 26 ⟨[.slice p a.length cp, .slice q b.length cq]⟩ W (.bool (decide (a = b))) := by
  refine rsameL_vc p a.length cp q b.length cq (Mem.start [] W) ⟨fun h => finPW ?_, fun h => rsameL_loop ha hb (by omega) hm a.length 0 (by omega) (finPW ?_)⟩
  · rw [decide_eq_false]
    intro hab; subst hab; exact h rfl
  · simp
end Go.Eng
namespace Go.Eng
open Go Go.RowKit Go.Proofs
set_option linter.unusedVariables false
set_option maxRecDepth 100000
noncomputable abbrev EngB7s50 := sub (Eng.body Tryd.f50)
noncomputable abbrev EngB7s51 := sub (Eng.body Tryd.f51)
noncomputable abbrev EngB7s62 := sub (Eng.body Tryd.f62)
theorem ws0_vc (B : Nat) (s : ByteArray) {R : Ending → World → Prop} {S : List Nat} {w0 W : World} (hm : Mem [(B, .cells #[.pointer none, .slice none 0 0] 60)] S w0 W)
  (H :
   (s.size ≤ 9223372036854775807 ∧ s.size * 1 ≤ 140737488355328) ∧ ((s.size = 0 →
    ∀ t4 : Int, t4 = (s.size : Int) →
    Fin R [(B, .cells #[.pointer (some ⟨B, 0, none⟩), .slice none 0 0] 60)] S w0 (.tuple #[.int .i64 t4, .nilIface])) ∧
    (0 < s.size → ∀ (B1 cap : Nat) (r2 : List Value), s.size ≤ cap → ((bytesL s.data.toList) ++ r2).length = cap * 1 →
    ∀ t41 : Int, t41 = (s.size : Int) →
    Fin R [(B, .cells #[.pointer (some ⟨B, 0, none⟩), .slice (some ⟨B1, 0, none⟩) s.size cap] 60), (B1, .cells ⟨((bytesL s.data.toList) ++ r2)⟩ 5)] S w0 (.tuple #[.int .i64 t41, .nilIface])))) :
  Calls Tryd.prog 50 ⟨[.pointer (some ⟨B, 0, none⟩), .string s]⟩ W R := by
 refine AtE.calls (nt := 19) Tryd.func50 (by kernel_rfl) hm ?_
 refine AtE.run 8 (fun W => by kernel_rfl) ?_
 refine AtE.inl 75 ⟨[.pointer (some ⟨B, 0, none⟩)]⟩ (fun W => by kernel_rfl) (by kernel_rfl) (fun W hm => AtE.calls (nt := 20) Tryd.func75 (by kernel_rfl) hm ?_)
 refine AtE.run 5 (fun W => by kernel_rfl) ?_
 refine AtE.load 0 0 (T := 57) (v := .pointer none) (by kernel_rfl) ?_
 refine AtE.run 6 (fun W => by kernel_rfl) ?_
 refine AtE.ptrConv 0 (t := 60) (B := B) (off := 0) (c := ([.pointer none, .slice none 0 0] : List Value)) (E := 60) (fz := (0, 0)) (sz := 1) (by kernel_rfl) (by simp) ?_
 refine AtE.run 1 (fun W => by kernel_rfl) ?_
 refine AtE.ptrBack 0 (u := 60) (B := B) (off := 0) (n := 2) (c := ([.pointer none, .slice none 0 0] : List Value)) (E := 60) (fz := (0, 0)) (by kernel_rfl) rfl ?_
 refine AtE.run 2 (fun W => by kernel_rfl) ?_
 refine AtE.store 0 0 (T := 57) (v := .pointer (some ⟨B, 0, none⟩)) (by kernel_rfl) ?_
 refine AtE.run 1 (fun W => by kernel_rfl) ?_
 refine AtE.retK (v := .tuple #[]) Tryd.func75 (by kernel_rfl) ?_
 refine AtE.norm (k' := [.inRegion (regOps [.code (EngB7s50 [1,0])]) [], .code (EngB7s50 [1,1])]) (e' := [(0, .pointer (some ⟨B, 0, none⟩)), (1, .string s)]) (L' := [(B, .cells #[.pointer (some ⟨B, 0, none⟩), .slice none 0 0] 60)]) ?_ (by kernel_rfl)
 refine AtE.run 7 (fun W => by kernel_rfl) ?_
 refine AtE.load 0 1 (T := 58) (v := .slice none 0 0) (by kernel_rfl) ?_
 refine AtE.run 1 (fun W => by kernel_rfl) ?_
 refine AtE.appendS (T := 58) (U := 9) (E := 5) (z := .int .u8 (0 : Int)) (sz := 1) (bytes := 1) (x := .string s) s.size (bytesL s.data.toList) (by kernel_rfl) (srcStr (by kernel_rfl) _) H.1 (fun h0 => ?_) (fun h0 B1 cap r2 h1 h2 => ?_)
 ·replace H := H.2.1 h0
  refine AtE.run 2 (fun W => by kernel_rfl) ?_
  refine AtE.store 0 1 (T := 58) (v := .slice none 0 0) (by kernel_rfl) ?_
  refine AtE.run 6 (fun W => by kernel_rfl) ?_
  refine AtE.letI 4 (kd := .i64) (n := (s.size : Int)) (by kernel_rfl) (fun t4 ht4 => ?_)
  replace H := H t4 ht4
  refine AtE.run 2 (fun W => by kernel_rfl) ?_
  exact AtE.ret Tryd.func50 (by kernel_rfl) H
 ·skip
  replace H := H.2.2 h0 B1 cap r2 h1 h2
  refine AtE.run 2 (fun W => by kernel_rfl) ?_
  refine AtE.store 0 1 (T := 58) (v := .slice (some ⟨B1, 0, none⟩) s.size cap) (by kernel_rfl) ?_
  refine AtE.run 6 (fun W => by kernel_rfl) ?_
  refine AtE.letI 4 (kd := .i64) (n := (s.size : Int)) (by kernel_rfl) (fun t41 ht41 => ?_)
  replace H := H t41 ht41
  refine AtE.run 2 (fun W => by kernel_rfl) ?_
  exact AtE.ret Tryd.func50 (by kernel_rfl) H
theorem ws1_vc (B : Nat) (s : ByteArray) {R : Ending → World → Prop} {S : List Nat} {w0 W : World} (hm : Mem [(B, .cells #[.pointer (some ⟨B, 0, none⟩), .slice none 0 0] 60)] S w0 W)
  (H :
   (s.size ≤ 9223372036854775807 ∧ s.size * 1 ≤ 140737488355328) ∧ ((s.size = 0 →
    ∀ t4 : Int, t4 = (s.size : Int) →
    Fin R [(B, .cells #[.pointer (some ⟨B, 0, none⟩), .slice none 0 0] 60)] S w0 (.tuple #[.int .i64 t4, .nilIface])) ∧
    (0 < s.size → ∀ (B1 cap : Nat) (r : List Value), s.size ≤ cap → ((bytesL s.data.toList) ++ r).length = cap * 1 →
    ∀ t41 : Int, t41 = (s.size : Int) →
    Fin R [(B, .cells #[.pointer (some ⟨B, 0, none⟩), .slice (some ⟨B1, 0, none⟩) s.size cap] 60), (B1, .cells ⟨((bytesL s.data.toList) ++ r)⟩ 5)] S w0 (.tuple #[.int .i64 t41, .nilIface])))) :
  Calls Tryd.prog 50 ⟨[.pointer (some ⟨B, 0, none⟩), .string s]⟩ W R := by
 refine AtE.calls (nt := 19) Tryd.func50 (by kernel_rfl) hm ?_
 refine AtE.run 8 (fun W => by kernel_rfl) ?_
 refine AtE.inl 75 ⟨[.pointer (some ⟨B, 0, none⟩)]⟩ (fun W => by kernel_rfl) (by kernel_rfl) (fun W hm => AtE.calls (nt := 20) Tryd.func75 (by kernel_rfl) hm ?_)
 refine AtE.run 5 (fun W => by kernel_rfl) ?_
 refine AtE.load 0 0 (T := 57) (v := .pointer (some ⟨B, 0, none⟩)) (by kernel_rfl) ?_
 refine AtE.run 8 (fun W => by kernel_rfl) ?_
 refine AtE.load 0 0 (T := 57) (v := .pointer (some ⟨B, 0, none⟩)) (by kernel_rfl) ?_
 refine AtE.run 1 (fun W => by kernel_rfl) ?_
 refine AtE.neqSame (T := 57) (E := 60) (a := ⟨B, 0, none⟩) (by kernel_rfl) ?_
 refine AtE.run 3 (fun W => by kernel_rfl) ?_
 refine AtE.retK (v := .tuple #[]) Tryd.func75 (by kernel_rfl) ?_
 refine AtE.run 7 (fun W => by kernel_rfl) ?_
 refine AtE.load 0 1 (T := 58) (v := .slice none 0 0) (by kernel_rfl) ?_
 refine AtE.run 1 (fun W => by kernel_rfl) ?_
 refine AtE.appendS (T := 58) (U := 9) (E := 5) (z := .int .u8 (0 : Int)) (sz := 1) (bytes := 1) (x := .string s) s.size (bytesL s.data.toList) (by kernel_rfl) (srcStr (by kernel_rfl) _) H.1 (fun h0 => ?_) (fun h0 B1 cap r h1 h2 => ?_)
 ·replace H := H.2.1 h0
  refine AtE.norm (k' := [.inRegion (regOps [.code (EngB7s50 [1,1,0])]) [7,8,9], .code (EngB7s50 [1,1,1])]) (e' := [(1, .string s), (8, .pointer (some ⟨B, 0, none⟩)), (14, .slice none 0 0)]) (L' := [(B, .cells #[.pointer (some ⟨B, 0, none⟩), .slice none 0 0] 60)]) ?_ (by kernel_rfl)
  refine AtE.run 2 (fun W => by kernel_rfl) ?_
  refine AtE.store 0 1 (T := 58) (v := .slice none 0 0) (by kernel_rfl) ?_
  refine AtE.run 6 (fun W => by kernel_rfl) ?_
  refine AtE.letI 4 (kd := .i64) (n := (s.size : Int)) (by kernel_rfl) (fun t4 ht4 => ?_)
  replace H := H t4 ht4
  refine AtE.run 2 (fun W => by kernel_rfl) ?_
  exact AtE.ret Tryd.func50 (by kernel_rfl) H
 ·skip
  replace H := H.2.2 h0 B1 cap r h1 h2
  refine AtE.norm (k' := [.inRegion (regOps [.code (EngB7s50 [1,1,0])]) [7,8,9], .code (EngB7s50 [1,1,1])]) (e' := [(1, .string s), (8, .pointer (some ⟨B, 0, none⟩)), (14, .slice (some ⟨B1, 0, none⟩) s.size cap)]) (L' := [(B, .cells #[.pointer (some ⟨B, 0, none⟩), .slice none 0 0] 60), (B1, .cells ⟨((bytesL s.data.toList) ++ r)⟩ 5)]) ?_ (by kernel_rfl)
  refine AtE.run 2 (fun W => by kernel_rfl) ?_
  refine AtE.store 0 1 (T := 58) (v := .slice (some ⟨B1, 0, none⟩) s.size cap) (by kernel_rfl) ?_
  refine AtE.run 6 (fun W => by kernel_rfl) ?_
  refine AtE.letI 4 (kd := .i64) (n := (s.size : Int)) (by kernel_rfl) (fun t41 ht41 => ?_)
  replace H := H t41 ht41
  refine AtE.run 2 (fun W => by kernel_rfl) ?_
  exact AtE.ret Tryd.func50 (by kernel_rfl) H
theorem ws2_vc (B : Nat) (s : ByteArray) (Q : Nat) (n : Nat) (cap : Nat) (cs : List Value) {R : Ending → World → Prop} {S : List Nat} {w0 W : World} (hm : Mem [(B, .cells #[.pointer (some ⟨B, 0, none⟩), .slice (some ⟨Q, 0, none⟩) n (cap + 1)] 60), (Q, .cells ⟨cs⟩ 5)] S w0 W)
  (H :
   (n ≤ (cap + 1) ∧ (cs).length = (cap + 1) * 1) ∧ ((n + s.size) ≤ 9223372036854775807 ∧ (n + s.size) * 1 ≤ 140737488355328) ∧
   ∀ (B1 cap1 : Nat) (r : List Value), (n + s.size) ≤ cap1 → ((cs).take (n * 1) ++ (bytesL s.data.toList) ++ r).length = cap1 * 1 →
   ∀ t4 : Int, t4 = (s.size : Int) →
   Fin R [(B, .cells #[.pointer (some ⟨B, 0, none⟩), .slice (some ⟨B1, 0, none⟩) (n + s.size) cap1] 60), (B1, .cells ⟨((cs).take (n * 1) ++ (bytesL s.data.toList) ++ r)⟩ 5)] S w0 (.tuple #[.int .i64 t4, .nilIface])) :
  Calls Tryd.prog 50 ⟨[.pointer (some ⟨B, 0, none⟩), .string s]⟩ W R := by
 refine AtE.calls (nt := 19) Tryd.func50 (by kernel_rfl) hm ?_
 refine AtE.run 8 (fun W => by kernel_rfl) ?_
 refine AtE.inl 75 ⟨[.pointer (some ⟨B, 0, none⟩)]⟩ (fun W => by kernel_rfl) (by kernel_rfl) (fun W hm => AtE.calls (nt := 20) Tryd.func75 (by kernel_rfl) hm ?_)
 refine AtE.run 5 (fun W => by kernel_rfl) ?_
 refine AtE.load 0 0 (T := 57) (v := .pointer (some ⟨B, 0, none⟩)) (by kernel_rfl) ?_
 refine AtE.run 8 (fun W => by kernel_rfl) ?_
 refine AtE.load 0 0 (T := 57) (v := .pointer (some ⟨B, 0, none⟩)) (by kernel_rfl) ?_
 refine AtE.run 1 (fun W => by kernel_rfl) ?_
 refine AtE.neqSame (T := 57) (E := 60) (a := ⟨B, 0, none⟩) (by kernel_rfl) ?_
 refine AtE.run 3 (fun W => by kernel_rfl) ?_
 refine AtE.retK (v := .tuple #[]) Tryd.func75 (by kernel_rfl) ?_
 refine AtE.run 7 (fun W => by kernel_rfl) ?_
 refine AtE.load 0 1 (T := 58) (v := .slice (some ⟨Q, 0, none⟩) n (cap + 1)) (by kernel_rfl) ?_
 refine AtE.run 1 (fun W => by kernel_rfl) ?_
 refine AtE.appendOS 1 (T := 58) (U := 9) (E := 5) (z := .int .u8 (0 : Int)) (sz := 1) (bytes := 1) (len := n) (cap := (cap + 1)) (x := .string s) (cs := cs) s.size (bytesL s.data.toList) (by kernel_rfl) (srcStr (by kernel_rfl) _) H.1 H.2.1 (fun B1 cap1 r h1 h2 => ?_)
 replace H := H.2.2 B1 cap1 r h1 h2
 refine AtE.norm (k' := [.inRegion (regOps [.code (EngB7s50 [1,1,0])]) [7,8,9], .code (EngB7s50 [1,1,1])]) (e' := [(1, .string s), (8, .pointer (some ⟨B, 0, none⟩)), (14, .slice (some ⟨B1, 0, none⟩) (n + s.size) cap1)]) (L' := [(B, .cells #[.pointer (some ⟨B, 0, none⟩), .slice (some ⟨Q, 0, none⟩) n (cap + 1)] 60), (B1, .cells ⟨((cs).take (n * 1) ++ (bytesL s.data.toList) ++ r)⟩ 5)]) ?_ (by kernel_rfl)
 refine AtE.run 2 (fun W => by kernel_rfl) ?_
 refine AtE.store 0 1 (T := 58) (v := .slice (some ⟨B1, 0, none⟩) (n + s.size) cap1) (by kernel_rfl) ?_
 refine AtE.run 6 (fun W => by kernel_rfl) ?_
 refine AtE.letI 4 (kd := .i64) (n := (s.size : Int)) (by kernel_rfl) (fun t4 ht4 => ?_)
 replace H := H t4 ht4
 refine AtE.run 2 (fun W => by kernel_rfl) ?_
 exact AtE.ret Tryd.func50 (by kernel_rfl) H
theorem wb0_vc (B : Nat) (cv : Int) {R : Ending → World → Prop} {S : List Nat} {w0 W : World} (hm : Mem [(B, .cells #[.pointer none, .slice none 0 0] 60)] S w0 W)
  (H :
   ∀ B1 : Nat,
   ∀ (B2 cap : Nat) (r2 : List Value), 1 ≤ cap → (([.int .u8 cv] : List Value) ++ r2).length = cap * 1 →
   Fin R [(B, .cells #[.pointer (some ⟨B, 0, none⟩), .slice (some ⟨B2, 0, none⟩) 1 cap] 60), (B1, .cells #[.int .u8 cv] 5), (B2, .cells ⟨(([.int .u8 cv] : List Value) ++ r2)⟩ 5)] S w0 (.nilIface)) :
  Calls Tryd.prog 62 ⟨[.pointer (some ⟨B, 0, none⟩), .int .u8 cv]⟩ W R := by
 refine AtE.calls (nt := 17) Tryd.func62 (by kernel_rfl) hm ?_
 refine AtE.run 7 (fun W => by kernel_rfl) ?_
 refine AtE.inl 75 ⟨[.pointer (some ⟨B, 0, none⟩)]⟩ (fun W => by kernel_rfl) (by kernel_rfl) (fun W hm => AtE.calls (nt := 20) Tryd.func75 (by kernel_rfl) hm ?_)
 refine AtE.run 5 (fun W => by kernel_rfl) ?_
 refine AtE.load 0 0 (T := 57) (v := .pointer none) (by kernel_rfl) ?_
 refine AtE.run 6 (fun W => by kernel_rfl) ?_
 refine AtE.ptrConv 0 (t := 60) (B := B) (off := 0) (c := ([.pointer none, .slice none 0 0] : List Value)) (E := 60) (fz := (0, 0)) (sz := 1) (by kernel_rfl) (by simp) ?_
 refine AtE.run 1 (fun W => by kernel_rfl) ?_
 refine AtE.ptrBack 0 (u := 60) (B := B) (off := 0) (n := 2) (c := ([.pointer none, .slice none 0 0] : List Value)) (E := 60) (fz := (0, 0)) (by kernel_rfl) rfl ?_
 refine AtE.run 2 (fun W => by kernel_rfl) ?_
 refine AtE.store 0 0 (T := 57) (v := .pointer (some ⟨B, 0, none⟩)) (by kernel_rfl) ?_
 refine AtE.run 1 (fun W => by kernel_rfl) ?_
 refine AtE.retK (v := .tuple #[]) Tryd.func75 (by kernel_rfl) ?_
 refine AtE.norm (k' := [.inRegion (regOps [.code (EngB7s62 [1,0])]) [], .code (EngB7s62 [1,1])]) (e' := [(0, .pointer (some ⟨B, 0, none⟩)), (1, .int .u8 cv)]) (L' := [(B, .cells #[.pointer (some ⟨B, 0, none⟩), .slice none 0 0] 60)]) ?_ (by kernel_rfl)
 refine AtE.run 7 (fun W => by kernel_rfl) ?_
 refine AtE.load 0 1 (T := 58) (v := .slice none 0 0) (by kernel_rfl) ?_
 refine AtE.run 1 (fun W => by kernel_rfl) ?_
 refine AtE.new (fun B => .slice (some ⟨B, 0, none⟩) 1 1) (.cells #[.int .u8 cv] 5) (fun W => by kernel_rfl) (by kernel_rfl) (fun B1 => ?_)
 replace H := H B1
 refine AtE.appendN (T := 58) (E := 5) (z := .int .u8 (0 : Int)) (sz := 1) (bytes := 1) (a := ⟨B1, 0, none⟩) (m := 1) (c := 1) ([.int .u8 cv] : List Value) (by kernel_rfl) (show Src _ _ _ _ ([.int .u8 cv] : List Value) from Src.own (j := 1) (o := 0) (n := 1) (c := ([.int .u8 cv] : List Value)) (by kernel_rfl)) (by simp) (by omega) (by omega) (fun B2 cap r2 h1 h2 => ?_)
 replace H := H B2 cap r2 h1 h2
 refine AtE.run 2 (fun W => by kernel_rfl) ?_
 refine AtE.store 0 1 (T := 58) (v := .slice (some ⟨B2, 0, none⟩) 1 cap) (by kernel_rfl) ?_
 refine AtE.run 5 (fun W => by kernel_rfl) ?_
 exact AtE.ret Tryd.func62 (by kernel_rfl) H
theorem wb1_vc (B : Nat) (cv : Int) {R : Ending → World → Prop} {S : List Nat} {w0 W : World} (hm : Mem [(B, .cells #[.pointer (some ⟨B, 0, none⟩), .slice none 0 0] 60)] S w0 W)
  (H :
   ∀ B1 : Nat,
   ∀ (B2 cap : Nat) (r : List Value), 1 ≤ cap → (([.int .u8 cv] : List Value) ++ r).length = cap * 1 →
   Fin R [(B, .cells #[.pointer (some ⟨B, 0, none⟩), .slice (some ⟨B2, 0, none⟩) 1 cap] 60), (B1, .cells #[.int .u8 cv] 5), (B2, .cells ⟨(([.int .u8 cv] : List Value) ++ r)⟩ 5)] S w0 (.nilIface)) :
  Calls Tryd.prog 62 ⟨[.pointer (some ⟨B, 0, none⟩), .int .u8 cv]⟩ W R := by
 refine AtE.calls (nt := 17) Tryd.func62 (by kernel_rfl) hm ?_
 refine AtE.run 7 (fun W => by kernel_rfl) ?_
 refine AtE.inl 75 ⟨[.pointer (some ⟨B, 0, none⟩)]⟩ (fun W => by kernel_rfl) (by kernel_rfl) (fun W hm => AtE.calls (nt := 20) Tryd.func75 (by kernel_rfl) hm ?_)
 refine AtE.run 5 (fun W => by kernel_rfl) ?_
 refine AtE.load 0 0 (T := 57) (v := .pointer (some ⟨B, 0, none⟩)) (by kernel_rfl) ?_
 refine AtE.run 8 (fun W => by kernel_rfl) ?_
 refine AtE.load 0 0 (T := 57) (v := .pointer (some ⟨B, 0, none⟩)) (by kernel_rfl) ?_
 refine AtE.run 1 (fun W => by kernel_rfl) ?_
 refine AtE.neqSame (T := 57) (E := 60) (a := ⟨B, 0, none⟩) (by kernel_rfl) ?_
 refine AtE.run 3 (fun W => by kernel_rfl) ?_
 refine AtE.retK (v := .tuple #[]) Tryd.func75 (by kernel_rfl) ?_
 refine AtE.run 7 (fun W => by kernel_rfl) ?_
 refine AtE.load 0 1 (T := 58) (v := .slice none 0 0) (by kernel_rfl) ?_
 refine AtE.run 1 (fun W => by kernel_rfl) ?_
 refine AtE.new (fun B => .slice (some ⟨B, 0, none⟩) 1 1) (.cells #[.int .u8 cv] 5) (fun W => by kernel_rfl) (by kernel_rfl) (fun B1 => ?_)
 replace H := H B1
 refine AtE.norm (k' := [.inRegion (regOps [.code (EngB7s62 [1,1,0])]) [7,8,9,10], .code (EngB7s62 [1,1,1])]) (e' := [(7, .pointer (some ⟨B, 0, none⟩)), (11, .slice none 0 0), (13, .slice (some ⟨B1, 0, none⟩) 1 1)]) (L' := [(B, .cells #[.pointer (some ⟨B, 0, none⟩), .slice none 0 0] 60), (B1, .cells #[.int .u8 cv] 5)]) ?_ (by kernel_rfl)
 refine AtE.appendN (T := 58) (E := 5) (z := .int .u8 (0 : Int)) (sz := 1) (bytes := 1) (a := ⟨B1, 0, none⟩) (m := 1) (c := 1) ([.int .u8 cv] : List Value) (by kernel_rfl) (show Src _ _ _ _ ([.int .u8 cv] : List Value) from Src.own (j := 1) (o := 0) (n := 1) (c := ([.int .u8 cv] : List Value)) (by kernel_rfl)) (by simp) (by omega) (by omega) (fun B2 cap r h1 h2 => ?_)
 replace H := H B2 cap r h1 h2
 refine AtE.run 2 (fun W => by kernel_rfl) ?_
 refine AtE.store 0 1 (T := 58) (v := .slice (some ⟨B2, 0, none⟩) 1 cap) (by kernel_rfl) ?_
 refine AtE.run 5 (fun W => by kernel_rfl) ?_
 exact AtE.ret Tryd.func62 (by kernel_rfl) H
theorem wb2_vc (B : Nat) (cv : Int) (Q : Nat) (n : Nat) (cap : Nat) (cs : List Value) {R : Ending → World → Prop} {S : List Nat} {w0 W : World} (hm : Mem [(B, .cells #[.pointer (some ⟨B, 0, none⟩), .slice (some ⟨Q, 0, none⟩) n (cap + 1)] 60), (Q, .cells ⟨cs⟩ 5)] S w0 W)
  (H :
   ∀ B1 : Nat,
   (n ≤ (cap + 1) ∧ (cs).length = (cap + 1) * 1) ∧ ((n + 1) ≤ 9223372036854775807 ∧ (n + 1) * 1 ≤ 140737488355328) ∧
   ∀ (B2 cap1 : Nat) (r : List Value), (n + 1) ≤ cap1 → ((cs).take (n * 1) ++ ([.int .u8 cv] : List Value) ++ r).length = cap1 * 1 →
   Fin R [(B, .cells #[.pointer (some ⟨B, 0, none⟩), .slice (some ⟨B2, 0, none⟩) (n + 1) cap1] 60), (B1, .cells #[.int .u8 cv] 5), (B2, .cells ⟨((cs).take (n * 1) ++ ([.int .u8 cv] : List Value) ++ r)⟩ 5)] S w0 (.nilIface)) :
  Calls Tryd.prog 62 ⟨[.pointer (some ⟨B, 0, none⟩), .int .u8 cv]⟩ W R := by
 refine AtE.calls (nt := 17) Tryd.func62 (by kernel_rfl) hm ?_
 refine AtE.run 7 (fun W => by kernel_rfl) ?_
 refine AtE.inl 75 ⟨[.pointer (some ⟨B, 0, none⟩)]⟩ (fun W => by kernel_rfl) (by kernel_rfl) (fun W hm => AtE.calls (nt := 20) Tryd.func75 (by kernel_rfl) hm ?_)
 refine AtE.run 5 (fun W => by kernel_rfl) ?_
 refine AtE.load 0 0 (T := 57) (v := .pointer (some ⟨B, 0, none⟩)) (by kernel_rfl) ?_
 refine AtE.run 8 (fun W => by kernel_rfl) ?_
 refine AtE.load 0 0 (T := 57) (v := .pointer (some ⟨B, 0, none⟩)) (by kernel_rfl) ?_
 refine AtE.run 1 (fun W => by kernel_rfl) ?_
 refine AtE.neqSame (T := 57) (E := 60) (a := ⟨B, 0, none⟩) (by kernel_rfl) ?_
 refine AtE.run 3 (fun W => by kernel_rfl) ?_
 refine AtE.retK (v := .tuple #[]) Tryd.func75 (by kernel_rfl) ?_
 refine AtE.run 7 (fun W => by kernel_rfl) ?_
 refine AtE.load 0 1 (T := 58) (v := .slice (some ⟨Q, 0, none⟩) n (cap + 1)) (by kernel_rfl) ?_
 refine AtE.run 1 (fun W => by kernel_rfl) ?_
 refine AtE.new (fun B => .slice (some ⟨B, 0, none⟩) 1 1) (.cells #[.int .u8 cv] 5) (fun W => by kernel_rfl) (by kernel_rfl) (fun B1 => ?_)
 replace H := H B1
 refine AtE.norm (k' := [.inRegion (regOps [.code (EngB7s62 [1,1,0])]) [7,8,9,10], .code (EngB7s62 [1,1,1])]) (e' := [(7, .pointer (some ⟨B, 0, none⟩)), (11, .slice (some ⟨Q, 0, none⟩) n (cap + 1)), (13, .slice (some ⟨B1, 0, none⟩) 1 1)]) (L' := [(B, .cells #[.pointer (some ⟨B, 0, none⟩), .slice (some ⟨Q, 0, none⟩) n (cap + 1)] 60), (Q, .cells ⟨cs⟩ 5), (B1, .cells #[.int .u8 cv] 5)]) ?_ (by kernel_rfl)
 refine AtE.appendO 1 (T := 58) (E := 5) (z := .int .u8 (0 : Int)) (sz := 1) (bytes := 1) (n := n) (cap := (cap + 1)) (a := ⟨B1, 0, none⟩) (m := 1) (c := 1) (cs := cs) ([.int .u8 cv] : List Value) (by kernel_rfl) (show Src _ _ _ _ ([.int .u8 cv] : List Value) from Src.own (j := 2) (o := 0) (n := 1) (c := ([.int .u8 cv] : List Value)) (by kernel_rfl)) (by simp) (by simp [Value.oneCell']) H.1 H.2.1 (fun B2 cap1 r h1 h2 => ?_)
 replace H := H.2.2 B2 cap1 r h1 h2
 refine AtE.run 2 (fun W => by kernel_rfl) ?_
 refine AtE.store 0 1 (T := 58) (v := .slice (some ⟨B2, 0, none⟩) (n + 1) cap1) (by kernel_rfl) ?_
 refine AtE.run 5 (fun W => by kernel_rfl) ?_
 exact AtE.ret Tryd.func62 (by kernel_rfl) H
theorem bs0_vc (B : Nat) {R : Ending → World → Prop} {S : List Nat} {w0 W : World} (hm : Mem [(B, .cells #[.pointer none, .slice none 0 0] 60)] S w0 W)
  (H :
   Fin R [(B, .cells #[.pointer none, .slice none 0 0] 60)] S w0 (.string (⟨#[]⟩))) :
  Calls Tryd.prog 51 ⟨[.pointer (some ⟨B, 0, none⟩)]⟩ W R := by
 refine AtE.calls (nt := 14) Tryd.func51 (by kernel_rfl) hm ?_
 refine AtE.run 5 (fun W => by kernel_rfl) ?_
 refine AtE.norm (k' := [.code (EngB7s51 [1,0]), .code (EngB7s51 [1,1])]) (e' := [(0, .pointer (some ⟨B, 0, none⟩))]) (L' := [(B, .cells #[.pointer none, .slice none 0 0] 60)]) ?_ (by kernel_rfl)
 refine AtE.draw 10 (by kernel_rfl) ?_
 refine AtQ.pure (by kernel_rfl) (fun W => by kernel_rfl) ?_
 refine AtQ.pure (by kernel_rfl) (fun W => by kernel_rfl) ?_
 refine AtQ.pure (by kernel_rfl) (fun W => by kernel_rfl) ?_
 refine AtQ.load 0 1 (T := 58) (v := .slice none 0 0) (by kernel_rfl) ?_
 refine AtQ.pure (by kernel_rfl) (fun W => by kernel_rfl) ?_
 refine AtQ.pure (by kernel_rfl) (fun W => by kernel_rfl) ?_
 refine AtQ.pure (by kernel_rfl) (fun W => by kernel_rfl) ?_
 refine AtQ.pure (by kernel_rfl) (fun W => by kernel_rfl) ?_
 refine AtQ.load 0 1 (T := 58) (v := .slice none 0 0) (by kernel_rfl) ?_
 refine AtQ.pure (by kernel_rfl) (fun W => by kernel_rfl) ?_
 refine AtQ.done (by kernel_rfl) ?_
 refine AtE.run 3 (fun W => by kernel_rfl) ?_
 exact AtE.ret Tryd.func51 (by kernel_rfl) H
theorem bs1_vc (B : Nat) {R : Ending → World → Prop} {S : List Nat} {w0 W : World} (hm : Mem [(B, .cells #[.pointer (some ⟨B, 0, none⟩), .slice none 0 0] 60)] S w0 W)
  (H :
   Fin R [(B, .cells #[.pointer (some ⟨B, 0, none⟩), .slice none 0 0] 60)] S w0 (.string (⟨#[]⟩))) :
  Calls Tryd.prog 51 ⟨[.pointer (some ⟨B, 0, none⟩)]⟩ W R := by
 refine AtE.calls (nt := 14) Tryd.func51 (by kernel_rfl) hm ?_
 refine AtE.run 5 (fun W => by kernel_rfl) ?_
 refine AtE.norm (k' := [.code (EngB7s51 [1,0]), .code (EngB7s51 [1,1])]) (e' := [(0, .pointer (some ⟨B, 0, none⟩))]) (L' := [(B, .cells #[.pointer (some ⟨B, 0, none⟩), .slice none 0 0] 60)]) ?_ (by kernel_rfl)
 refine AtE.draw 10 (by kernel_rfl) ?_
 refine AtQ.pure (by kernel_rfl) (fun W => by kernel_rfl) ?_
 refine AtQ.pure (by kernel_rfl) (fun W => by kernel_rfl) ?_
 refine AtQ.pure (by kernel_rfl) (fun W => by kernel_rfl) ?_
 refine AtQ.load 0 1 (T := 58) (v := .slice none 0 0) (by kernel_rfl) ?_
 refine AtQ.pure (by kernel_rfl) (fun W => by kernel_rfl) ?_
 refine AtQ.pure (by kernel_rfl) (fun W => by kernel_rfl) ?_
 refine AtQ.pure (by kernel_rfl) (fun W => by kernel_rfl) ?_
 refine AtQ.pure (by kernel_rfl) (fun W => by kernel_rfl) ?_
 refine AtQ.load 0 1 (T := 58) (v := .slice none 0 0) (by kernel_rfl) ?_
 refine AtQ.pure (by kernel_rfl) (fun W => by kernel_rfl) ?_
 refine AtQ.done (by kernel_rfl) ?_
 refine AtE.run 3 (fun W => by kernel_rfl) ?_
 exact AtE.ret Tryd.func51 (by kernel_rfl) H
theorem bs2_vc (B : Nat) (Q : Nat) (n : Nat) (cap : Nat) (cs : List Value) {R : Ending → World → Prop} {S : List Nat} {w0 W : World} (hm : Mem [(B, .cells #[.pointer (some ⟨B, 0, none⟩), .slice (some ⟨Q, 0, none⟩) n (cap + 1)] 60), (Q, .cells ⟨cs⟩ 5)] S w0 W)
  (H :
   ∃ bs : List UInt8, ((cs).take n = bytesL bs ∧ bs.length = n ∧ 0 < n ∧ n ≤ 9223372036854775807) ∧
   ∀ t2 : ByteArray, t2 = ⟨bs.toArray⟩ →
   Fin R [(B, .cells #[.pointer (some ⟨B, 0, none⟩), .slice (some ⟨Q, 0, none⟩) n (cap + 1)] 60)] S w0 (.string t2)) :
  Calls Tryd.prog 51 ⟨[.pointer (some ⟨B, 0, none⟩)]⟩ W R := by
 refine AtE.calls (nt := 14) Tryd.func51 (by kernel_rfl) hm ?_
 refine AtE.run 5 (fun W => by kernel_rfl) ?_
 refine AtE.norm (k' := [.code (EngB7s51 [1,0]), .code (EngB7s51 [1,1])]) (e' := [(0, .pointer (some ⟨B, 0, none⟩))]) (L' := [(B, .cells #[.pointer (some ⟨B, 0, none⟩), .slice (some ⟨Q, 0, none⟩) n (cap + 1)] 60), (Q, .cells ⟨cs⟩ 5)]) ?_ (by kernel_rfl)
 refine AtE.draw 10 (by kernel_rfl) ?_
 refine AtQ.pure (by kernel_rfl) (fun W => by kernel_rfl) ?_
 refine AtQ.pure (by kernel_rfl) (fun W => by kernel_rfl) ?_
 refine AtQ.pure (by kernel_rfl) (fun W => by kernel_rfl) ?_
 refine AtQ.load 0 1 (T := 58) (v := .slice (some ⟨Q, 0, none⟩) n (cap + 1)) (by kernel_rfl) ?_
 refine AtQ.pure (by kernel_rfl) (fun W => by kernel_rfl) ?_
 refine AtQ.pure (by kernel_rfl) (fun W => by kernel_rfl) ?_
 refine AtQ.pure (by kernel_rfl) (fun W => by kernel_rfl) ?_
 refine AtQ.pure (by kernel_rfl) (fun W => by kernel_rfl) ?_
 refine AtQ.load 0 1 (T := 58) (v := .slice (some ⟨Q, 0, none⟩) n (cap + 1)) (by kernel_rfl) ?_
 refine AtQ.pure (by kernel_rfl) (fun W => by kernel_rfl) ?_
 refine AtQ.done (by kernel_rfl) ?_
 obtain ⟨bs, hb, H⟩ := H
 refine AtE.unsafeStr 1 (B := Q) (E := 5) (pt := 90) (it := 3) (n := n) (c := cs) (l := bs) (by kernel_rfl) hb ?_
 refine AtE.run 1 (fun W => by kernel_rfl) ?_
 refine AtE.letS 2 (n := ⟨bs.toArray⟩) (by kernel_rfl) (fun t2 ht2 => ?_)
 replace H := H t2 ht2
 refine AtE.run 1 (fun W => by kernel_rfl) ?_
 exact AtE.ret Tryd.func51 (by kernel_rfl) H
end Go.Eng
namespace Go.Eng
open Go Go.RowKit Go.Proofs Wire
set_option linter.unusedVariables false
theorem dkFin {K : Value → SHeap → Prop} {L : SHeap} {S : List Nat} {W : World} {v : Value} (h : K v L) : Fin (fun e W' => ∃ v L', e = .returned v ∧ Mem L' S W W' ∧ K v L') L S W v :=
  fun _ hm => ⟨v, L, rfl, hm, h⟩
theorem dkSel (is : List Nat) {K : Value → SHeap → Prop} {L L' : SHeap} {S : List Nat} {W : World} {v : Value} (hs : (selL L is, nodupB is) = (L', true)) (h : K v L') :
    Fin (fun e W' => ∃ v L', e = .returned v ∧ Mem L' S W W' ∧ K v L') L S W v := by
  simp only [Prod.mk.injEq] at hs
  obtain ⟨rfl, h2⟩ := hs
  exact fun _ hm => ⟨v, _, rfl, hm.sel (nodupB_spec h2), h⟩
def EffW (P : Program) (g : FuncId) (args : Array Value) (L0 : SHeap) (Pre : World → Prop) (K : Value → SHeap → Prop) : Prop :=
  ∀ W, Mem L0 (L0.map (·.1)) W W → Pre W → Calls P g args W fun e W' => ∃ v L', e = .returned v ∧ Mem L' (L0.map (·.1)) W W' ∧ K v L'
theorem CallH.effW {P : Program} {L : SHeap} {S : List Nat} {w0 : World} {g : FuncId} {args : Array Value} {L0 L1 : SHeap} {Pre : World → Prop} {K K' : Value → SHeap → Prop} (h : EffW P g args L0 Pre K) (hpre : ∀ W, Mem L S w0 W → Pre W) (hp : (L0 ++ L1).Perm L)
    (hK : ∀ v L', K v L' → ∃ L2, (L' ++ L1).Perm L2 ∧ K' v L2) : CallH P g args L S w0 K' := by
  intro W hm
  have h2 : EffC P g args L0 K → CallH P g args L S w0 K' := fun h => CallH.eff h hp hK
  have hm' : Mem (L0 ++ L1) S w0 W := hm.perm hp
  have hnd := hm'.nodup
  rw [List.map_append, List.nodup_append] at hnd
  obtain ⟨n0, n1, nd⟩ := hnd
  refine (h W ⟨n0, fun p hp => hm'.here p (List.mem_append_left _ hp), fun p hp => .inr (List.mem_map_of_mem hp), Kept.refl _ W⟩ (hpre W hm)).mono ?_
  rintro e W' ⟨v, L', rfl, hL, hk⟩
  obtain ⟨L2, hp2, hk2⟩ := hK v L' hk
  refine ⟨v, L2, rfl, Mem.perm (L := L' ++ L1) ⟨?_, ?_, ?_, ?_⟩ hp2.symm, hk2⟩
  · rw [List.map_append, List.nodup_append]
    refine ⟨hL.nodup, n1, ?_⟩
    intro a ha b hb hab
    subst hab
    obtain ⟨p, hp, rfl⟩ := List.mem_map.1 ha
    obtain ⟨q, hq, hqe⟩ := List.mem_map.1 hb
    rcases hL.own p hp with h1 | h1
    · have := hm'.lt (List.mem_append_right L0 hq)
      omega
    · exact nd _ h1 _ hb rfl
  · intro p hp
    rcases List.mem_append.1 hp with hp | hp
    · exact hL.here p hp
    · rw [hL.kept.block p.1 (hm'.lt (List.mem_append_right _ hp)) (fun h0 => nd _ h0 _ (List.mem_map_of_mem hp) rfl)]
      exact hm'.here p (List.mem_append_right _ hp)
  · intro p hp
    rcases List.mem_append.1 hp with hp | hp
    · rcases hL.own p hp with h1 | h1
      · exact .inl (Nat.le_trans hm'.kept.size h1)
      · obtain ⟨q, hq, hqe⟩ := List.mem_map.1 h1
        have := hm'.own q (List.mem_append_left _ hq)
        rw [hqe] at this; exact this
    · exact hm'.own p (List.mem_append_right _ hp)
  · refine ⟨hL.kept.os.trans hm'.kept.os, hL.kept.tape.trans hm'.kept.tape, hL.kept.output.trans hm'.kept.output, Nat.le_trans hm'.kept.size hL.kept.size, fun i hi hs => ?_⟩
    rw [hL.kept.block i (Nat.lt_of_lt_of_le hi hm'.kept.size) (fun h0 => ?_)]
    · exact hm'.kept.block i hi hs
    · obtain ⟨q, hq, hqe⟩ := List.mem_map.1 h0
      rcases hm'.own q (List.mem_append_left _ hq) with h1 | h1
      · rw [hqe] at h1; omega
      · rw [hqe] at h1; exact hs h1
abbrev bHdr (B : Nat) (p : Value) (v : Value) : Nat × Obj := (B, .cells #[p, v] 60)
def BRep (B : Nat) (s : List UInt8) (F : SHeap) : Prop :=
  (s = [] ∧ F = [bHdr B (.pointer none) (.slice none 0 0)]) ∨ (s = [] ∧ F = [bHdr B (.pointer (some ⟨B, 0, none⟩)) (.slice none 0 0)]) ∨
  ∃ (Q cap : Nat) (cs : List Value), 0 < s.length ∧ s.length ≤ cap + 1 ∧ cs.length = (cap + 1) * 1 ∧ cs.take s.length = bytesL s ∧
    F = [bHdr B (.pointer (some ⟨B, 0, none⟩)) (.slice (some ⟨Q, 0, none⟩) s.length (cap + 1)), (Q, .cells ⟨cs⟩ 5)]
theorem BRep.new (B : Nat) : BRep B [] [bHdr B (.pointer none) (.slice none 0 0)] := .inl ⟨rfl, rfl⟩
theorem BRep.row {B Q cap : Nat} {s : List UInt8} {cs : List Value} (h0 : 0 < s.length) (h1 : s.length ≤ cap) (h2 : cs.length = cap * 1) (h3 : cs.take s.length = bytesL s) :
    BRep B s [bHdr B (.pointer (some ⟨B, 0, none⟩)) (.slice (some ⟨Q, 0, none⟩) s.length cap), (Q, .cells ⟨cs⟩ 5)] := by
  obtain ⟨c, rfl⟩ : ∃ c, cap = c + 1 := ⟨cap - 1, by omega⟩
  exact .inr (.inr ⟨Q, c, cs, h0, h1, h2, h3, rfl⟩)
theorem take_bytes (l : List UInt8) (r : List Value) : (bytesL l ++ r).take l.length = bytesL l := by
  rw [List.take_append_of_le_length (by rw [bytesL_len]; exact Nat.le_refl _), List.take_of_length_le (by rw [bytesL_len]; exact Nat.le_refl _)]
theorem write_e {B : Nat} {l : List UInt8} {s : ByteArray} {F : SHeap} (h : BRep B l F) (hb : l.length + s.size ≤ 140737488355328) :
    EffC Tryd.prog 50 ⟨[.pointer (some ⟨B, 0, none⟩), .string s]⟩ F (fun v F' => v = .tuple #[.int .i64 (s.size : Int), .nilIface] ∧ BRep B (l ++ bts s) F') := by
  intro W hm
  have hbl : (bts s).length = s.size := bts_len s
  rcases h with ⟨rfl, rfl⟩ | ⟨rfl, rfl⟩ | ⟨Q, cap, cs, h0, h1, h2, h3, rfl⟩
  · simp only [List.length_nil, Nat.zero_add] at hb
    refine ws0_vc B s hm ⟨by omega, fun hz => ?_, fun hp B1 cap r h1 h2 => ?_⟩
    · rintro _ rfl
      exact dkFin ⟨rfl, .inr (.inl ⟨by rw [List.nil_append]; exact List.length_eq_zero_iff.1 (by omega), rfl⟩)⟩
    · rintro _ rfl
      refine dkFin ⟨rfl, ?_⟩
      rw [List.nil_append, ← hbl]
      exact BRep.row (by omega) (by omega) h2 (take_bytes _ _)
  · simp only [List.length_nil, Nat.zero_add] at hb
    refine ws1_vc B s hm ⟨by omega, fun hz => ?_, fun hp B1 cap r h1 h2 => ?_⟩
    · rintro _ rfl
      exact dkFin ⟨rfl, .inr (.inl ⟨by rw [List.nil_append]; exact List.length_eq_zero_iff.1 (by omega), rfl⟩)⟩
    · rintro _ rfl
      refine dkFin ⟨rfl, ?_⟩
      rw [List.nil_append, ← hbl]
      exact BRep.row (by omega) (by omega) h2 (take_bytes _ _)
  · refine ws2_vc B s Q l.length cap cs hm ⟨⟨h1, h2⟩, by omega, fun B1 cap1 r q1 q2 => ?_⟩
    rintro _ rfl
    refine dkFin ⟨rfl, ?_⟩
    rw [Nat.mul_one, h3, ← bytesL_app] at q2 ⊢
    have e : l.length + s.size = (l ++ bts s).length := by rw [List.length_append, hbl]
    rw [e] at q1 ⊢
    exact BRep.row (by omega) q1 q2 (take_bytes _ _)
theorem byte_e {B : Nat} {l : List UInt8} {x : UInt8} {F : SHeap} (h : BRep B l F) (hb : l.length + 1 ≤ 140737488355328) :
    EffC Tryd.prog 62 ⟨[.pointer (some ⟨B, 0, none⟩), .int .u8 (x.toNat : Int)]⟩ F (fun v F' => v = .nilIface ∧ BRep B (l ++ [x]) F') := by
  intro W hm
  rcases h with ⟨rfl, rfl⟩ | ⟨rfl, rfl⟩ | ⟨Q, cap, cs, h0, h1, h2, h3, rfl⟩
  · refine wb0_vc B _ hm fun B1 B2 cap r h1 h2 => dkSel [0, 2] rfl ⟨rfl, ?_⟩
    exact BRep.row (s := [x]) (by simp) h1 h2 (take_bytes [x] r)
  · refine wb1_vc B _ hm fun B1 B2 cap r h1 h2 => dkSel [0, 2] rfl ⟨rfl, ?_⟩
    exact BRep.row (s := [x]) (by simp) h1 h2 (take_bytes [x] r)
  · refine wb2_vc B _ Q l.length cap cs hm fun B1 => ⟨⟨h1, h2⟩, by omega, fun B2 cap1 r q1 q2 => dkSel [0, 2] rfl ⟨rfl, ?_⟩⟩
    have e2 : bytesL l ++ [.int .u8 (x.toNat : Int)] = bytesL (l ++ [x]) := by rw [bytesL_app]; rfl
    rw [Nat.mul_one, h3, e2] at q2 ⊢
    have e : l.length + 1 = (l ++ [x]).length := by simp
    rw [e] at q1 ⊢
    exact BRep.row (by omega) q1 q2 (take_bytes _ _)
theorem string_e {B : Nat} {l : List UInt8} {F : SHeap} (h : BRep B l F) (hb : l.length ≤ 9223372036854775807) : EffC Tryd.prog 51 ⟨[.pointer (some ⟨B, 0, none⟩)]⟩ F (fun v F' => v = .string ⟨l.toArray⟩) := by
  intro W hm
  rcases h with ⟨rfl, rfl⟩ | ⟨rfl, rfl⟩ | ⟨Q, cap, cs, h0, h1, h2, h3, rfl⟩
  · exact bs0_vc B hm (dkFin rfl)
  · exact bs1_vc B hm (dkFin rfl)
  · refine bs2_vc B Q l.length cap cs hm ⟨l, ⟨h3, rfl, h0, hb⟩, ?_⟩
    rintro _ rfl
    exact dkFin rfl
end Go.Eng
