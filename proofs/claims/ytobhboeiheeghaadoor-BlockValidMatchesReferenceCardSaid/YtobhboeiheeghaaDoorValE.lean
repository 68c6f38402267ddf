/- A part of the proof: the engine by which functions are walked, verification conditions that a program of the prover wrote, contracts and plain laws; no claim of its own. -/
import Derived.Test.YtobhboeiheeghaaDoorChecked
import Derived.Test.YtobhboeiheeghaaDoorValD
namespace Go.Eng
open Go Go.RowKit Go.Proofs
set_option linter.unusedVariables false
set_option maxRecDepth 100000
noncomputable abbrev EngB11s86 := sub (Eng.body Tryd.f86)
def iter_c0 (B : Nat) (yl1 : Nat) (start : Int) (atv : Int) (m0 : ByteArray) (F1 : SHeap) (S : List Nat) (w0 : World) (R : Ending → World → Prop) : Prop :=
 AtE Tryd.prog 86 55 [.code (EngB11s86 [0,1,1,0,1,0,0]), .inLoop (EngB11s86 [0,1,1,0,1,0,0]), .inBlock 0, .code (EngB11s86 [0,1,1,1]), .inScope (EngB11s86 [0])] [(0, .func (.yield yl1) #[] #[]), (1, .pointer (some ⟨B, 0, none⟩)), (3, .int .i64 start), (4, .int .i64 atv)] ((B, .cells #[.string m0] 9) :: F1) S w0 (nrm R)
theorem iter_c0_vc (B : Nat) (yl1 : Nat) (start : Int) (atv : Int) (m0 : ByteArray) (F1 : SHeap) {R : Ending → World → Prop} {S : List Nat} {w0 : World}
  (H :
   ((atv < (m0.size : Int)) →
    (0 ≤ atv ∧ atv < m0.size) ∧
    (((bat m0 atv) = (46 : Int)) →
     CallH Tryd.prog 87 ⟨[.string m0, .int .i64 atv]⟩ ((B, .cells #[.string m0] 9) :: F1) S w0 (fun v L' => ∃ (r1 : Bool), v = (.bool r1) ∧ L' = ((B, .cells #[.string m0] 9) :: F1) ∧
      ((r1 = true) →
       ∀ atv1 : Int, atv1 = (IntKind.i64.wrap (atv + (1 : Int))) →
       iter_c0 B yl1 start atv1 m0 F1 S w0 R) ∧
       ((r1 = false) →
       (((IntKind.i64.wrap (atv + (1 : Int))) < (m0.size : Int)) →
        (0 ≤ (IntKind.i64.wrap (atv + (1 : Int))) ∧ (IntKind.i64.wrap (atv + (1 : Int))) < m0.size) ∧
        ((¬ ((bat m0 (IntKind.i64.wrap (atv + (1 : Int)))) = (32 : Int))) →
         ∀ atv2 : Int, atv2 = (IntKind.i64.wrap (atv + (1 : Int))) →
         iter_c0 B yl1 start atv2 m0 F1 S w0 R) ∧
         (((bat m0 (IntKind.i64.wrap (atv + (1 : Int)))) = (32 : Int)) →
         (0 ≤ start ∧ start ≤ (IntKind.i64.wrap (atv + (1 : Int))) ∧ (IntKind.i64.wrap (atv + (1 : Int))) ≤ m0.size) ∧
         CallH Tryd.prog 88 ⟨[.string (m0.extract (Int.toNat start) (Int.toNat (IntKind.i64.wrap (atv + (1 : Int))))), .string (⟨#[32]⟩)]⟩ ((B, .cells #[.string m0] 9) :: F1) S w0 (fun v L' => ∃ (r21 : ByteArray), v = (.string r21) ∧ L' = ((B, .cells #[.string m0] 9) :: F1) ∧
          YieldH Tryd.prog yl1 ⟨[.string r21]⟩ ((B, .cells #[.string m0] 9) :: F1) S w0 (fun v L' => ∃ (go : Bool) (F2 : SHeap), v = .bool go ∧ L' = ((B, .cells #[.string m0] 9) :: F2) ∧
           ((go = true) →
            ∀ start1 : Int, start1 = (IntKind.i64.wrap (atv + (1 : Int))) →
            ∀ atv3 : Int, atv3 = (IntKind.i64.wrap (atv + (1 : Int))) →
            iter_c0 B yl1 start1 atv3 m0 F2 S w0 R) ∧
            ((go = false) →
            Fin R ((B, .cells #[.string m0] 9) :: F2) S w0 (.tuple #[])))))) ∧
        ((¬ ((IntKind.i64.wrap (atv + (1 : Int))) < (m0.size : Int))) →
        (0 ≤ start ∧ start ≤ (IntKind.i64.wrap (atv + (1 : Int))) ∧ (IntKind.i64.wrap (atv + (1 : Int))) ≤ m0.size) ∧
        CallH Tryd.prog 88 ⟨[.string (m0.extract (Int.toNat start) (Int.toNat (IntKind.i64.wrap (atv + (1 : Int))))), .string (⟨#[32]⟩)]⟩ ((B, .cells #[.string m0] 9) :: F1) S w0 (fun v L' => ∃ (r31 : ByteArray), v = (.string r31) ∧ L' = ((B, .cells #[.string m0] 9) :: F1) ∧
         YieldH Tryd.prog yl1 ⟨[.string r31]⟩ ((B, .cells #[.string m0] 9) :: F1) S w0 (fun v L' => ∃ (go1 : Bool) (F3 : SHeap), v = .bool go1 ∧ L' = ((B, .cells #[.string m0] 9) :: F3) ∧
          ((go1 = true) →
           ∀ start2 : Int, start2 = (IntKind.i64.wrap (atv + (1 : Int))) →
           ∀ atv4 : Int, atv4 = (IntKind.i64.wrap (atv + (1 : Int))) →
           iter_c0 B yl1 start2 atv4 m0 F3 S w0 R) ∧
           ((go1 = false) →
           Fin R ((B, .cells #[.string m0] 9) :: F3) S w0 (.tuple #[])))))))) ∧
     ((¬ ((bat m0 atv) = (46 : Int))) →
     (((bat m0 atv) = (33 : Int)) →
      (((IntKind.i64.wrap (atv + (1 : Int))) < (m0.size : Int)) →
       (0 ≤ (IntKind.i64.wrap (atv + (1 : Int))) ∧ (IntKind.i64.wrap (atv + (1 : Int))) < m0.size) ∧
       ((¬ ((bat m0 (IntKind.i64.wrap (atv + (1 : Int)))) = (32 : Int))) →
        ∀ atv5 : Int, atv5 = (IntKind.i64.wrap (atv + (1 : Int))) →
        iter_c0 B yl1 start atv5 m0 F1 S w0 R) ∧
        (((bat m0 (IntKind.i64.wrap (atv + (1 : Int)))) = (32 : Int)) →
        (0 ≤ start ∧ start ≤ (IntKind.i64.wrap (atv + (1 : Int))) ∧ (IntKind.i64.wrap (atv + (1 : Int))) ≤ m0.size) ∧
        CallH Tryd.prog 88 ⟨[.string (m0.extract (Int.toNat start) (Int.toNat (IntKind.i64.wrap (atv + (1 : Int))))), .string (⟨#[32]⟩)]⟩ ((B, .cells #[.string m0] 9) :: F1) S w0 (fun v L' => ∃ (r41 : ByteArray), v = (.string r41) ∧ L' = ((B, .cells #[.string m0] 9) :: F1) ∧
         YieldH Tryd.prog yl1 ⟨[.string r41]⟩ ((B, .cells #[.string m0] 9) :: F1) S w0 (fun v L' => ∃ (go2 : Bool) (F4 : SHeap), v = .bool go2 ∧ L' = ((B, .cells #[.string m0] 9) :: F4) ∧
          ((go2 = true) →
           ∀ start3 : Int, start3 = (IntKind.i64.wrap (atv + (1 : Int))) →
           ∀ atv6 : Int, atv6 = (IntKind.i64.wrap (atv + (1 : Int))) →
           iter_c0 B yl1 start3 atv6 m0 F4 S w0 R) ∧
           ((go2 = false) →
           Fin R ((B, .cells #[.string m0] 9) :: F4) S w0 (.tuple #[])))))) ∧
       ((¬ ((IntKind.i64.wrap (atv + (1 : Int))) < (m0.size : Int))) →
       (0 ≤ start ∧ start ≤ (IntKind.i64.wrap (atv + (1 : Int))) ∧ (IntKind.i64.wrap (atv + (1 : Int))) ≤ m0.size) ∧
       CallH Tryd.prog 88 ⟨[.string (m0.extract (Int.toNat start) (Int.toNat (IntKind.i64.wrap (atv + (1 : Int))))), .string (⟨#[32]⟩)]⟩ ((B, .cells #[.string m0] 9) :: F1) S w0 (fun v L' => ∃ (r51 : ByteArray), v = (.string r51) ∧ L' = ((B, .cells #[.string m0] 9) :: F1) ∧
        YieldH Tryd.prog yl1 ⟨[.string r51]⟩ ((B, .cells #[.string m0] 9) :: F1) S w0 (fun v L' => ∃ (go3 : Bool) (F5 : SHeap), v = .bool go3 ∧ L' = ((B, .cells #[.string m0] 9) :: F5) ∧
         ((go3 = true) →
          ∀ start4 : Int, start4 = (IntKind.i64.wrap (atv + (1 : Int))) →
          ∀ atv7 : Int, atv7 = (IntKind.i64.wrap (atv + (1 : Int))) →
          iter_c0 B yl1 start4 atv7 m0 F5 S w0 R) ∧
          ((go3 = false) →
          Fin R ((B, .cells #[.string m0] 9) :: F5) S w0 (.tuple #[])))))) ∧
      ((¬ ((bat m0 atv) = (33 : Int))) →
      (((bat m0 atv) = (63 : Int)) →
       (((IntKind.i64.wrap (atv + (1 : Int))) < (m0.size : Int)) →
        (0 ≤ (IntKind.i64.wrap (atv + (1 : Int))) ∧ (IntKind.i64.wrap (atv + (1 : Int))) < m0.size) ∧
        ((¬ ((bat m0 (IntKind.i64.wrap (atv + (1 : Int)))) = (32 : Int))) →
         ∀ atv8 : Int, atv8 = (IntKind.i64.wrap (atv + (1 : Int))) →
         iter_c0 B yl1 start atv8 m0 F1 S w0 R) ∧
         (((bat m0 (IntKind.i64.wrap (atv + (1 : Int)))) = (32 : Int)) →
         (0 ≤ start ∧ start ≤ (IntKind.i64.wrap (atv + (1 : Int))) ∧ (IntKind.i64.wrap (atv + (1 : Int))) ≤ m0.size) ∧
         CallH Tryd.prog 88 ⟨[.string (m0.extract (Int.toNat start) (Int.toNat (IntKind.i64.wrap (atv + (1 : Int))))), .string (⟨#[32]⟩)]⟩ ((B, .cells #[.string m0] 9) :: F1) S w0 (fun v L' => ∃ (r61 : ByteArray), v = (.string r61) ∧ L' = ((B, .cells #[.string m0] 9) :: F1) ∧
          YieldH Tryd.prog yl1 ⟨[.string r61]⟩ ((B, .cells #[.string m0] 9) :: F1) S w0 (fun v L' => ∃ (go4 : Bool) (F6 : SHeap), v = .bool go4 ∧ L' = ((B, .cells #[.string m0] 9) :: F6) ∧
           ((go4 = true) →
            ∀ start5 : Int, start5 = (IntKind.i64.wrap (atv + (1 : Int))) →
            ∀ atv9 : Int, atv9 = (IntKind.i64.wrap (atv + (1 : Int))) →
            iter_c0 B yl1 start5 atv9 m0 F6 S w0 R) ∧
            ((go4 = false) →
            Fin R ((B, .cells #[.string m0] 9) :: F6) S w0 (.tuple #[])))))) ∧
        ((¬ ((IntKind.i64.wrap (atv + (1 : Int))) < (m0.size : Int))) →
        (0 ≤ start ∧ start ≤ (IntKind.i64.wrap (atv + (1 : Int))) ∧ (IntKind.i64.wrap (atv + (1 : Int))) ≤ m0.size) ∧
        CallH Tryd.prog 88 ⟨[.string (m0.extract (Int.toNat start) (Int.toNat (IntKind.i64.wrap (atv + (1 : Int))))), .string (⟨#[32]⟩)]⟩ ((B, .cells #[.string m0] 9) :: F1) S w0 (fun v L' => ∃ (r71 : ByteArray), v = (.string r71) ∧ L' = ((B, .cells #[.string m0] 9) :: F1) ∧
         YieldH Tryd.prog yl1 ⟨[.string r71]⟩ ((B, .cells #[.string m0] 9) :: F1) S w0 (fun v L' => ∃ (go5 : Bool) (F7 : SHeap), v = .bool go5 ∧ L' = ((B, .cells #[.string m0] 9) :: F7) ∧
          ((go5 = true) →
           ∀ start6 : Int, start6 = (IntKind.i64.wrap (atv + (1 : Int))) →
           ∀ atv10 : Int, atv10 = (IntKind.i64.wrap (atv + (1 : Int))) →
           iter_c0 B yl1 start6 atv10 m0 F7 S w0 R) ∧
           ((go5 = false) →
           Fin R ((B, .cells #[.string m0] 9) :: F7) S w0 (.tuple #[])))))) ∧
       ((¬ ((bat m0 atv) = (63 : Int))) →
       ∀ atv11 : Int, atv11 = (IntKind.i64.wrap (atv + (1 : Int))) →
       iter_c0 B yl1 start atv11 m0 F1 S w0 R)))) ∧
    ((¬ (atv < (m0.size : Int))) →
    (0 ≤ start ∧ start ≤ (m0.size : Int) ∧ (m0.size : Int) ≤ m0.size) ∧
    CallH Tryd.prog 88 ⟨[.string (m0.extract (Int.toNat start) m0.size), .string (⟨#[32]⟩)]⟩ ((B, .cells #[.string m0] 9) :: F1) S w0 (fun v L' => ∃ (r81 : ByteArray), v = (.string r81) ∧ L' = ((B, .cells #[.string m0] 9) :: F1) ∧
     ((¬ r81 = (⟨#[]⟩ : ByteArray)) →
      YieldH Tryd.prog yl1 ⟨[.string r81]⟩ ((B, .cells #[.string m0] 9) :: F1) S w0 (fun v L' => ∃ (go6 : Bool) (F8 : SHeap), v = .bool go6 ∧ L' = ((B, .cells #[.string m0] 9) :: F8) ∧
       Fin R ((B, .cells #[.string m0] 9) :: F8) S w0 (.tuple #[]))) ∧
      ((r81 = (⟨#[]⟩ : ByteArray)) →
      Fin R ((B, .cells #[.string m0] 9) :: F1) S w0 (.tuple #[]))))) :
  iter_c0 B yl1 start atv m0 F1 S w0 R := by
 unfold iter_c0
 refine AtE.run 4 (fun W => by kernel_rfl) ?_
 refine AtE.load 0 0 (T := 9) (v := .string m0) (by kernel_rfl) ?_
 refine AtE.run 3 (fun W => by kernel_rfl) ?_
 refine AtE.splitP 9 (p := atv < (m0.size : Int)) (by kernel_rfl) (fun h1' => ?_) (fun h1' => ?_)
 ·replace H := H.1 h1'
  refine AtE.run 7 (fun W => by kernel_rfl) ?_
  refine AtE.load 0 0 (T := 9) (v := .string m0) (by kernel_rfl) ?_
  refine AtE.run 1 (fun W => by kernel_rfl) ?_
  refine AtE.indexS (s := m0) (kd := .i64) (i := atv) (by kernel_rfl) H.1 ?_
  replace H := H.2
  refine AtE.run 7 (fun W => by kernel_rfl) ?_
  refine AtE.splitP 15 (p := (bat m0 atv) = (46 : Int)) (by kernel_rfl) (fun h2' => ?_) (fun h2' => ?_)
  ·replace H := H.1 h2'
   refine AtE.run 3 (fun W => by kernel_rfl) ?_
   refine AtE.load 0 0 (T := 9) (v := .string m0) (by kernel_rfl) ?_
   refine AtE.run 1 (fun W => by kernel_rfl) ?_
   refine AtE.call 87 ⟨[.string m0, .int .i64 atv]⟩ (fun W => by kernel_rfl) (by kernel_rfl) H ?_
   clear H
   rintro _ _ ⟨r1, rfl, rfl, H⟩
   refine AtE.norm (k' := [.inRegion (regOps [.code (EngB11s86 [0,1,1,0,1,0,0,1,0,0,0,1,0,1,0,0])]) [], .code (EngB11s86 [0,1,1,0,1,0,0,1,0,0,0,1,0,1,0,1]), .inBlock 2, .code (EngB11s86 [0,1,1,0,1,0,0,1,0,0,1]), .inBlock 1, .code (EngB11s86 [0,1,1,0,1,0,0,1,1]), .inLoop (EngB11s86 [0,1,1,0,1,0,0]), .inBlock 0, .code (EngB11s86 [0,1,1,1]), .inScope (EngB11s86 [0])]) (e' := [(0, .func (.yield yl1) #[] #[]), (1, .pointer (some ⟨B, 0, none⟩)), (3, .int .i64 start), (4, .int .i64 atv), (19, .bool r1)]) (L' := ((B, .cells #[.string m0] 9) :: F1)) ?_ (by kernel_rfl)
   refine AtE.run 1 (fun W => by kernel_rfl) ?_
   refine AtE.split 19 (b := r1) (by kernel_rfl) (fun h3' => ?_) (fun h3' => ?_)
   ·replace H := H.1 h3'
    refine AtE.run 6 (fun W => by kernel_rfl) ?_
    refine AtE.letI 4 (kd := .i64) (n := (IntKind.i64.wrap (atv + (1 : Int)))) (by kernel_rfl) (fun atv1 hatv1 => ?_)
    replace H := H atv1 hatv1
    refine AtE.run 2 (fun W => by kernel_rfl) ?_
    exact AtE.cutT [0] 1 H (by kernel_rfl)
   ·replace H := H.2 h3'
    refine AtE.run 8 (fun W => by kernel_rfl) ?_
    refine AtE.load 0 0 (T := 9) (v := .string m0) (by kernel_rfl) ?_
    refine AtE.run 3 (fun W => by kernel_rfl) ?_
    refine AtE.splitP 28 (p := (IntKind.i64.wrap (atv + (1 : Int))) < (m0.size : Int)) (by kernel_rfl) (fun h4' => ?_) (fun h4' => ?_)
    ·replace H := H.1 h4'
     refine AtE.load 0 0 (T := 9) (v := .string m0) (by kernel_rfl) ?_
     refine AtE.run 2 (fun W => by kernel_rfl) ?_
     refine AtE.indexS (s := m0) (kd := .i64) (i := (IntKind.i64.wrap (atv + (1 : Int)))) (by kernel_rfl) H.1 ?_
     replace H := H.2
     refine AtE.run 3 (fun W => by kernel_rfl) ?_
     refine AtE.splitN 34 (p := (bat m0 (IntKind.i64.wrap (atv + (1 : Int)))) = (32 : Int)) (by kernel_rfl) (fun h5' => ?_) (fun h5' => ?_)
     ·replace H := H.1 h5'
      refine AtE.run 6 (fun W => by kernel_rfl) ?_
      refine AtE.letI 4 (kd := .i64) (n := (IntKind.i64.wrap (atv + (1 : Int)))) (by kernel_rfl) (fun atv2 hatv2 => ?_)
      replace H := H atv2 hatv2
      refine AtE.norm (k' := [.inRegion (regOps [.code (EngB11s86 [0,1,1,0,1,0,0,1,1])]) [], .inLoop (EngB11s86 [0,1,1,0,1,0,0]), .inBlock 0, .code (EngB11s86 [0,1,1,1]), .inScope (EngB11s86 [0])]) (e' := [(0, .func (.yield yl1) #[] #[]), (1, .pointer (some ⟨B, 0, none⟩)), (3, .int .i64 start), (4, .int .i64 atv2)]) (L' := ((B, .cells #[.string m0] 9) :: F1)) ?_ (by kernel_rfl)
      refine AtE.run 2 (fun W => by kernel_rfl) ?_
      exact AtE.cutT [0] 1 H (by kernel_rfl)
     ·replace H := H.2 h5'
      refine AtE.run 6 (fun W => by kernel_rfl) ?_
      refine AtE.load 0 0 (T := 9) (v := .string m0) (by kernel_rfl) ?_
      refine AtE.norm (k' := [.inRegion (regOps [.code (EngB11s86 [0,1,1,0,1,0,0,1,0,0,1,1,0,0])]) [2,3,4,5,6,7,8], .code (EngB11s86 [0,1,1,0,1,0,0,1,0,0,1,1,0,1]), .code (EngB11s86 [0,1,1,0,1,0,0,1,0,0,1,1,1]), .inBlock 1, .code (EngB11s86 [0,1,1,0,1,0,0,1,1]), .inLoop (EngB11s86 [0,1,1,0,1,0,0]), .inBlock 0, .code (EngB11s86 [0,1,1,1]), .inScope (EngB11s86 [0])]) (e' := [(0, .func (.yield yl1) #[] #[]), (1, .pointer (some ⟨B, 0, none⟩)), (3, .int .i64 start), (4, .int .i64 atv), (35, .func (.yield yl1) #[] #[]), (36, .string m0)]) (L' := ((B, .cells #[.string m0] 9) :: F1)) ?_ (by kernel_rfl)
      refine AtE.run 3 (fun W => by kernel_rfl) ?_
      refine AtE.sliceS (s := m0) (lo := some (.int .i64 start)) (hi := some (.int .i64 (IntKind.i64.wrap (atv + (1 : Int))))) (a := start) (b := (IntKind.i64.wrap (atv + (1 : Int)))) (by kernel_rfl) (.inl ⟨.i64, rfl⟩) (.inl ⟨.i64, rfl⟩) H.1 ?_
      replace H := H.2
      refine AtE.call 88 ⟨[.string (m0.extract (Int.toNat start) (Int.toNat (IntKind.i64.wrap (atv + (1 : Int))))), .string (⟨#[32]⟩)]⟩ (fun W => by kernel_rfl) (by kernel_rfl) H ?_
      clear H
      rintro _ _ ⟨r21, rfl, rfl, H⟩
      refine AtE.yield yl1 ⟨[.string r21]⟩ (fun W => by kernel_rfl) (by kernel_rfl) H ?_
      clear H
      rintro _ _ ⟨go, F2, rfl, rfl, H⟩
      refine AtE.split 42 (b := go) (by kernel_rfl) (fun h6' => ?_) (fun h6' => ?_)
      ·replace H := H.1 h6'
       refine AtE.run 8 (fun W => by kernel_rfl) ?_
       refine AtE.letI 3 (kd := .i64) (n := (IntKind.i64.wrap (atv + (1 : Int)))) (by kernel_rfl) (fun start1 hstart1 => ?_)
       replace H := H start1 hstart1
       refine AtE.run 6 (fun W => by kernel_rfl) ?_
       refine AtE.letI 4 (kd := .i64) (n := (IntKind.i64.wrap (atv + (1 : Int)))) (by kernel_rfl) (fun atv3 hatv3 => ?_)
       replace H := H atv3 hatv3
       refine AtE.run 2 (fun W => by kernel_rfl) ?_
       exact AtE.cutT [0] 1 H (by kernel_rfl)
      ·replace H := H.2 h6'
       refine AtE.run 3 (fun W => by kernel_rfl) ?_
       exact AtE.ret Tryd.func86 (by kernel_rfl) H
    ·replace H := H.2 h4'
     refine AtE.run 13 (fun W => by kernel_rfl) ?_
     refine AtE.load 0 0 (T := 9) (v := .string m0) (by kernel_rfl) ?_
     refine AtE.run 3 (fun W => by kernel_rfl) ?_
     refine AtE.sliceS (s := m0) (lo := some (.int .i64 start)) (hi := some (.int .i64 (IntKind.i64.wrap (atv + (1 : Int))))) (a := start) (b := (IntKind.i64.wrap (atv + (1 : Int)))) (by kernel_rfl) (.inl ⟨.i64, rfl⟩) (.inl ⟨.i64, rfl⟩) H.1 ?_
     replace H := H.2
     refine AtE.call 88 ⟨[.string (m0.extract (Int.toNat start) (Int.toNat (IntKind.i64.wrap (atv + (1 : Int))))), .string (⟨#[32]⟩)]⟩ (fun W => by kernel_rfl) (by kernel_rfl) H ?_
     clear H
     rintro _ _ ⟨r31, rfl, rfl, H⟩
     refine AtE.yield yl1 ⟨[.string r31]⟩ (fun W => by kernel_rfl) (by kernel_rfl) H ?_
     clear H
     rintro _ _ ⟨go1, F3, rfl, rfl, H⟩
     refine AtE.norm (k' := [.inRegion (regOps [.code (EngB11s86 [0,1,1,0,1,0,0,1,0,0,1,1,0,0])]) [8], .code (EngB11s86 [0,1,1,0,1,0,0,1,0,0,1,1,0,1]), .code (EngB11s86 [0,1,1,0,1,0,0,1,0,0,1,1,1]), .inBlock 1, .code (EngB11s86 [0,1,1,0,1,0,0,1,1]), .inLoop (EngB11s86 [0,1,1,0,1,0,0]), .inBlock 0, .code (EngB11s86 [0,1,1,1]), .inScope (EngB11s86 [0])]) (e' := [(0, .func (.yield yl1) #[] #[]), (1, .pointer (some ⟨B, 0, none⟩)), (4, .int .i64 atv), (42, .bool go1)]) (L' := ((B, .cells #[.string m0] 9) :: F3)) ?_ (by kernel_rfl)
     refine AtE.split 42 (b := go1) (by kernel_rfl) (fun h7' => ?_) (fun h7' => ?_)
     ·replace H := H.1 h7'
      refine AtE.run 8 (fun W => by kernel_rfl) ?_
      refine AtE.letI 3 (kd := .i64) (n := (IntKind.i64.wrap (atv + (1 : Int)))) (by kernel_rfl) (fun start2 hstart2 => ?_)
      replace H := H start2 hstart2
      refine AtE.run 6 (fun W => by kernel_rfl) ?_
      refine AtE.letI 4 (kd := .i64) (n := (IntKind.i64.wrap (atv + (1 : Int)))) (by kernel_rfl) (fun atv4 hatv4 => ?_)
      replace H := H atv4 hatv4
      refine AtE.run 2 (fun W => by kernel_rfl) ?_
      exact AtE.cutT [0] 1 H (by kernel_rfl)
     ·replace H := H.2 h7'
      refine AtE.run 3 (fun W => by kernel_rfl) ?_
      exact AtE.ret Tryd.func86 (by kernel_rfl) H
  ·replace H := H.2 h2'
   refine AtE.run 7 (fun W => by kernel_rfl) ?_
   refine AtE.splitP 20 (p := (bat m0 atv) = (33 : Int)) (by kernel_rfl) (fun h8' => ?_) (fun h8' => ?_)
   ·replace H := H.1 h8'
    refine AtE.run 10 (fun W => by kernel_rfl) ?_
    refine AtE.load 0 0 (T := 9) (v := .string m0) (by kernel_rfl) ?_
    refine AtE.norm (k' := [.inRegion (regOps [.code (EngB11s86 [0,1,1,0,1,0,0,1,0,0,1,0,0])]) [3,4,5,6,7,8,9,10,11], .code (EngB11s86 [0,1,1,0,1,0,0,1,0,0,1,0,1]), .code (EngB11s86 [0,1,1,0,1,0,0,1,0,0,1,1]), .inBlock 1, .code (EngB11s86 [0,1,1,0,1,0,0,1,1]), .inLoop (EngB11s86 [0,1,1,0,1,0,0]), .inBlock 0, .code (EngB11s86 [0,1,1,1]), .inScope (EngB11s86 [0])]) (e' := [(0, .func (.yield yl1) #[] #[]), (1, .pointer (some ⟨B, 0, none⟩)), (3, .int .i64 start), (4, .int .i64 atv), (24, .int .i64 (IntKind.i64.wrap (atv + (1 : Int)))), (25, .string m0)]) (L' := ((B, .cells #[.string m0] 9) :: F1)) ?_ (by kernel_rfl)
    refine AtE.run 3 (fun W => by kernel_rfl) ?_
    refine AtE.splitP 28 (p := (IntKind.i64.wrap (atv + (1 : Int))) < (m0.size : Int)) (by kernel_rfl) (fun h9' => ?_) (fun h9' => ?_)
    ·replace H := H.1 h9'
     refine AtE.load 0 0 (T := 9) (v := .string m0) (by kernel_rfl) ?_
     refine AtE.run 2 (fun W => by kernel_rfl) ?_
     refine AtE.indexS (s := m0) (kd := .i64) (i := (IntKind.i64.wrap (atv + (1 : Int)))) (by kernel_rfl) H.1 ?_
     replace H := H.2
     refine AtE.run 3 (fun W => by kernel_rfl) ?_
     refine AtE.splitN 34 (p := (bat m0 (IntKind.i64.wrap (atv + (1 : Int)))) = (32 : Int)) (by kernel_rfl) (fun h10' => ?_) (fun h10' => ?_)
     ·replace H := H.1 h10'
      refine AtE.run 6 (fun W => by kernel_rfl) ?_
      refine AtE.letI 4 (kd := .i64) (n := (IntKind.i64.wrap (atv + (1 : Int)))) (by kernel_rfl) (fun atv5 hatv5 => ?_)
      replace H := H atv5 hatv5
      refine AtE.run 2 (fun W => by kernel_rfl) ?_
      exact AtE.cutT [0] 1 H (by kernel_rfl)
     ·replace H := H.2 h10'
      refine AtE.run 6 (fun W => by kernel_rfl) ?_
      refine AtE.load 0 0 (T := 9) (v := .string m0) (by kernel_rfl) ?_
      refine AtE.run 3 (fun W => by kernel_rfl) ?_
      refine AtE.sliceS (s := m0) (lo := some (.int .i64 start)) (hi := some (.int .i64 (IntKind.i64.wrap (atv + (1 : Int))))) (a := start) (b := (IntKind.i64.wrap (atv + (1 : Int)))) (by kernel_rfl) (.inl ⟨.i64, rfl⟩) (.inl ⟨.i64, rfl⟩) H.1 ?_
      replace H := H.2
      refine AtE.call 88 ⟨[.string (m0.extract (Int.toNat start) (Int.toNat (IntKind.i64.wrap (atv + (1 : Int))))), .string (⟨#[32]⟩)]⟩ (fun W => by kernel_rfl) (by kernel_rfl) H ?_
      clear H
      rintro _ _ ⟨r41, rfl, rfl, H⟩
      refine AtE.norm (k' := [.inRegion (regOps [.code (EngB11s86 [0,1,1,0,1,0,0,1,0,0,1,1,0,0])]) [7,8], .code (EngB11s86 [0,1,1,0,1,0,0,1,0,0,1,1,0,1]), .code (EngB11s86 [0,1,1,0,1,0,0,1,0,0,1,1,1]), .inBlock 1, .code (EngB11s86 [0,1,1,0,1,0,0,1,1]), .inLoop (EngB11s86 [0,1,1,0,1,0,0]), .inBlock 0, .code (EngB11s86 [0,1,1,1]), .inScope (EngB11s86 [0])]) (e' := [(0, .func (.yield yl1) #[] #[]), (1, .pointer (some ⟨B, 0, none⟩)), (4, .int .i64 atv), (35, .func (.yield yl1) #[] #[]), (41, .string r41)]) (L' := ((B, .cells #[.string m0] 9) :: F1)) ?_ (by kernel_rfl)
      refine AtE.yield yl1 ⟨[.string r41]⟩ (fun W => by kernel_rfl) (by kernel_rfl) H ?_
      clear H
      rintro _ _ ⟨go2, F4, rfl, rfl, H⟩
      refine AtE.split 42 (b := go2) (by kernel_rfl) (fun h11' => ?_) (fun h11' => ?_)
      ·replace H := H.1 h11'
       refine AtE.run 8 (fun W => by kernel_rfl) ?_
       refine AtE.letI 3 (kd := .i64) (n := (IntKind.i64.wrap (atv + (1 : Int)))) (by kernel_rfl) (fun start3 hstart3 => ?_)
       replace H := H start3 hstart3
       refine AtE.run 6 (fun W => by kernel_rfl) ?_
       refine AtE.letI 4 (kd := .i64) (n := (IntKind.i64.wrap (atv + (1 : Int)))) (by kernel_rfl) (fun atv6 hatv6 => ?_)
       replace H := H atv6 hatv6
       refine AtE.run 2 (fun W => by kernel_rfl) ?_
       exact AtE.cutT [0] 1 H (by kernel_rfl)
      ·replace H := H.2 h11'
       refine AtE.run 3 (fun W => by kernel_rfl) ?_
       exact AtE.ret Tryd.func86 (by kernel_rfl) H
    ·replace H := H.2 h9'
     refine AtE.run 13 (fun W => by kernel_rfl) ?_
     refine AtE.load 0 0 (T := 9) (v := .string m0) (by kernel_rfl) ?_
     refine AtE.run 3 (fun W => by kernel_rfl) ?_
     refine AtE.sliceS (s := m0) (lo := some (.int .i64 start)) (hi := some (.int .i64 (IntKind.i64.wrap (atv + (1 : Int))))) (a := start) (b := (IntKind.i64.wrap (atv + (1 : Int)))) (by kernel_rfl) (.inl ⟨.i64, rfl⟩) (.inl ⟨.i64, rfl⟩) H.1 ?_
     replace H := H.2
     refine AtE.call 88 ⟨[.string (m0.extract (Int.toNat start) (Int.toNat (IntKind.i64.wrap (atv + (1 : Int))))), .string (⟨#[32]⟩)]⟩ (fun W => by kernel_rfl) (by kernel_rfl) H ?_
     clear H
     rintro _ _ ⟨r51, rfl, rfl, H⟩
     refine AtE.yield yl1 ⟨[.string r51]⟩ (fun W => by kernel_rfl) (by kernel_rfl) H ?_
     clear H
     rintro _ _ ⟨go3, F5, rfl, rfl, H⟩
     refine AtE.split 42 (b := go3) (by kernel_rfl) (fun h12' => ?_) (fun h12' => ?_)
     ·replace H := H.1 h12'
      refine AtE.run 8 (fun W => by kernel_rfl) ?_
      refine AtE.letI 3 (kd := .i64) (n := (IntKind.i64.wrap (atv + (1 : Int)))) (by kernel_rfl) (fun start4 hstart4 => ?_)
      replace H := H start4 hstart4
      refine AtE.norm (k' := [.inRegion (regOps [.code (EngB11s86 [0,1,1,0,1,0,0,1,0,0,1,1,1])]) [], .inBlock 1, .code (EngB11s86 [0,1,1,0,1,0,0,1,1]), .inLoop (EngB11s86 [0,1,1,0,1,0,0]), .inBlock 0, .code (EngB11s86 [0,1,1,1]), .inScope (EngB11s86 [0])]) (e' := [(0, .func (.yield yl1) #[] #[]), (1, .pointer (some ⟨B, 0, none⟩)), (3, .int .i64 start4), (4, .int .i64 atv)]) (L' := ((B, .cells #[.string m0] 9) :: F5)) ?_ (by kernel_rfl)
      refine AtE.run 6 (fun W => by kernel_rfl) ?_
      refine AtE.letI 4 (kd := .i64) (n := (IntKind.i64.wrap (atv + (1 : Int)))) (by kernel_rfl) (fun atv7 hatv7 => ?_)
      replace H := H atv7 hatv7
      refine AtE.run 2 (fun W => by kernel_rfl) ?_
      exact AtE.cutT [0] 1 H (by kernel_rfl)
     ·replace H := H.2 h12'
      refine AtE.run 3 (fun W => by kernel_rfl) ?_
      exact AtE.ret Tryd.func86 (by kernel_rfl) H
   ·replace H := H.2 h8'
    refine AtE.run 5 (fun W => by kernel_rfl) ?_
    refine AtE.splitP 20 (p := (bat m0 atv) = (63 : Int)) (by kernel_rfl) (fun h13' => ?_) (fun h13' => ?_)
    ·replace H := H.1 h13'
     refine AtE.norm (k' := [.code (EngB11s86 [0,1,1,0,1,0,0,1,0,0,0,1,0,1,1,1]), .inBlock 2, .code (EngB11s86 [0,1,1,0,1,0,0,1,0,0,1]), .inBlock 1, .code (EngB11s86 [0,1,1,0,1,0,0,1,1]), .inLoop (EngB11s86 [0,1,1,0,1,0,0]), .inBlock 0, .code (EngB11s86 [0,1,1,1]), .inScope (EngB11s86 [0])]) (e' := [(0, .func (.yield yl1) #[] #[]), (1, .pointer (some ⟨B, 0, none⟩)), (3, .int .i64 start), (4, .int .i64 atv), (20, .bool true)]) (L' := ((B, .cells #[.string m0] 9) :: F1)) ?_ (by kernel_rfl)
     refine AtE.run 8 (fun W => by kernel_rfl) ?_
     refine AtE.load 0 0 (T := 9) (v := .string m0) (by kernel_rfl) ?_
     refine AtE.run 3 (fun W => by kernel_rfl) ?_
     refine AtE.splitP 28 (p := (IntKind.i64.wrap (atv + (1 : Int))) < (m0.size : Int)) (by kernel_rfl) (fun h14' => ?_) (fun h14' => ?_)
     ·replace H := H.1 h14'
      refine AtE.load 0 0 (T := 9) (v := .string m0) (by kernel_rfl) ?_
      refine AtE.run 2 (fun W => by kernel_rfl) ?_
      refine AtE.indexS (s := m0) (kd := .i64) (i := (IntKind.i64.wrap (atv + (1 : Int)))) (by kernel_rfl) H.1 ?_
      replace H := H.2
      refine AtE.run 3 (fun W => by kernel_rfl) ?_
      refine AtE.splitN 34 (p := (bat m0 (IntKind.i64.wrap (atv + (1 : Int)))) = (32 : Int)) (by kernel_rfl) (fun h15' => ?_) (fun h15' => ?_)
      ·replace H := H.1 h15'
       refine AtE.run 6 (fun W => by kernel_rfl) ?_
       refine AtE.letI 4 (kd := .i64) (n := (IntKind.i64.wrap (atv + (1 : Int)))) (by kernel_rfl) (fun atv8 hatv8 => ?_)
       replace H := H atv8 hatv8
       refine AtE.run 2 (fun W => by kernel_rfl) ?_
       exact AtE.cutT [0] 1 H (by kernel_rfl)
      ·replace H := H.2 h15'
       refine AtE.run 6 (fun W => by kernel_rfl) ?_
       refine AtE.load 0 0 (T := 9) (v := .string m0) (by kernel_rfl) ?_
       refine AtE.run 3 (fun W => by kernel_rfl) ?_
       refine AtE.sliceS (s := m0) (lo := some (.int .i64 start)) (hi := some (.int .i64 (IntKind.i64.wrap (atv + (1 : Int))))) (a := start) (b := (IntKind.i64.wrap (atv + (1 : Int)))) (by kernel_rfl) (.inl ⟨.i64, rfl⟩) (.inl ⟨.i64, rfl⟩) H.1 ?_
       replace H := H.2
       refine AtE.norm (k' := [.inRegion (regOps [.code (EngB11s86 [0,1,1,0,1,0,0,1,0,0,1,1,0,0])]) [6,7,8], .code (EngB11s86 [0,1,1,0,1,0,0,1,0,0,1,1,0,1]), .code (EngB11s86 [0,1,1,0,1,0,0,1,0,0,1,1,1]), .inBlock 1, .code (EngB11s86 [0,1,1,0,1,0,0,1,1]), .inLoop (EngB11s86 [0,1,1,0,1,0,0]), .inBlock 0, .code (EngB11s86 [0,1,1,1]), .inScope (EngB11s86 [0])]) (e' := [(0, .func (.yield yl1) #[] #[]), (1, .pointer (some ⟨B, 0, none⟩)), (4, .int .i64 atv), (35, .func (.yield yl1) #[] #[]), (40, .string (m0.extract (Int.toNat start) (Int.toNat (IntKind.i64.wrap (atv + (1 : Int))))))]) (L' := ((B, .cells #[.string m0] 9) :: F1)) ?_ (by kernel_rfl)
       refine AtE.call 88 ⟨[.string (m0.extract (Int.toNat start) (Int.toNat (IntKind.i64.wrap (atv + (1 : Int))))), .string (⟨#[32]⟩)]⟩ (fun W => by kernel_rfl) (by kernel_rfl) H ?_
       clear H
       rintro _ _ ⟨r61, rfl, rfl, H⟩
       refine AtE.yield yl1 ⟨[.string r61]⟩ (fun W => by kernel_rfl) (by kernel_rfl) H ?_
       clear H
       rintro _ _ ⟨go4, F6, rfl, rfl, H⟩
       refine AtE.split 42 (b := go4) (by kernel_rfl) (fun h16' => ?_) (fun h16' => ?_)
       ·replace H := H.1 h16'
        refine AtE.run 8 (fun W => by kernel_rfl) ?_
        refine AtE.letI 3 (kd := .i64) (n := (IntKind.i64.wrap (atv + (1 : Int)))) (by kernel_rfl) (fun start5 hstart5 => ?_)
        replace H := H start5 hstart5
        refine AtE.run 6 (fun W => by kernel_rfl) ?_
        refine AtE.letI 4 (kd := .i64) (n := (IntKind.i64.wrap (atv + (1 : Int)))) (by kernel_rfl) (fun atv9 hatv9 => ?_)
        replace H := H atv9 hatv9
        refine AtE.run 2 (fun W => by kernel_rfl) ?_
        exact AtE.cutT [0] 1 H (by kernel_rfl)
       ·replace H := H.2 h16'
        refine AtE.run 3 (fun W => by kernel_rfl) ?_
        exact AtE.ret Tryd.func86 (by kernel_rfl) H
     ·replace H := H.2 h14'
      refine AtE.run 13 (fun W => by kernel_rfl) ?_
      refine AtE.load 0 0 (T := 9) (v := .string m0) (by kernel_rfl) ?_
      refine AtE.run 3 (fun W => by kernel_rfl) ?_
      refine AtE.sliceS (s := m0) (lo := some (.int .i64 start)) (hi := some (.int .i64 (IntKind.i64.wrap (atv + (1 : Int))))) (a := start) (b := (IntKind.i64.wrap (atv + (1 : Int)))) (by kernel_rfl) (.inl ⟨.i64, rfl⟩) (.inl ⟨.i64, rfl⟩) H.1 ?_
      replace H := H.2
      refine AtE.call 88 ⟨[.string (m0.extract (Int.toNat start) (Int.toNat (IntKind.i64.wrap (atv + (1 : Int))))), .string (⟨#[32]⟩)]⟩ (fun W => by kernel_rfl) (by kernel_rfl) H ?_
      clear H
      rintro _ _ ⟨r71, rfl, rfl, H⟩
      refine AtE.yield yl1 ⟨[.string r71]⟩ (fun W => by kernel_rfl) (by kernel_rfl) H ?_
      clear H
      rintro _ _ ⟨go5, F7, rfl, rfl, H⟩
      refine AtE.split 42 (b := go5) (by kernel_rfl) (fun h17' => ?_) (fun h17' => ?_)
      ·replace H := H.1 h17'
       refine AtE.norm (k' := [.inRegion (regOps [.code (EngB11s86 [0,1,1,0,1,0,0,1,0,0,1,1,0,0])]) [8], .code (EngB11s86 [0,1,1,0,1,0,0,1,0,0,1,1,0,1]), .code (EngB11s86 [0,1,1,0,1,0,0,1,0,0,1,1,1]), .inBlock 1, .code (EngB11s86 [0,1,1,0,1,0,0,1,1]), .inLoop (EngB11s86 [0,1,1,0,1,0,0]), .inBlock 0, .code (EngB11s86 [0,1,1,1]), .inScope (EngB11s86 [0])]) (e' := [(0, .func (.yield yl1) #[] #[]), (1, .pointer (some ⟨B, 0, none⟩)), (4, .int .i64 atv), (42, .bool true)]) (L' := ((B, .cells #[.string m0] 9) :: F7)) ?_ (by kernel_rfl)
       refine AtE.run 8 (fun W => by kernel_rfl) ?_
       refine AtE.letI 3 (kd := .i64) (n := (IntKind.i64.wrap (atv + (1 : Int)))) (by kernel_rfl) (fun start6 hstart6 => ?_)
       replace H := H start6 hstart6
       refine AtE.run 6 (fun W => by kernel_rfl) ?_
       refine AtE.letI 4 (kd := .i64) (n := (IntKind.i64.wrap (atv + (1 : Int)))) (by kernel_rfl) (fun atv10 hatv10 => ?_)
       replace H := H atv10 hatv10
       refine AtE.run 2 (fun W => by kernel_rfl) ?_
       exact AtE.cutT [0] 1 H (by kernel_rfl)
      ·replace H := H.2 h17'
       refine AtE.norm (k' := [.inRegion (regOps [.code (EngB11s86 [0,1,1,0,1,0,0,1,0,0,1,1,0,0])]) [8], .code (EngB11s86 [0,1,1,0,1,0,0,1,0,0,1,1,0,1]), .code (EngB11s86 [0,1,1,0,1,0,0,1,0,0,1,1,1]), .inBlock 1, .code (EngB11s86 [0,1,1,0,1,0,0,1,1]), .inLoop (EngB11s86 [0,1,1,0,1,0,0]), .inBlock 0, .code (EngB11s86 [0,1,1,1]), .inScope (EngB11s86 [0])]) (e' := [(0, .func (.yield yl1) #[] #[]), (1, .pointer (some ⟨B, 0, none⟩)), (4, .int .i64 atv), (42, .bool false)]) (L' := ((B, .cells #[.string m0] 9) :: F7)) ?_ (by kernel_rfl)
       refine AtE.run 3 (fun W => by kernel_rfl) ?_
       exact AtE.ret Tryd.func86 (by kernel_rfl) H
    ·replace H := H.2 h13'
     refine AtE.norm (k' := [.code (EngB11s86 [0,1,1,0,1,0,0,1,0,0,0,1,0,1,1,1]), .inBlock 2, .code (EngB11s86 [0,1,1,0,1,0,0,1,0,0,1]), .inBlock 1, .code (EngB11s86 [0,1,1,0,1,0,0,1,1]), .inLoop (EngB11s86 [0,1,1,0,1,0,0]), .inBlock 0, .code (EngB11s86 [0,1,1,1]), .inScope (EngB11s86 [0])]) (e' := [(0, .func (.yield yl1) #[] #[]), (1, .pointer (some ⟨B, 0, none⟩)), (3, .int .i64 start), (4, .int .i64 atv), (20, .bool false)]) (L' := ((B, .cells #[.string m0] 9) :: F1)) ?_ (by kernel_rfl)
     refine AtE.run 6 (fun W => by kernel_rfl) ?_
     refine AtE.letI 4 (kd := .i64) (n := (IntKind.i64.wrap (atv + (1 : Int)))) (by kernel_rfl) (fun atv11 hatv11 => ?_)
     replace H := H atv11 hatv11
     refine AtE.run 2 (fun W => by kernel_rfl) ?_
     exact AtE.cutT [0] 1 H (by kernel_rfl)
 ·replace H := H.2 h1'
  refine AtE.run 4 (fun W => by kernel_rfl) ?_
  refine AtE.load 0 0 (T := 9) (v := .string m0) (by kernel_rfl) ?_
  refine AtE.run 1 (fun W => by kernel_rfl) ?_
  refine AtE.sliceS (s := m0) (lo := some (.int .i64 start)) (hi := none) (a := start) (b := (m0.size : Int)) (by kernel_rfl) (.inl ⟨.i64, rfl⟩) (.inr ⟨rfl, rfl⟩) H.1 ?_
  replace H := H.2
  refine AtE.call 88 ⟨[.string (m0.extract (Int.toNat start) m0.size), .string (⟨#[32]⟩)]⟩ (fun W => by kernel_rfl) (by kernel_rfl) H ?_
  clear H
  rintro _ _ ⟨r81, rfl, rfl, H⟩
  refine AtE.run 7 (fun W => by kernel_rfl) ?_
  refine AtE.splitT 51 (x := r81) (y := (⟨#[]⟩ : ByteArray)) (by kernel_rfl) (fun h18' => ?_) (fun h18' => ?_)
  ·replace H := H.1 h18'
   refine AtE.run 4 (fun W => by kernel_rfl) ?_
   refine AtE.yield yl1 ⟨[.string r81]⟩ (fun W => by kernel_rfl) (by kernel_rfl) H ?_
   clear H
   rintro _ _ ⟨go6, F8, rfl, rfl, H⟩
   refine AtE.norm (k' := [.inRegion (regOps [.code (EngB11s86 [0,1,1,1,1,1,0])]) [], .inScope (EngB11s86 [0])]) (e' := []) (L' := ((B, .cells #[.string m0] 9) :: F8)) ?_ (by kernel_rfl)
   refine AtE.run 2 (fun W => by kernel_rfl) ?_
   exact AtE.ret Tryd.func86 (by kernel_rfl) H
  ·replace H := H.2 h18'
   refine AtE.run 3 (fun W => by kernel_rfl) ?_
   exact AtE.ret Tryd.func86 (by kernel_rfl) H
theorem iter_vc (yl : Nat) (Bt : Nat) (text : ByteArray) (F : SHeap) {R : Ending → World → Prop} {S : List Nat} {w0 W : World} (hm : Mem ((Bt, .cells #[.string text] 9) :: F) S w0 W)
  (H :
   iter_c0 Bt yl (0 : Int) (0 : Int) text F S w0 R) :
  Calls Tryd.prog 86 ⟨[.func (.yield yl) #[] #[], .pointer (some ⟨Bt, 0, none⟩)]⟩ W R := by
 refine AtE.calls (nt := 55) Tryd.func86 (by kernel_rfl) hm ?_
 refine AtE.run 14 (fun W => by kernel_rfl) ?_
 exact AtE.cutT [0] 1 H (by kernel_rfl)
end Go.Eng
namespace Go.Eng
open Go Go.RowKit Go.Proofs Wire
set_option linter.unusedVariables false
theorem pv_at {s : ByteArray} {i : Nat} (h1 : 1 ≤ i) (h : i ≤ s.size) : ((pv (bts s) i).toNat : Int) = bat s ((i : Int) - 1) := by
  obtain ⟨k, rfl⟩ : ∃ k, i = k + 1 := ⟨i - 1, by omega⟩
  have hk : k < (bts s).length := by rw [bts_len]; omega
  rw [pv_succ hk, show ((k + 1 : Nat) : Int) - 1 = (k : Int) by omega, bat_nat hk]
theorem pv2_at {s : ByteArray} {i : Nat} (h1 : 2 ≤ i) (h : i ≤ s.size) : ((pv2 (bts s) i).toNat : Int) = bat s ((i : Int) - 2) := by
  obtain ⟨k, rfl⟩ : ∃ k, i = k + 1 := ⟨i - 1, by omega⟩
  show ((pv (bts s) k).toNat : Int) = _
  rw [pv_at (by omega) (by omega), show ((k + 1 : Nat) : Int) - 2 = (k : Int) - 1 by omega]
def initAt (l : List UInt8) (i : Nat) : Bool := capB (pv l i) && isSp (pv2 l i)
theorem init_spec {s : ByteArray} {i : Nat} (h : i ≤ s.size) : initAt (bts s) i = decide (1 ≤ i ∧ 65 ≤ bat s ((i : Int) - 1) ∧ bat s ((i : Int) - 1) ≤ 90 ∧ (i = 1 ∨ bat s ((i : Int) - 2) = 32)) := by
  unfold initAt capB isSp
  rw [← Bool.decide_and, decide_eq_decide]
  match i, h with
  | 0, h => simp [pv, pv2]
  | 1, h =>
    have := pv_at (s := s) (i := 1) (by omega) h
    have : (pv2 (bts s) 1).toNat = 32 := rfl
    omega
  | k + 2, h =>
    have := pv_at (s := s) (i := k + 2) (by omega) h
    have := pv2_at (s := s) (i := k + 2) (by omega) h
    omega
theorem initB_c (s : ByteArray) (hs : s.size < 4611686018427387904) {i : Nat} (h : i ≤ s.size) : PureC Tryd.prog 87 ⟨[.string s, .int .i64 (i : Int)]⟩ (.bool (initAt (bts s) i)) := by
  intro W
  rw [init_spec h]
  have leaf : ∀ b : Bool, b = decide (1 ≤ i ∧ 65 ≤ bat s ((i : Int) - 1) ∧ bat s ((i : Int) - 1) ≤ 90 ∧ (i = 1 ∨ bat s ((i : Int) - 2) = 32)) → Fin (fun e W' => e = .returned (.bool (decide (1 ≤ i ∧ 65 ≤ bat s ((i : Int) - 1) ∧ bat s ((i : Int) - 1) ≤ 90 ∧ (i = 1 ∨ bat s ((i : Int) - 2) = 32)))) ∧ Below W.heap.size W W') [] [] W (.bool b) := fun b hb => finPure (by rw [hb])
  refine initB_vc s (i : Int) (Mem.start [] W) ⟨fun h1 => leaf _ (decide_eq_false (by omega)).symm, fun h1 => ?_⟩
  rw [wi64 (by omega), wi64 (by omega)]
  refine ⟨by omega, fun h2 => leaf _ (decide_eq_false (by omega)).symm, fun h2 => ⟨by omega, fun h3 => leaf _ (decide_eq_false (by omega)).symm, fun h3 => ⟨fun h4 => leaf _ (decide_eq_true (by omega)).symm, fun h4 => ⟨by omega, leaf _ ?_⟩⟩⟩⟩
  rw [decide_eq_decide]; omega
theorem getD_get {l : List UInt8} {i : Nat} (h : i < l.length) : l.getD i 0 = l[i] := by simp [h]
theorem nxt_spec {s : ByteArray} {i : Nat} : nxt ((bts s).drop i) = decide ((i : Int) < s.size → bat s (i : Int) = 32) := by
  have hl := bts_len s
  by_cases h : i < (bts s).length
  · rw [List.drop_eq_getElem_cons h, nxt, isSp, decide_eq_decide, bat_nat h]; omega
  · rw [List.drop_of_length_le (by omega), nxt]; exact (decide_eq_true (fun h0 => by omega)).symm
theorem end_spec {s : ByteArray} {i : Nat} (h : i < s.size) : endAt (bts s) i = (decide ((i : Int) + 1 < s.size → bat s ((i : Int) + 1) = 32) && ((decide (bat s (i : Int) = 46) && !initAt (bts s) i) || decide (bat s (i : Int) = 33) || decide (bat s (i : Int) = 63))) := by
  have hi : i < (bts s).length := h
  have e : (bts s).getD i 0 = (bts s)[i] := getD_get hi
  rw [endAt, endB, nxt_spec, e, bat_nat hi, initAt, show ((i + 1 : Nat) : Int) = (i : Int) + 1 by omega]
  simp only [show ∀ m : Nat, ((bts s)[i].toNat = m) = (((bts s)[i].toNat : Int) = (m : Int)) from fun m => by simp only [Int.ofNat_inj]]
  rfl
end Go.Eng
namespace Go.Eng
open Go Go.RowKit Go.Proofs
set_option linter.unusedVariables false
set_option maxRecDepth 100000
noncomputable abbrev EngB12s85 := sub (Eng.body Tryd.f85)
theorem appSeq_vc (Bt : Nat) {R : Ending → World → Prop} {w0 W : World} (hm : Mem [] [] w0 W)
  (H :
   ∀ B : Nat,
   ∀ (D l : Nat) (t : Array Value), Knows 13 [(2, .pointer (some ⟨B, 0, none⟩))] t →
   CallH Tryd.prog 86 ⟨.func (.yield l) #[] #[] :: [.pointer (some ⟨Bt, 0, none⟩)]⟩ [(B, .cells #[.slice none 0 0] 42), (D, .deferred (some [])), (l, loopO .ready none 85 t (EngB12s85 [1,0,1,0]) D)] [] w0 (fun v L' => (∃ (F : SHeap), L' = ((B, .cells #[.slice none 0 0] 42) :: (D, .deferred (some [])) :: (l, loopO .ready none 85 t (EngB12s85 [1,0,1,0]) D) :: F) ∧
    Fin R ((B, .cells #[.slice none 0 0] 42) :: (D, .deferred none) :: (l, loopO .exhausted none 85 t (EngB12s85 [1,0,1,0]) D) :: F) [] w0 (.slice none 0 0)) ∨
   (∃ (n : Nat) (cap : Nat) (cs : List Value) (Q : Nat) (F1 : SHeap), L' = ((B, .cells #[.slice (some ⟨Q, 0, none⟩) n cap] 42) :: (Q, .cells ⟨cs⟩ 9) :: (D, .deferred (some [])) :: (l, loopO .ready none 85 t (EngB12s85 [1,0,1,0]) D) :: F1) ∧
    Fin R ((B, .cells #[.slice (some ⟨Q, 0, none⟩) n cap] 42) :: (Q, .cells ⟨cs⟩ 9) :: (D, .deferred none) :: (l, loopO .exhausted none 85 t (EngB12s85 [1,0,1,0]) D) :: F1) [] w0 (.slice (some ⟨Q, 0, none⟩) n cap)))) :
  Calls Tryd.prog 85 ⟨[.slice none 0 0, .func (.func 86) #[] #[.pointer (some ⟨Bt, 0, none⟩)]]⟩ W R := by
 refine AtE.calls (nt := 13) Tryd.func85 (by kernel_rfl) hm ?_
 refine AtE.run 2 (fun W => by kernel_rfl) ?_
 refine AtE.new (fun B => .pointer (some ⟨B, 0, none⟩)) (.cells #[.slice none 0 0] 42) (fun W => by kernel_rfl) (by kernel_rfl) (fun B => ?_)
 replace H := H B
 refine AtE.run 8 (fun W => by kernel_rfl) ?_
 refine AtE.norm (k' := [.code (EngB12s85 [1,0,1,0]), .inBlock 0, .code (EngB12s85 [1,1])]) (e' := [(2, .pointer (some ⟨B, 0, none⟩)), (6, .func (.func 86) #[] #[.pointer (some ⟨Bt, 0, none⟩)])]) (L' := [(B, .cells #[.slice none 0 0] 42)]) ?_ (by kernel_rfl)
 refine AtE.rangeFunc (rf := EngB12s85 [1,0,1,0]) (k' := [.inBlock 0, .code (EngB12s85 [1,1])]) (L1 := [(B, .cells #[.slice none 0 0] 42)]) 86 [.pointer (some ⟨Bt, 0, none⟩)] (e' := [(2, .pointer (some ⟨B, 0, none⟩))]) (by kernel_rfl) (fun W l => by kernel_rfl) (fun D l t hT => ?_)
 refine CallH.mono (H D l t hT) ?_
 clear H
 rintro _ _ (⟨F, rfl, H⟩ | ⟨n, cap, cs, Q, F1, rfl, H⟩)
 ·skip
  refine ⟨2, .ready, none, rfl, by decide, ?_⟩
  refine AtE.norm (k' := [.inBlock 0, .code (EngB12s85 [1,1])]) (e' := [(2, .pointer (some ⟨B, 0, none⟩))]) (L' := ((B, .cells #[.slice none 0 0] 42) :: (D, .deferred (some [])) :: (l, loopO .exhausted none 85 t (EngB12s85 [1,0,1,0]) D) :: F)) ?_ (by kernel_rfl)
  refine AtE.run 3 (fun W => by kernel_rfl) ?_
  refine AtE.load 0 0 (T := 42) (v := .slice none 0 0) (by kernel_rfl) ?_
  refine AtE.run 2 (fun W => by kernel_rfl) ?_
  exact AtE.retM 1 (D := D) (v := (.slice none 0 0)) (L1 := ((B, .cells #[.slice none 0 0] 42) :: (D, .deferred (some [])) :: (l, loopO .exhausted none 85 t (EngB12s85 [1,0,1,0]) D) :: F)) Tryd.func85 (by kernel_rfl) (ResOk.tmps (v := (.slice none 0 0)) (by kernel_rfl)) H
 ·skip
  refine ⟨3, .ready, none, rfl, by decide, ?_⟩
  refine AtE.norm (k' := [.inBlock 0, .code (EngB12s85 [1,1])]) (e' := [(2, .pointer (some ⟨B, 0, none⟩))]) (L' := ((B, .cells #[.slice (some ⟨Q, 0, none⟩) n cap] 42) :: (Q, .cells ⟨cs⟩ 9) :: (D, .deferred (some [])) :: (l, loopO .exhausted none 85 t (EngB12s85 [1,0,1,0]) D) :: F1)) ?_ (by kernel_rfl)
  refine AtE.run 3 (fun W => by kernel_rfl) ?_
  refine AtE.load 0 0 (T := 42) (v := .slice (some ⟨Q, 0, none⟩) n cap) (by kernel_rfl) ?_
  refine AtE.run 2 (fun W => by kernel_rfl) ?_
  exact AtE.retM 2 (D := D) (v := (.slice (some ⟨Q, 0, none⟩) n cap)) (L1 := ((B, .cells #[.slice (some ⟨Q, 0, none⟩) n cap] 42) :: (Q, .cells ⟨cs⟩ 9) :: (D, .deferred (some [])) :: (l, loopO .exhausted none 85 t (EngB12s85 [1,0,1,0]) D) :: F1)) Tryd.func85 (by kernel_rfl) (ResOk.tmps (v := (.slice (some ⟨Q, 0, none⟩) n cap)) (by kernel_rfl)) H
theorem appSeq_r0_vc (Bt : Nat) (B : Nat) (F : SHeap) (x0 : ByteArray) (D l : Nat) (t : Array Value) {S : List Nat} {w0 : World} {K : Value → SHeap → Prop} (hT : Knows 13 [(2, .pointer (some ⟨B, 0, none⟩))] t)
  (H :
   ∀ B1 : Nat,
   ∀ (B2 cap1 : Nat) (r : List Value), 1 ≤ cap1 → (([.string x0] : List Value) ++ r).length = cap1 * 1 →
   K (.bool true) ((B2, .cells ⟨(([.string x0] : List Value) ++ r)⟩ 9) :: (B1, .cells #[.string x0] 9) :: (B, .cells #[.slice (some ⟨B2, 0, none⟩) 1 cap1] 42) :: (D, .deferred (some [])) :: (l, loopO .ready none 85 t (EngB12s85 [1,0,1,0]) D) :: F)) :
  YieldH Tryd.prog l ⟨[.string x0]⟩ ((B, .cells #[.slice none 0 0] 42) :: (D, .deferred (some [])) :: (l, loopO .ready none 85 t (EngB12s85 [1,0,1,0]) D) :: F) S w0 K := by
 refine YieldH.of (f := 85) (nt := 13) (l := l) (D := D) (t := t) (rf := EngB12s85 [1,0,1,0]) (e1 := [(7, .string x0), (2, .pointer (some ⟨B, 0, none⟩))]) (k1 := [.code (EngB12s85 [1,0,1,0,0]), .beginRound, .code (EngB12s85 [1,0,1,0,1])]) 2 hT (by kernel_rfl) (by kernel_rfl) ?_
 refine AtE.run 3 (fun W => by kernel_rfl) ?_
 refine AtE.begin 2 (l := l) (D := D) (f' := 85) (t := t) (rf := EngB12s85 [1,0,1,0]) (k' := [.code (EngB12s85 [1,0,1,0,1])]) (by kernel_rfl) ?_
 refine AtE.norm (k' := [.code (EngB12s85 [1,0,1,0,1])]) (e' := [(2, .pointer (some ⟨B, 0, none⟩)), (5, .string x0)]) (L' := ((B, .cells #[.slice none 0 0] 42) :: (D, .deferred (some [])) :: (l, loopO .busy none 85 t (EngB12s85 [1,0,1,0]) D) :: F)) ?_ (by kernel_rfl)
 refine AtE.run 2 (fun W => by kernel_rfl) ?_
 refine AtE.load 0 0 (T := 42) (v := .slice none 0 0) (by kernel_rfl) ?_
 refine AtE.run 1 (fun W => by kernel_rfl) ?_
 refine AtE.new (fun B => .slice (some ⟨B, 0, none⟩) 1 1) (.cells #[.string x0] 9) (fun W => by kernel_rfl) (by kernel_rfl) (fun B1 => ?_)
 replace H := H B1
 refine AtE.front ?_
 refine AtE.appendN (T := 42) (E := 9) (z := .string (⟨#[]⟩)) (sz := 1) (bytes := 16) (a := ⟨B1, 0, none⟩) (m := 1) (c := 1) ([.string x0] : List Value) (by kernel_rfl) (show Src _ _ _ _ ([.string x0] : List Value) from Src.own (j := 0) (o := 0) (n := 1) (c := ([.string x0] : List Value)) (by kernel_rfl)) (by simp) (by omega) (by omega) (fun B2 cap1 r h1 h2 => ?_)
 replace H := H B2 cap1 r h1 h2
 refine AtE.front ?_
 refine AtE.store 2 0 (T := 42) (v := .slice (some ⟨B2, 0, none⟩) 1 cap1) (by kernel_rfl) ?_
 refine AtE.run 2 (fun W => by kernel_rfl) ?_
 refine AtE.endRound 4 (l := l) (D := D) (f' := 85) (t := t) (rf := EngB12s85 [1,0,1,0]) (st := .busy) (L1 := ((B2, .cells ⟨(([.string x0] : List Value) ++ r)⟩ 9) :: (B1, .cells #[.string x0] 9) :: (B, .cells #[.slice (some ⟨B2, 0, none⟩) 1 cap1] 42) :: (D, .deferred (some [])) :: (l, loopO .busy none 85 t (EngB12s85 [1,0,1,0]) D) :: F)) (by kernel_rfl) ?_
 exact H
theorem appSeq_r1_vc (Bt : Nat) (B : Nat) (n : Nat) (cap : Nat) (cs : List Value) (Q : Nat) (F1 : SHeap) (x01 : ByteArray) (D l : Nat) (t : Array Value) {S : List Nat} {w0 : World} {K : Value → SHeap → Prop} (hT : Knows 13 [(2, .pointer (some ⟨B, 0, none⟩))] t)
  (H :
   ∀ B3 : Nat,
   (n ≤ cap ∧ (cs).length = cap * 1) ∧ ((n + 1) ≤ 9223372036854775807 ∧ (n + 1) * 16 ≤ 140737488355328) ∧
   ∀ (B4 cap2 : Nat) (r1 : List Value), (n + 1) ≤ cap2 → ((cs).take (n * 1) ++ ([.string x01] : List Value) ++ r1).length = cap2 * 1 →
   K (.bool true) ((B4, .cells ⟨((cs).take (n * 1) ++ ([.string x01] : List Value) ++ r1)⟩ 9) :: (B3, .cells #[.string x01] 9) :: (B, .cells #[.slice (some ⟨B4, 0, none⟩) (n + 1) cap2] 42) :: (D, .deferred (some [])) :: (l, loopO .ready none 85 t (EngB12s85 [1,0,1,0]) D) :: F1)) :
  YieldH Tryd.prog l ⟨[.string x01]⟩ ((B, .cells #[.slice (some ⟨Q, 0, none⟩) n cap] 42) :: (Q, .cells ⟨cs⟩ 9) :: (D, .deferred (some [])) :: (l, loopO .ready none 85 t (EngB12s85 [1,0,1,0]) D) :: F1) S w0 K := by
 refine YieldH.of (f := 85) (nt := 13) (l := l) (D := D) (t := t) (rf := EngB12s85 [1,0,1,0]) (e1 := [(7, .string x01), (2, .pointer (some ⟨B, 0, none⟩))]) (k1 := [.code (EngB12s85 [1,0,1,0,0]), .beginRound, .code (EngB12s85 [1,0,1,0,1])]) 3 hT (by kernel_rfl) (by kernel_rfl) ?_
 refine AtE.run 3 (fun W => by kernel_rfl) ?_
 refine AtE.begin 3 (l := l) (D := D) (f' := 85) (t := t) (rf := EngB12s85 [1,0,1,0]) (k' := [.code (EngB12s85 [1,0,1,0,1])]) (by kernel_rfl) ?_
 refine AtE.norm (k' := [.code (EngB12s85 [1,0,1,0,1])]) (e' := [(2, .pointer (some ⟨B, 0, none⟩)), (5, .string x01)]) (L' := ((B, .cells #[.slice (some ⟨Q, 0, none⟩) n cap] 42) :: (Q, .cells ⟨cs⟩ 9) :: (D, .deferred (some [])) :: (l, loopO .busy none 85 t (EngB12s85 [1,0,1,0]) D) :: F1)) ?_ (by kernel_rfl)
 refine AtE.run 2 (fun W => by kernel_rfl) ?_
 refine AtE.load 0 0 (T := 42) (v := .slice (some ⟨Q, 0, none⟩) n cap) (by kernel_rfl) ?_
 refine AtE.run 1 (fun W => by kernel_rfl) ?_
 refine AtE.new (fun B => .slice (some ⟨B, 0, none⟩) 1 1) (.cells #[.string x01] 9) (fun W => by kernel_rfl) (by kernel_rfl) (fun B3 => ?_)
 replace H := H B3
 refine AtE.front ?_
 refine AtE.appendO 2 (T := 42) (E := 9) (z := .string (⟨#[]⟩)) (sz := 1) (bytes := 16) (n := n) (cap := cap) (a := ⟨B3, 0, none⟩) (m := 1) (c := 1) (cs := cs) ([.string x01] : List Value) (by kernel_rfl) (show Src _ _ _ _ ([.string x01] : List Value) from Src.own (j := 0) (o := 0) (n := 1) (c := ([.string x01] : List Value)) (by kernel_rfl)) (by simp) (by simp [Value.oneCell']) H.1 H.2.1 (fun B4 cap2 r1 h1 h2 => ?_)
 replace H := H.2.2 B4 cap2 r1 h1 h2
 refine AtE.front ?_
 refine AtE.store 2 0 (T := 42) (v := .slice (some ⟨B4, 0, none⟩) (n + 1) cap2) (by kernel_rfl) ?_
 refine AtE.run 2 (fun W => by kernel_rfl) ?_
 refine AtE.endRound 4 (l := l) (D := D) (f' := 85) (t := t) (rf := EngB12s85 [1,0,1,0]) (st := .busy) (L1 := ((B4, .cells ⟨((cs).take (n * 1) ++ ([.string x01] : List Value) ++ r1)⟩ 9) :: (B3, .cells #[.string x01] 9) :: (B, .cells #[.slice (some ⟨B4, 0, none⟩) (n + 1) cap2] 42) :: (D, .deferred (some [])) :: (l, loopO .busy none 85 t (EngB12s85 [1,0,1,0]) D) :: F1)) (by kernel_rfl) ?_
 exact H
end Go.Eng
namespace Go.Eng
open Go Go.RowKit Go.Proofs
set_option linter.unusedVariables false
set_option maxRecDepth 100000
noncomputable abbrev EngB13s18 := sub (Eng.body Tryd.f18)
theorem collect_vc (Bt : Nat) {R : Ending → World → Prop} {w0 W : World} (hm : Mem [] [] w0 W)
  (H :
   CallH Tryd.prog 85 ⟨[.slice none 0 0, .func (.func 86) #[] #[.pointer (some ⟨Bt, 0, none⟩)]]⟩ [] [] w0 (fun v L' => ∃ (r1_p : Option Addr) (r1_l : Nat) (r1_c : Nat) (F : SHeap), v = (.slice r1_p r1_l r1_c) ∧ L' = (F) ∧
    Fin R (F) [] w0 (.slice r1_p r1_l r1_c))) :
  Calls Tryd.prog 58 ⟨[.func (.func 86) #[] #[.pointer (some ⟨Bt, 0, none⟩)]]⟩ W R := by
 refine AtE.calls (nt := 5) Tryd.func58 (by kernel_rfl) hm ?_
 refine AtE.run 7 (fun W => by kernel_rfl) ?_
 refine AtE.call 85 ⟨[.slice none 0 0, .func (.func 86) #[] #[.pointer (some ⟨Bt, 0, none⟩)]]⟩ (fun W => by kernel_rfl) (by kernel_rfl) H ?_
 clear H
 rintro _ F ⟨r1_p, r1_l, r1_c, _, rfl, rfl, H⟩
 refine AtE.run 2 (fun W => by kernel_rfl) ?_
 exact AtE.ret Tryd.func58 (by kernel_rfl) H
theorem sents_vc (text : ByteArray) {R : Ending → World → Prop} {w0 W : World} (hm : Mem [] [] w0 W)
  (H :
   ∀ B : Nat,
   Fin R [(B, .cells #[.string text] 9)] [] w0 (.func (.func 86) #[] #[.pointer (some ⟨B, 0, none⟩)])) :
  Calls Tryd.prog 59 ⟨[.string text]⟩ W R := by
 refine AtE.calls (nt := 4) Tryd.func59 (by kernel_rfl) hm ?_
 refine AtE.run 2 (fun W => by kernel_rfl) ?_
 refine AtE.new (fun B => .pointer (some ⟨B, 0, none⟩)) (.cells #[.string text] 9) (fun W => by kernel_rfl) (by kernel_rfl) (fun B => ?_)
 replace H := H B
 refine AtE.run 7 (fun W => by kernel_rfl) ?_
 exact AtE.ret Tryd.func59 (by kernel_rfl) H
theorem sentences_vc (text : ByteArray) {R : Ending → World → Prop} {w0 W : World} (hm : Mem [] [] w0 W)
  (H :
   CallH Tryd.prog 59 ⟨[.string text]⟩ [] [] w0 (fun v L' => ∃ (Bt : Nat), v = (.func (.func 86) #[] #[.pointer (some ⟨Bt, 0, none⟩)]) ∧ L' = [(Bt, .cells #[.string text] 9)] ∧
    CallH Tryd.prog 58 ⟨[.func (.func 86) #[] #[.pointer (some ⟨Bt, 0, none⟩)]]⟩ [(Bt, .cells #[.string text] 9)] [] w0 (fun v L' => ∃ (r21_p : Option Addr) (r21_l : Nat) (r21_c : Nat) (F : SHeap), v = (.slice r21_p r21_l r21_c) ∧ L' = ((Bt, .cells #[.string text] 9) :: F) ∧
     Fin R ((Bt, .cells #[.string text] 9) :: F) [] w0 (.slice r21_p r21_l r21_c)))) :
  Calls Tryd.prog 32 ⟨[.string text]⟩ W R := by
 refine AtE.calls (nt := 6) Tryd.func32 (by kernel_rfl) hm ?_
 refine AtE.run 7 (fun W => by kernel_rfl) ?_
 refine AtE.call 59 ⟨[.string text]⟩ (fun W => by kernel_rfl) (by kernel_rfl) H ?_
 clear H
 rintro _ _ ⟨Bt, rfl, rfl, H⟩
 refine AtE.call 58 ⟨[.func (.func 86) #[] #[.pointer (some ⟨Bt, 0, none⟩)]]⟩ (fun W => by kernel_rfl) (by kernel_rfl) H ?_
 clear H
 rintro _ _ ⟨r21_p, r21_l, r21_c, F, rfl, rfl, H⟩
 refine AtE.run 2 (fun W => by kernel_rfl) ?_
 exact AtE.ret Tryd.func32 (by kernel_rfl) H
theorem rul3_vc (s : ByteArray) {R : Ending → World → Prop} {w0 W : World} (hm : Mem [] [] w0 W)
  (H :
   CallH Tryd.prog 32 ⟨[.string s]⟩ [] [] w0 (fun v L' => ∃ (r1_p : Option Addr) (r1_l : Nat) (r1_c : Nat) (F : SHeap), v = (.slice r1_p r1_l r1_c) ∧ L' = (F) ∧
    CallH Tryd.prog 68 ⟨[.slice r1_p r1_l r1_c, .string (⟨#[32]⟩)]⟩ (F) [] w0 (fun v L' => ∃ (r21 : ByteArray), v = (.string r21) ∧ L' = (F) ∧
     Fin R (F) [] w0 (.string r21)))) :
  Calls Tryd.prog 67 ⟨[.string s]⟩ W R := by
 refine AtE.calls (nt := 6) Tryd.func67 (by kernel_rfl) hm ?_
 refine AtE.run 7 (fun W => by kernel_rfl) ?_
 refine AtE.call 32 ⟨[.string s]⟩ (fun W => by kernel_rfl) (by kernel_rfl) H ?_
 clear H
 rintro _ F ⟨r1_p, r1_l, r1_c, _, rfl, rfl, H⟩
 refine AtE.call 68 ⟨[.slice r1_p r1_l r1_c, .string (⟨#[32]⟩)]⟩ (fun W => by kernel_rfl) (by kernel_rfl) H ?_
 clear H
 rintro _ F ⟨r21, rfl, rfl, H⟩
 refine AtE.run 2 (fun W => by kernel_rfl) ?_
 exact AtE.ret Tryd.func67 (by kernel_rfl) H
def short_c0 (l1_p : Option Addr) (l1_l : Nat) (l1_c : Nat) (i : Int) (w0 : World) (R : Ending → World → Prop) : Prop :=
 AtE Tryd.prog 18 33 [.code (EngB13s18 [1,1,0,1,0,0]), .inLoop (EngB13s18 [1,1,0,1,0,0]), .inBlock 0, .code (EngB13s18 [1,1,1])] [(0, .slice l1_p l1_l l1_c), (3, .slice none 0 0), (4, .int .i64 i)] [] [] w0 (nrm R)
def short_c1 (B3 : Nat) (l2_p : Option Addr) (l2_l : Nat) (l2_c : Nat) (out_l : Nat) (out_c : Nat) (i2 : Int) (cs : List Value) (w0 : World) (R : Ending → World → Prop) : Prop :=
 AtE Tryd.prog 18 33 [.code (EngB13s18 [1,1,0,1,0,0]), .inLoop (EngB13s18 [1,1,0,1,0,0]), .inBlock 0, .code (EngB13s18 [1,1,1])] [(0, .slice l2_p l2_l l2_c), (3, .slice (some ⟨B3, 0, none⟩) out_l out_c), (4, .int .i64 i2)] [(B3, .cells ⟨cs⟩ 26)] [] w0 (nrm R)
theorem short_c0_vc (l1_p : Option Addr) (l1_l : Nat) (l1_c : Nat) (i : Int) {R : Ending → World → Prop} {w0 : World}
  (H :
   ((i < (l1_l : Int)) →
    ((i < (30 : Int)) →
     ∃ l1_pb l1_po : Nat, l1_p = some ⟨l1_pb, l1_po, none⟩ ∧
     (0 ≤ i ∧ i < l1_l) ∧
     ∃ (cw : List Value) (m_0 : Int) (m_1 : Int) (m_2 : ByteArray) (m_3 : Int) (m_4 : Int) (m_5 : Int) (m_6_p : Option Addr) (m_6_l : Nat) (m_6_c : Nat) (m_7 : Int) (m_8 : Int), blkW w0 l1_pb = some cw ∧ ((cw.drop (l1_po + ((Int.toNat i) * 9))).take 9 = [.int .i64 m_0, .int .i64 m_1, .string m_2, .int .i64 m_3, .int .i64 m_4, .int .i64 m_5, .slice m_6_p m_6_l m_6_c, .int .i64 m_7, .int .i64 m_8] ∧ (l1_po + ((Int.toNat i) * 9)) + 9 ≤ cw.length) ∧
     ∀ B : Nat,
     (0 ≤ (0 : Int) ∧ (0 : Int) ≤ (if (1000 : Int) < (m_2.size : Int) then (1000 : Int) else (m_2.size : Int)) ∧ (if (1000 : Int) < (m_2.size : Int) then (1000 : Int) else (m_2.size : Int)) ≤ m_2.size) ∧
     ∀ B1 : Nat,
     ∀ (B2 cap : Nat) (r : List Value), 1 ≤ cap → (([.int .i64 m_0, .int .i64 m_1, .string (m_2.extract 0 (Int.toNat (if (1000 : Int) < (m_2.size : Int) then (1000 : Int) else (m_2.size : Int)))), .int .i64 m_3, .int .i64 m_4, .int .i64 m_5, .slice m_6_p m_6_l m_6_c, .int .i64 m_7, .int .i64 m_8] : List Value) ++ r).length = cap * 9 →
     ∀ i1 : Int, i1 = (IntKind.i64.wrap (i + (1 : Int))) →
     short_c1 B2 (some ⟨l1_pb, l1_po, none⟩) l1_l l1_c 1 cap i1 (([.int .i64 m_0, .int .i64 m_1, .string (m_2.extract 0 (Int.toNat (if (1000 : Int) < (m_2.size : Int) then (1000 : Int) else (m_2.size : Int)))), .int .i64 m_3, .int .i64 m_4, .int .i64 m_5, .slice m_6_p m_6_l m_6_c, .int .i64 m_7, .int .i64 m_8] : List Value) ++ r) w0 R) ∧
     ((¬ (i < (30 : Int))) →
     Fin R [] [] w0 (.slice none 0 0))) ∧
    ((¬ (i < (l1_l : Int))) →
    Fin R [] [] w0 (.slice none 0 0))) :
  short_c0 l1_p l1_l l1_c i w0 R := by
 unfold short_c0
 refine AtE.run 8 (fun W => by kernel_rfl) ?_
 refine AtE.splitP 10 (p := i < (l1_l : Int)) (by kernel_rfl) (fun h1' => ?_) (fun h1' => ?_)
 ·replace H := H.1 h1'
  refine AtE.run 4 (fun W => by kernel_rfl) ?_
  refine AtE.splitP 13 (p := i < (30 : Int)) (by kernel_rfl) (fun h2' => ?_) (fun h2' => ?_)
  ·replace H := H.1 h2'
   refine AtE.run 8 (fun W => by kernel_rfl) ?_
   obtain ⟨l1_pb, l1_po, rfl, H⟩ := H
   refine AtE.indexAddrL (E := 26) (b := l1_pb) (o := l1_po) (len := l1_l) (cap := l1_c) (sz := 9) (o' := (l1_po + ((Int.toNat i) * 9))) (kd := .i64) (i := i) (by kernel_rfl) H.1 (by omega) ?_
   replace H := H.2
   obtain ⟨cw, m_0, m_1, m_2, m_3, m_4, m_5, m_6_p, m_6_l, m_6_c, m_7, m_8, hw, hx, H⟩ := H
   refine AtE.loadW (b := l1_pb) (off := (l1_po + ((Int.toNat i) * 9))) (T := 26) (v := .agg #[.int .i64 m_0, .int .i64 m_1, .string m_2, .int .i64 m_3, .int .i64 m_4, .int .i64 m_5, .slice m_6_p m_6_l m_6_c, .int .i64 m_7, .int .i64 m_8]) (by kernel_rfl) List.not_mem_nil hw (valAt_agg hx.1 hx.2 (by kernel_rfl) (by kernel_rfl)) ?_
   refine AtE.new (fun B => .pointer (some ⟨B, 0, none⟩)) (.cells #[.int .i64 (0 : Int), .int .i64 (0 : Int), .string (⟨#[]⟩), .int .i64 (0 : Int), .int .i64 (0 : Int), .int .i64 (0 : Int), .slice none 0 0, .int .i64 (0 : Int), .int .i64 (0 : Int)] 26) (fun W => by kernel_rfl) (by kernel_rfl) (fun B => ?_)
   replace H := H B
   refine AtE.store 0 0 (T := 26) (v := .agg #[.int .i64 m_0, .int .i64 m_1, .string m_2, .int .i64 m_3, .int .i64 m_4, .int .i64 m_5, .slice m_6_p m_6_l m_6_c, .int .i64 m_7, .int .i64 m_8]) (by kernel_rfl) ?_
   refine AtE.norm (k' := [.inRegion (regOps [.code (EngB13s18 [1,1,0,1,0,0,1,0,0,0])]) [], .code (EngB13s18 [1,1,0,1,0,0,1,0,0,1]), .inBlock 1, .code (EngB13s18 [1,1,0,1,0,0,1,1]), .inLoop (EngB13s18 [1,1,0,1,0,0]), .inBlock 0, .code (EngB13s18 [1,1,1])]) (e' := [(0, .slice (some ⟨l1_pb, l1_po, none⟩) l1_l l1_c), (3, .slice none 0 0), (4, .int .i64 i), (5, .pointer (some ⟨B, 0, none⟩))]) (L' := [(B, .cells #[.int .i64 m_0, .int .i64 m_1, .string m_2, .int .i64 m_3, .int .i64 m_4, .int .i64 m_5, .slice m_6_p m_6_l m_6_c, .int .i64 m_7, .int .i64 m_8] 26)]) ?_ (by kernel_rfl)
   refine AtE.run 4 (fun W => by kernel_rfl) ?_
   refine AtE.load 0 2 (T := 9) (v := .string m_2) (by kernel_rfl) ?_
   refine AtE.run 1 (fun W => by kernel_rfl) ?_
   refine AtE.load 0 2 (T := 9) (v := .string m_2) (by kernel_rfl) ?_
   refine AtE.run 2 (fun W => by kernel_rfl) ?_
   refine AtE.sliceS (s := m_2) (lo := none) (hi := some (.int .i64 (if (1000 : Int) < (m_2.size : Int) then (1000 : Int) else (m_2.size : Int)))) (a := (0 : Int)) (b := (if (1000 : Int) < (m_2.size : Int) then (1000 : Int) else (m_2.size : Int))) (by kernel_rfl) (.inr ⟨rfl, rfl⟩) (.inl ⟨.i64, rfl⟩) H.1 ?_
   replace H := H.2
   refine AtE.run 1 (fun W => by kernel_rfl) ?_
   refine AtE.store 0 2 (T := 9) (v := .string (m_2.extract 0 (Int.toNat (if (1000 : Int) < (m_2.size : Int) then (1000 : Int) else (m_2.size : Int))))) (by kernel_rfl) ?_
   refine AtE.run 3 (fun W => by kernel_rfl) ?_
   refine AtE.load 0 0 (T := 26) (v := .agg #[.int .i64 m_0, .int .i64 m_1, .string (m_2.extract 0 (Int.toNat (if (1000 : Int) < (m_2.size : Int) then (1000 : Int) else (m_2.size : Int)))), .int .i64 m_3, .int .i64 m_4, .int .i64 m_5, .slice m_6_p m_6_l m_6_c, .int .i64 m_7, .int .i64 m_8]) (by kernel_rfl) ?_
   refine AtE.new (fun B => .slice (some ⟨B, 0, none⟩) 1 1) (.cells #[.int .i64 m_0, .int .i64 m_1, .string (m_2.extract 0 (Int.toNat (if (1000 : Int) < (m_2.size : Int) then (1000 : Int) else (m_2.size : Int)))), .int .i64 m_3, .int .i64 m_4, .int .i64 m_5, .slice m_6_p m_6_l m_6_c, .int .i64 m_7, .int .i64 m_8] 26) (fun W => by kernel_rfl) (by kernel_rfl) (fun B1 => ?_)
   replace H := H B1
   refine AtE.appendN (T := 27) (E := 26) (z := .agg #[.int .i64 (0 : Int), .int .i64 (0 : Int), .string (⟨#[]⟩), .int .i64 (0 : Int), .int .i64 (0 : Int), .int .i64 (0 : Int), .slice none 0 0, .int .i64 (0 : Int), .int .i64 (0 : Int)]) (sz := 9) (bytes := 96) (a := ⟨B1, 0, none⟩) (m := 1) (c := 1) ([.int .i64 m_0, .int .i64 m_1, .string (m_2.extract 0 (Int.toNat (if (1000 : Int) < (m_2.size : Int) then (1000 : Int) else (m_2.size : Int)))), .int .i64 m_3, .int .i64 m_4, .int .i64 m_5, .slice m_6_p m_6_l m_6_c, .int .i64 m_7, .int .i64 m_8] : List Value) (by kernel_rfl) (show Src _ _ _ _ ([.int .i64 m_0, .int .i64 m_1, .string (m_2.extract 0 (Int.toNat (if (1000 : Int) < (m_2.size : Int) then (1000 : Int) else (m_2.size : Int)))), .int .i64 m_3, .int .i64 m_4, .int .i64 m_5, .slice m_6_p m_6_l m_6_c, .int .i64 m_7, .int .i64 m_8] : List Value) from Src.own (j := 1) (o := 0) (n := 9) (c := ([.int .i64 m_0, .int .i64 m_1, .string (m_2.extract 0 (Int.toNat (if (1000 : Int) < (m_2.size : Int) then (1000 : Int) else (m_2.size : Int)))), .int .i64 m_3, .int .i64 m_4, .int .i64 m_5, .slice m_6_p m_6_l m_6_c, .int .i64 m_7, .int .i64 m_8] : List Value)) (by kernel_rfl)) (by simp) (by omega) (by omega) (fun B2 cap r h1 h2 => ?_)
   replace H := H B2 cap r h1 h2
   refine AtE.norm (k' := [.inRegion (regOps [.code (EngB13s18 [1,1,0,1,0,0,1,0,0,1,1])]) [4], .inBlock 1, .code (EngB13s18 [1,1,0,1,0,0,1,1]), .inLoop (EngB13s18 [1,1,0,1,0,0]), .inBlock 0, .code (EngB13s18 [1,1,1])]) (e' := [(0, .slice (some ⟨l1_pb, l1_po, none⟩) l1_l l1_c), (4, .int .i64 i), (31, .slice (some ⟨B2, 0, none⟩) 1 cap)]) (L' := [(B, .cells #[.int .i64 m_0, .int .i64 m_1, .string (m_2.extract 0 (Int.toNat (if (1000 : Int) < (m_2.size : Int) then (1000 : Int) else (m_2.size : Int)))), .int .i64 m_3, .int .i64 m_4, .int .i64 m_5, .slice m_6_p m_6_l m_6_c, .int .i64 m_7, .int .i64 m_8] 26), (B1, .cells #[.int .i64 m_0, .int .i64 m_1, .string (m_2.extract 0 (Int.toNat (if (1000 : Int) < (m_2.size : Int) then (1000 : Int) else (m_2.size : Int)))), .int .i64 m_3, .int .i64 m_4, .int .i64 m_5, .slice m_6_p m_6_l m_6_c, .int .i64 m_7, .int .i64 m_8] 26), (B2, .cells ⟨(([.int .i64 m_0, .int .i64 m_1, .string (m_2.extract 0 (Int.toNat (if (1000 : Int) < (m_2.size : Int) then (1000 : Int) else (m_2.size : Int)))), .int .i64 m_3, .int .i64 m_4, .int .i64 m_5, .slice m_6_p m_6_l m_6_c, .int .i64 m_7, .int .i64 m_8] : List Value) ++ r)⟩ 26)]) ?_ (by kernel_rfl)
   refine AtE.run 7 (fun W => by kernel_rfl) ?_
   refine AtE.letI 4 (kd := .i64) (n := (IntKind.i64.wrap (i + (1 : Int)))) (by kernel_rfl) (fun i1 hi1 => ?_)
   replace H := H i1 hi1
   refine AtE.run 2 (fun W => by kernel_rfl) ?_
   exact AtE.cut [2] H (by kernel_rfl)
  ·replace H := H.2 h2'
   refine AtE.run 7 (fun W => by kernel_rfl) ?_
   exact AtE.ret Tryd.func18 (by kernel_rfl) H
 ·replace H := H.2 h1'
  refine AtE.run 11 (fun W => by kernel_rfl) ?_
  exact AtE.ret Tryd.func18 (by kernel_rfl) H
theorem short_c1_vc (B3 : Nat) (l2_p : Option Addr) (l2_l : Nat) (l2_c : Nat) (out_l : Nat) (out_c : Nat) (i2 : Int) (cs : List Value) {R : Ending → World → Prop} {w0 : World}
  (H :
   ((i2 < (l2_l : Int)) →
    ((i2 < (30 : Int)) →
     ∃ l2_pb l2_po : Nat, l2_p = some ⟨l2_pb, l2_po, none⟩ ∧
     (0 ≤ i2 ∧ i2 < l2_l) ∧
     ∃ (cw1 : List Value) (m1_0 : Int) (m1_1 : Int) (m1_2 : ByteArray) (m1_3 : Int) (m1_4 : Int) (m1_5 : Int) (m1_6_p : Option Addr) (m1_6_l : Nat) (m1_6_c : Nat) (m1_7 : Int) (m1_8 : Int), blkW w0 l2_pb = some cw1 ∧ ((cw1.drop (l2_po + ((Int.toNat i2) * 9))).take 9 = [.int .i64 m1_0, .int .i64 m1_1, .string m1_2, .int .i64 m1_3, .int .i64 m1_4, .int .i64 m1_5, .slice m1_6_p m1_6_l m1_6_c, .int .i64 m1_7, .int .i64 m1_8] ∧ (l2_po + ((Int.toNat i2) * 9)) + 9 ≤ cw1.length) ∧
     ∀ B4 : Nat,
     (0 ≤ (0 : Int) ∧ (0 : Int) ≤ (if (1000 : Int) < (m1_2.size : Int) then (1000 : Int) else (m1_2.size : Int)) ∧ (if (1000 : Int) < (m1_2.size : Int) then (1000 : Int) else (m1_2.size : Int)) ≤ m1_2.size) ∧
     ∀ B5 : Nat,
     (out_l ≤ out_c ∧ (cs).length = out_c * 9) ∧ ((out_l + 1) ≤ 9223372036854775807 ∧ (out_l + 1) * 96 ≤ 140737488355328) ∧
     ∀ (B6 cap1 : Nat) (r1 : List Value), (out_l + 1) ≤ cap1 → ((cs).take (out_l * 9) ++ ([.int .i64 m1_0, .int .i64 m1_1, .string (m1_2.extract 0 (Int.toNat (if (1000 : Int) < (m1_2.size : Int) then (1000 : Int) else (m1_2.size : Int)))), .int .i64 m1_3, .int .i64 m1_4, .int .i64 m1_5, .slice m1_6_p m1_6_l m1_6_c, .int .i64 m1_7, .int .i64 m1_8] : List Value) ++ r1).length = cap1 * 9 →
     ∀ i3 : Int, i3 = (IntKind.i64.wrap (i2 + (1 : Int))) →
     short_c1 B6 (some ⟨l2_pb, l2_po, none⟩) l2_l l2_c (out_l + 1) cap1 i3 ((cs).take (out_l * 9) ++ ([.int .i64 m1_0, .int .i64 m1_1, .string (m1_2.extract 0 (Int.toNat (if (1000 : Int) < (m1_2.size : Int) then (1000 : Int) else (m1_2.size : Int)))), .int .i64 m1_3, .int .i64 m1_4, .int .i64 m1_5, .slice m1_6_p m1_6_l m1_6_c, .int .i64 m1_7, .int .i64 m1_8] : List Value) ++ r1) w0 R) ∧
     ((¬ (i2 < (30 : Int))) →
     Fin R [(B3, .cells ⟨cs⟩ 26)] [] w0 (.slice (some ⟨B3, 0, none⟩) out_l out_c))) ∧
    ((¬ (i2 < (l2_l : Int))) →
    Fin R [(B3, .cells ⟨cs⟩ 26)] [] w0 (.slice (some ⟨B3, 0, none⟩) out_l out_c))) :
  short_c1 B3 l2_p l2_l l2_c out_l out_c i2 cs w0 R := by
 unfold short_c1
 refine AtE.run 8 (fun W => by kernel_rfl) ?_
 refine AtE.splitP 10 (p := i2 < (l2_l : Int)) (by kernel_rfl) (fun h3' => ?_) (fun h3' => ?_)
 ·replace H := H.1 h3'
  refine AtE.run 4 (fun W => by kernel_rfl) ?_
  refine AtE.splitP 13 (p := i2 < (30 : Int)) (by kernel_rfl) (fun h4' => ?_) (fun h4' => ?_)
  ·replace H := H.1 h4'
   refine AtE.run 8 (fun W => by kernel_rfl) ?_
   obtain ⟨l2_pb, l2_po, rfl, H⟩ := H
   refine AtE.indexAddrL (E := 26) (b := l2_pb) (o := l2_po) (len := l2_l) (cap := l2_c) (sz := 9) (o' := (l2_po + ((Int.toNat i2) * 9))) (kd := .i64) (i := i2) (by kernel_rfl) H.1 (by omega) ?_
   replace H := H.2
   obtain ⟨cw1, m1_0, m1_1, m1_2, m1_3, m1_4, m1_5, m1_6_p, m1_6_l, m1_6_c, m1_7, m1_8, hw, hx, H⟩ := H
   refine AtE.loadW (b := l2_pb) (off := (l2_po + ((Int.toNat i2) * 9))) (T := 26) (v := .agg #[.int .i64 m1_0, .int .i64 m1_1, .string m1_2, .int .i64 m1_3, .int .i64 m1_4, .int .i64 m1_5, .slice m1_6_p m1_6_l m1_6_c, .int .i64 m1_7, .int .i64 m1_8]) (by kernel_rfl) List.not_mem_nil hw (valAt_agg hx.1 hx.2 (by kernel_rfl) (by kernel_rfl)) ?_
   refine AtE.new (fun B => .pointer (some ⟨B, 0, none⟩)) (.cells #[.int .i64 (0 : Int), .int .i64 (0 : Int), .string (⟨#[]⟩), .int .i64 (0 : Int), .int .i64 (0 : Int), .int .i64 (0 : Int), .slice none 0 0, .int .i64 (0 : Int), .int .i64 (0 : Int)] 26) (fun W => by kernel_rfl) (by kernel_rfl) (fun B4 => ?_)
   replace H := H B4
   refine AtE.store 1 0 (T := 26) (v := .agg #[.int .i64 m1_0, .int .i64 m1_1, .string m1_2, .int .i64 m1_3, .int .i64 m1_4, .int .i64 m1_5, .slice m1_6_p m1_6_l m1_6_c, .int .i64 m1_7, .int .i64 m1_8]) (by kernel_rfl) ?_
   refine AtE.norm (k' := [.inRegion (regOps [.code (EngB13s18 [1,1,0,1,0,0,1,0,0,0])]) [], .code (EngB13s18 [1,1,0,1,0,0,1,0,0,1]), .inBlock 1, .code (EngB13s18 [1,1,0,1,0,0,1,1]), .inLoop (EngB13s18 [1,1,0,1,0,0]), .inBlock 0, .code (EngB13s18 [1,1,1])]) (e' := [(0, .slice (some ⟨l2_pb, l2_po, none⟩) l2_l l2_c), (3, .slice (some ⟨B3, 0, none⟩) out_l out_c), (4, .int .i64 i2), (5, .pointer (some ⟨B4, 0, none⟩))]) (L' := [(B3, .cells ⟨cs⟩ 26), (B4, .cells #[.int .i64 m1_0, .int .i64 m1_1, .string m1_2, .int .i64 m1_3, .int .i64 m1_4, .int .i64 m1_5, .slice m1_6_p m1_6_l m1_6_c, .int .i64 m1_7, .int .i64 m1_8] 26)]) ?_ (by kernel_rfl)
   refine AtE.run 4 (fun W => by kernel_rfl) ?_
   refine AtE.load 1 2 (T := 9) (v := .string m1_2) (by kernel_rfl) ?_
   refine AtE.run 1 (fun W => by kernel_rfl) ?_
   refine AtE.load 1 2 (T := 9) (v := .string m1_2) (by kernel_rfl) ?_
   refine AtE.run 2 (fun W => by kernel_rfl) ?_
   refine AtE.sliceS (s := m1_2) (lo := none) (hi := some (.int .i64 (if (1000 : Int) < (m1_2.size : Int) then (1000 : Int) else (m1_2.size : Int)))) (a := (0 : Int)) (b := (if (1000 : Int) < (m1_2.size : Int) then (1000 : Int) else (m1_2.size : Int))) (by kernel_rfl) (.inr ⟨rfl, rfl⟩) (.inl ⟨.i64, rfl⟩) H.1 ?_
   replace H := H.2
   refine AtE.run 1 (fun W => by kernel_rfl) ?_
   refine AtE.store 1 2 (T := 9) (v := .string (m1_2.extract 0 (Int.toNat (if (1000 : Int) < (m1_2.size : Int) then (1000 : Int) else (m1_2.size : Int))))) (by kernel_rfl) ?_
   refine AtE.run 3 (fun W => by kernel_rfl) ?_
   refine AtE.load 1 0 (T := 26) (v := .agg #[.int .i64 m1_0, .int .i64 m1_1, .string (m1_2.extract 0 (Int.toNat (if (1000 : Int) < (m1_2.size : Int) then (1000 : Int) else (m1_2.size : Int)))), .int .i64 m1_3, .int .i64 m1_4, .int .i64 m1_5, .slice m1_6_p m1_6_l m1_6_c, .int .i64 m1_7, .int .i64 m1_8]) (by kernel_rfl) ?_
   refine AtE.new (fun B => .slice (some ⟨B, 0, none⟩) 1 1) (.cells #[.int .i64 m1_0, .int .i64 m1_1, .string (m1_2.extract 0 (Int.toNat (if (1000 : Int) < (m1_2.size : Int) then (1000 : Int) else (m1_2.size : Int)))), .int .i64 m1_3, .int .i64 m1_4, .int .i64 m1_5, .slice m1_6_p m1_6_l m1_6_c, .int .i64 m1_7, .int .i64 m1_8] 26) (fun W => by kernel_rfl) (by kernel_rfl) (fun B5 => ?_)
   replace H := H B5
   refine AtE.appendO 0 (T := 27) (E := 26) (z := .agg #[.int .i64 (0 : Int), .int .i64 (0 : Int), .string (⟨#[]⟩), .int .i64 (0 : Int), .int .i64 (0 : Int), .int .i64 (0 : Int), .slice none 0 0, .int .i64 (0 : Int), .int .i64 (0 : Int)]) (sz := 9) (bytes := 96) (n := out_l) (cap := out_c) (a := ⟨B5, 0, none⟩) (m := 1) (c := 1) (cs := cs) ([.int .i64 m1_0, .int .i64 m1_1, .string (m1_2.extract 0 (Int.toNat (if (1000 : Int) < (m1_2.size : Int) then (1000 : Int) else (m1_2.size : Int)))), .int .i64 m1_3, .int .i64 m1_4, .int .i64 m1_5, .slice m1_6_p m1_6_l m1_6_c, .int .i64 m1_7, .int .i64 m1_8] : List Value) (by kernel_rfl) (show Src _ _ _ _ ([.int .i64 m1_0, .int .i64 m1_1, .string (m1_2.extract 0 (Int.toNat (if (1000 : Int) < (m1_2.size : Int) then (1000 : Int) else (m1_2.size : Int)))), .int .i64 m1_3, .int .i64 m1_4, .int .i64 m1_5, .slice m1_6_p m1_6_l m1_6_c, .int .i64 m1_7, .int .i64 m1_8] : List Value) from Src.own (j := 2) (o := 0) (n := 9) (c := ([.int .i64 m1_0, .int .i64 m1_1, .string (m1_2.extract 0 (Int.toNat (if (1000 : Int) < (m1_2.size : Int) then (1000 : Int) else (m1_2.size : Int)))), .int .i64 m1_3, .int .i64 m1_4, .int .i64 m1_5, .slice m1_6_p m1_6_l m1_6_c, .int .i64 m1_7, .int .i64 m1_8] : List Value)) (by kernel_rfl)) (by simp) (by simp [Value.oneCell']) H.1 H.2.1 (fun B6 cap1 r1 h1 h2 => ?_)
   replace H := H.2.2 B6 cap1 r1 h1 h2
   refine AtE.norm (k' := [.inRegion (regOps [.code (EngB13s18 [1,1,0,1,0,0,1,0,0,1,1])]) [4], .inBlock 1, .code (EngB13s18 [1,1,0,1,0,0,1,1]), .inLoop (EngB13s18 [1,1,0,1,0,0]), .inBlock 0, .code (EngB13s18 [1,1,1])]) (e' := [(0, .slice (some ⟨l2_pb, l2_po, none⟩) l2_l l2_c), (4, .int .i64 i2), (31, .slice (some ⟨B6, 0, none⟩) (out_l + 1) cap1)]) (L' := [(B4, .cells #[.int .i64 m1_0, .int .i64 m1_1, .string (m1_2.extract 0 (Int.toNat (if (1000 : Int) < (m1_2.size : Int) then (1000 : Int) else (m1_2.size : Int)))), .int .i64 m1_3, .int .i64 m1_4, .int .i64 m1_5, .slice m1_6_p m1_6_l m1_6_c, .int .i64 m1_7, .int .i64 m1_8] 26), (B5, .cells #[.int .i64 m1_0, .int .i64 m1_1, .string (m1_2.extract 0 (Int.toNat (if (1000 : Int) < (m1_2.size : Int) then (1000 : Int) else (m1_2.size : Int)))), .int .i64 m1_3, .int .i64 m1_4, .int .i64 m1_5, .slice m1_6_p m1_6_l m1_6_c, .int .i64 m1_7, .int .i64 m1_8] 26), (B6, .cells ⟨((cs).take (out_l * 9) ++ ([.int .i64 m1_0, .int .i64 m1_1, .string (m1_2.extract 0 (Int.toNat (if (1000 : Int) < (m1_2.size : Int) then (1000 : Int) else (m1_2.size : Int)))), .int .i64 m1_3, .int .i64 m1_4, .int .i64 m1_5, .slice m1_6_p m1_6_l m1_6_c, .int .i64 m1_7, .int .i64 m1_8] : List Value) ++ r1)⟩ 26)]) ?_ (by kernel_rfl)
   refine AtE.run 7 (fun W => by kernel_rfl) ?_
   refine AtE.letI 4 (kd := .i64) (n := (IntKind.i64.wrap (i2 + (1 : Int)))) (by kernel_rfl) (fun i3 hi3 => ?_)
   replace H := H i3 hi3
   refine AtE.run 2 (fun W => by kernel_rfl) ?_
   exact AtE.cut [2] H (by kernel_rfl)
  ·replace H := H.2 h4'
   refine AtE.run 7 (fun W => by kernel_rfl) ?_
   exact AtE.ret Tryd.func18 (by kernel_rfl) H
 ·replace H := H.2 h3'
  refine AtE.run 11 (fun W => by kernel_rfl) ?_
  exact AtE.ret Tryd.func18 (by kernel_rfl) H
theorem short_vc (l_p : Option Addr) (l_l : Nat) (l_c : Nat) {R : Ending → World → Prop} {w0 W : World} (hm : Mem [] [] w0 W)
  (H :
   short_c0 l_p l_l l_c (0 : Int) w0 R) :
  Calls Tryd.prog 18 ⟨[.slice l_p l_l l_c]⟩ W R := by
 refine AtE.calls (nt := 33) Tryd.func18 (by kernel_rfl) hm ?_
 refine AtE.run 15 (fun W => by kernel_rfl) ?_
 exact AtE.cut [] H (by kernel_rfl)
end Go.Eng
namespace Go.Eng
open Go Go.RowKit Go.Proofs Wire
set_option linter.unusedVariables false
abbrev tBlk (B : Nat) (s : ByteArray) : Nat × Obj := (B, .cells #[.string s] 9)
theorem iter_loop {B yl : Nat} {s : ByteArray} (hs : s.size < 4611686018427387904) {S : List Nat} {w0 : World} {R : Ending → World → Prop} {I : List (List UInt8) → SHeap → Prop}
    (hy : ∀ l F x, l.length ≤ s.size → I l F → YieldH Tryd.prog yl ⟨[.string (ba x)]⟩ (tBlk B s :: F) S w0 (fun v L' => ∃ F', v = .bool true ∧ L' = tBlk B s :: F' ∧ I (l ++ [x]) F'))
    (hR : ∀ F, I (senOf (bts s)) F → Fin R (tBlk B s :: F) S w0 (.tuple #[])) :
    ∀ (g i a : Nat) (l : List (List UInt8)) (F : SHeap), g + i = s.size → a ≤ i → l.length ≤ i → I l F → l ++ senAt (bts s) a i = senOf (bts s) → iter_c0 B yl (a : Int) (i : Int) s F S w0 R
  | 0, i, a, l, F, hg, ha, hl, hI, he => by
    apply iter_c0_vc
    have hlen := bts_len s
    have hx : bts (s.extract (Int.toNat (a : Int)) s.size) = (bts s).drop a := by
      rw [bts_ext, seg, Int.toNat_natCast, List.take_of_length_le (by simp only [List.length_drop]; omega)]
    rw [senAt_end ha (by omega)] at he
    refine no (by omega) ⟨by omega, CallH.pure (trim_c _ (by rw [← bts_len, hx]; simp only [List.length_drop]; omega)) ⟨_, rfl, rfl, ?_⟩⟩
    rw [hx]
    refine ⟨fun h => ?_, fun h => ?_⟩
    · refine (hy l F _ (by omega) hI).mono ?_
      rintro v L' ⟨F', rfl, rfl, hI'⟩
      refine ⟨true, F', rfl, rfl, hR F' ?_⟩
      rw [if_neg (fun h0 => h (by rw [h0]))] at he
      rw [← he]; exact hI'
    · have h0 : trimS ((bts s).drop a) = [] := by
        have := congrArg bts h
        rw [bts_mk] at this; exact this
      rw [if_pos h0, List.append_nil] at he
      exact hR F (by rw [← he]; exact hI)
  | g + 1, i, a, l, F, hg, ha, hl, hI, he => by
    apply iter_c0_vc
    have hlen := bts_len s
    have hi : i < (bts s).length := by omega
    have w1 : IntKind.i64.wrap ((i : Int) + 1) = ((i + 1 : Nat) : Int) := by rw [wi64 (by omega)]; omega
    simp only [w1, Int.toNat_natCast]
    have hend := end_spec (s := s) (i := i) (by omega)
    have hx : bts (s.extract a (i + 1)) = seg (bts s) a (i + 1) := bts_ext s a (i + 1)
    have skip : endAt (bts s) i = false → ∀ x : Int, x = ((i + 1 : Nat) : Int) → iter_c0 B yl (a : Int) x s F S w0 R := by
      rintro hf _ rfl
      exact iter_loop hs hy hR g (i + 1) a l F (by omega) (by omega) (by omega) hI (by rw [← he, senAt_no ha hi hf])
    have emit : endAt (bts s) i = true → CallH Tryd.prog 88 ⟨[.string (s.extract a (i + 1)), .string (⟨#[32]⟩)]⟩ (tBlk B s :: F) S w0 (fun v L' => ∃ (r21 : ByteArray), v = (.string r21) ∧ L' = (tBlk B s :: F) ∧
        YieldH Tryd.prog yl ⟨[.string r21]⟩ (tBlk B s :: F) S w0 (fun v L' => ∃ (go : Bool) (F2 : SHeap), v = .bool go ∧ L' = (tBlk B s :: F2) ∧
          ((go = true) → ∀ start1 : Int, start1 = ((i + 1 : Nat) : Int) → ∀ atv3 : Int, atv3 = ((i + 1 : Nat) : Int) → iter_c0 B yl start1 atv3 s F2 S w0 R) ∧
          ((go = false) → Fin R (tBlk B s :: F2) S w0 (.tuple #[])))) := by
      intro ht
      refine CallH.pure (trim_c _ (by rw [← bts_len, hx, seg, List.length_take, List.length_drop]; omega)) ⟨_, rfl, rfl, ?_⟩
      rw [hx]
      refine (hy l F _ (by omega) hI).mono ?_
      rintro v L' ⟨F', rfl, rfl, hI'⟩
      refine ⟨true, F', rfl, rfl, fun _ => ?_, fun h => Bool.noConfusion h⟩
      rintro _ rfl _ rfl
      refine iter_loop hs hy hR g (i + 1) (i + 1) _ F' (by omega) (by omega) (by simp; omega) hI' ?_
      rw [← he, senAt_yes ha hi ht, List.append_assoc]; rfl
    have sk : ∀ {p : Prop} [Decidable p], (endAt (bts s) i = decide p) → ¬ p → endAt (bts s) i = false := fun h hp => by rw [h]; exact decide_eq_false hp
    have yT : decide ((i : Int) + 1 < s.size → bat s ((i : Int) + 1) = 32) = true → bat s (i : Int) = 33 ∨ bat s (i : Int) = 63 ∨ (bat s (i : Int) = 46 ∧ initAt (bts s) i = false) → endAt (bts s) i = true := by
      intro h1 h2
      rw [hend, h1, Bool.true_and]
      rcases h2 with h | h | ⟨h, h'⟩
      · simp [h]
      · simp [h]
      · simp [h, h']
    have yF : decide ((i : Int) + 1 < s.size → bat s ((i : Int) + 1) = 32) = false → endAt (bts s) i = false := fun h => by rw [hend, h, Bool.false_and]
    have c1 : ((i + 1 : Nat) : Int) = (i : Int) + 1 := by omega
    refine yes (by omega) ⟨by omega, fun h46 => ?_, fun h46 => ⟨fun h33 => ?_, fun h33 => ⟨fun h63 => ?_, fun h63 => ?_⟩⟩⟩
    · refine CallH.pure (initB_c s hs (by omega)) ⟨_, rfl, rfl, fun hin => ?_, fun hin => ?_⟩
      · exact skip (by rw [hend]; simp [h46, hin])
      · refine ⟨fun hlt => ⟨by omega, fun hn => skip (yF (decide_eq_false (by rw [← c1]; omega))), fun hn => ⟨by omega, emit (yT (decide_eq_true (by rw [← c1]; omega)) (.inr (.inr ⟨h46, hin⟩)))⟩⟩, fun hlt => ⟨by omega, emit (yT (decide_eq_true (by rw [← c1]; omega)) (.inr (.inr ⟨h46, hin⟩)))⟩⟩
    · refine ⟨fun hlt => ⟨by omega, fun hn => skip (yF (decide_eq_false (by rw [← c1]; omega))), fun hn => ⟨by omega, emit (yT (decide_eq_true (by rw [← c1]; omega)) (.inl h33))⟩⟩, fun hlt => ⟨by omega, emit (yT (decide_eq_true (by rw [← c1]; omega)) (.inl h33))⟩⟩
    · refine ⟨fun hlt => ⟨by omega, fun hn => skip (yF (decide_eq_false (by rw [← c1]; omega))), fun hn => ⟨by omega, emit (yT (decide_eq_true (by rw [← c1]; omega)) (.inr (.inl h63)))⟩⟩, fun hlt => ⟨by omega, emit (yT (decide_eq_true (by rw [← c1]; omega)) (.inr (.inl h63)))⟩⟩
    · exact skip (by rw [hend]; simp [h46, h33, h63])
theorem iter_h {B yl : Nat} {s : ByteArray} (hs : s.size < 4611686018427387904) {S : List Nat} {w0 : World} {F : SHeap} {K : Value → SHeap → Prop} (I : List (List UInt8) → SHeap → Prop) (h0 : I [] F)
    (hy : ∀ l F x, l.length ≤ s.size → I l F → YieldH Tryd.prog yl ⟨[.string (ba x)]⟩ (tBlk B s :: F) S w0 (fun v L' => ∃ F', v = .bool true ∧ L' = tBlk B s :: F' ∧ I (l ++ [x]) F'))
    (hK : ∀ F, I (senOf (bts s)) F → K (.tuple #[]) (tBlk B s :: F)) : CallH Tryd.prog 86 ⟨[.func (.yield yl) #[] #[], .pointer (some ⟨B, 0, none⟩)]⟩ (tBlk B s :: F) S w0 K :=
  fun W hm => iter_vc yl B s F hm (iter_loop hs hy (fun F' hI => dkFin (hK F' hI)) s.size 0 0 [] F (by omega) (Nat.le_refl _) (Nat.zero_le _) h0 (senOf_at _).symm)
theorem CallH.old {P : Program} {g : FuncId} {args : Array Value} {L : SHeap} {w0 : World} {K : Value → SHeap → Prop} {B : Nat} {X : Obj} (hX : w0.heap[B]? = some X)
    (h : CallH P g args ((B, X) :: L) [B] w0 (fun v L' => ∃ F', L' = (B, X) :: F' ∧ K v F')) : CallH P g args L [] w0 K := by
  intro W hm
  have hB : B < w0.heap.size := (Array.getElem?_eq_some_iff.1 hX).1
  have hlt : ∀ p ∈ L, w0.heap.size ≤ p.1 := fun p hp => (hm.own p hp).resolve_right (by simp)
  refine (h W ⟨?_, ?_, ?_, ?_⟩).mono ?_
  · rw [List.map_cons, List.nodup_cons]
    refine ⟨fun h0 => ?_, hm.nodup⟩
    obtain ⟨q, hq, hqe⟩ := List.mem_map.1 h0
    have := hlt q hq
    omega
  · intro p hp
    rcases List.mem_cons.1 hp with rfl | hp
    · rw [hm.kept.block B hB (by simp)]; exact hX
    · exact hm.here p hp
  · intro p hp
    rcases List.mem_cons.1 hp with rfl | hp
    · exact .inr (by simp)
    · exact .inl (hlt p hp)
  · exact ⟨hm.kept.os, hm.kept.tape, hm.kept.output, hm.kept.size, fun i hi _ => hm.kept.block i hi (by simp)⟩
  · rintro e W' ⟨v, L', rfl, hm', F', rfl, hk⟩
    have hnd := hm'.nodup
    rw [List.map_cons, List.nodup_cons] at hnd
    refine ⟨v, F', rfl, ⟨hnd.2, fun p hp => hm'.here p (List.mem_cons_of_mem _ hp), fun p hp => ?_, ?_⟩, hk⟩
    · rcases hm'.own p (List.mem_cons_of_mem _ hp) with h1 | h1
      · exact .inl h1
      · exact absurd (List.mem_map_of_mem (f := fun x : Nat × Obj => x.1) hp) (by rw [List.mem_singleton.1 h1]; exact hnd.1)
    · refine ⟨hm'.kept.os, hm'.kept.tape, hm'.kept.output, hm'.kept.size, fun i hi _ => ?_⟩
      by_cases h1 : i = B
      · subst h1
        rw [hm'.here (i, X) List.mem_cons_self, hX]
      · exact hm'.kept.block i hi (by simp [h1])
def senB (s : ByteArray) : List ByteArray := (senOf (bts s)).map ba
def SRow (cs : List Value) (l : List (List UInt8)) : Prop := ∀ i (h : i < l.length), cs[i]? = some (.string (ba l[i]))
theorem SRow.app {cs r : List Value} {l : List (List UInt8)} {x : List UInt8} {cap : Nat} (h : SRow cs l) (h1 : l.length ≤ cap) (h2 : cs.length = cap * 1) : SRow (cs.take (l.length * 1) ++ [.string (ba x)] ++ r) (l ++ [x]) := by
  intro i hi
  rw [List.length_append, List.length_singleton] at hi
  rw [Nat.mul_one] at *
  rcases Nat.lt_or_ge i l.length with hlt | hge
  · rw [at_old hlt (by omega), List.getElem_append_left hlt]
    exact h i hlt
  · obtain rfl : i = l.length := by omega
    rw [at_new (by omega)]
    simp
theorem SRow.one {r : List Value} {x : List UInt8} : SRow ([.string (ba x)] ++ r) [x] := by
  intro i hi
  obtain rfl : i = 0 := by simp at hi; omega
  rfl
theorem SRow.sl {F : SHeap} {cs : List Value} {l : List (List UInt8)} {Q t : Nat} {fz : Nat × Nat} (h : SRow cs l) (hm : (Q, Obj.cells ⟨cs⟩ t fz) ∈ F) : StrsL (lkF F) (some ⟨Q, 0, none⟩) (l.map ba) :=
  fun _ => ⟨Q, 0, cs, rfl, ⟨t, fz, hm⟩, fun i hi => by
    rw [Nat.zero_add, h i (by simpa using hi)]; simp⟩
theorem StrsL.nil {lk : Lk} {p : Option Addr} : StrsL lk p [] := fun h => absurd h (by simp)
theorem permX (a b c d e x : Nat × Obj) (F : SHeap) : (a :: b :: c :: d :: e :: F ++ [x]).Perm (x :: c :: a :: d :: e :: b :: F) := by
  haveI : DecidableEq (Nat × Obj) := fun a b => Classical.propDecidable _
  refine List.perm_iff_count.2 fun y => ?_
  simp only [List.count_append, List.count_cons, List.cons_append, List.count_nil]
  omega
def SenOut (s : ByteArray) (v : Value) (F : SHeap) : Prop := ∃ p c, v = .slice p (senB s).length c ∧ (senB s).length ≤ c ∧ StrsL (lkF F) p (senB s)
theorem SenOut.mono {s : ByteArray} {v : Value} {F F' : SHeap} (h : SenOut s v F) (hl : ∀ x ∈ F, x ∈ F') : SenOut s v F' := by
  obtain ⟨p, c, h1, h2, h3⟩ := h
  exact ⟨p, c, h1, h2, h3.mono (lkF_mono hl)⟩
def AppI (B D l : Nat) (X : Obj) (q : List (List UInt8)) (F : SHeap) : Prop :=
  (q = [] ∧ F = [(B, .cells #[.slice none 0 0] 42), (D, .deferred (some [])), (l, X)]) ∨
  (∃ Q cap cs F1, q ≠ [] ∧ F = (B, .cells #[.slice (some ⟨Q, 0, none⟩) q.length cap] 42) :: (Q, .cells ⟨cs⟩ 9) :: (D, .deferred (some [])) :: (l, X) :: F1 ∧ q.length ≤ cap ∧ cs.length = cap * 1 ∧ SRow cs q)
theorem appSeq_e {Bt : Nat} {s : ByteArray} (hs : s.size ≤ 1099511627776) : EffW Tryd.prog 85 ⟨[.slice none 0 0, .func (.func 86) #[] #[.pointer (some ⟨Bt, 0, none⟩)]]⟩ [] (fun W => W.heap[Bt]? = some (.cells #[.string s] 9)) (SenOut s) := by
  intro W hm hX
  refine appSeq_vc Bt hm fun B D l t hT => ?_
  refine CallH.old hX (iter_h (by omega) (AppI B D l (loopO .ready none 85 t (sub (Eng.body Tryd.f85) [1, 0, 1, 0]) D)) (.inl ⟨rfl, rfl⟩) (fun q F x hq hI => ?_) fun F hI => ?_)
  · rcases hI with ⟨rfl, rfl⟩ | ⟨Q, cap, cs, F1, hne, rfl, h1, h2, h3⟩
    · refine YieldH.eff (L1 := [tBlk Bt s]) (K := fun v L' => ∃ B2 B1 cap1 r, 1 ≤ cap1 ∧ (([.string (ba x)] : List Value) ++ r).length = cap1 * 1 ∧ v = .bool true ∧ L' = (B2, .cells ⟨(([.string (ba x)] : List Value) ++ r)⟩ 9) :: (B1, .cells #[.string (ba x)] 9) :: (B, .cells #[.slice (some ⟨B2, 0, none⟩) 1 cap1] 42) :: (D, .deferred (some [])) :: (l, loopO .ready none 85 t (sub (Eng.body Tryd.f85) [1, 0, 1, 0]) D) :: []) (fun W' hm' => ?_) List.perm_append_comm ?_
      · exact appSeq_r0_vc Bt B [] (ba x) D l t hT fun B1 B2 cap1 r q1 q2 => ⟨B2, B1, cap1, r, q1, q2, rfl, rfl⟩
      · rintro v L' ⟨B2, B1, cap1, r, q1, q2, rfl, rfl⟩
        refine ⟨tBlk Bt s :: (B, .cells #[.slice (some ⟨B2, 0, none⟩) 1 cap1] 42) :: (B2, .cells ⟨(([.string (ba x)] : List Value) ++ r)⟩ 9) :: (D, .deferred (some [])) :: (l, loopO .ready none 85 t (sub (Eng.body Tryd.f85) [1, 0, 1, 0]) D) :: [(B1, .cells #[.string (ba x)] 9)], ?_, _, rfl, rfl, .inr ⟨B2, cap1, _, _, by simp, rfl, q1, q2, SRow.one⟩⟩
        exact permX _ _ _ _ _ _ []
    · refine YieldH.eff (L1 := [tBlk Bt s]) (K := fun v L' => ∃ B4 B3 cap2 r1, q.length + 1 ≤ cap2 ∧ ((cs).take (q.length * 1) ++ ([.string (ba x)] : List Value) ++ r1).length = cap2 * 1 ∧ v = .bool true ∧ L' = (B4, .cells ⟨((cs).take (q.length * 1) ++ ([.string (ba x)] : List Value) ++ r1)⟩ 9) :: (B3, .cells #[.string (ba x)] 9) :: (B, .cells #[.slice (some ⟨B4, 0, none⟩) (q.length + 1) cap2] 42) :: (D, .deferred (some [])) :: (l, loopO .ready none 85 t (sub (Eng.body Tryd.f85) [1, 0, 1, 0]) D) :: F1) (fun W' hm' => ?_) List.perm_append_comm ?_
      · exact appSeq_r1_vc Bt B q.length cap cs Q F1 (ba x) D l t hT fun B3 => ⟨⟨h1, h2⟩, by omega, fun B4 cap2 r1 q1 q2 => ⟨B4, B3, cap2, r1, q1, q2, rfl, rfl⟩⟩
      · rintro v L' ⟨B4, B3, cap2, r1, q1, q2, rfl, rfl⟩
        refine ⟨tBlk Bt s :: (B, .cells #[.slice (some ⟨B4, 0, none⟩) (q.length + 1) cap2] 42) :: (B4, .cells ⟨((cs).take (q.length * 1) ++ ([.string (ba x)] : List Value) ++ r1)⟩ 9) :: (D, .deferred (some [])) :: (l, loopO .ready none 85 t (sub (Eng.body Tryd.f85) [1, 0, 1, 0]) D) :: (B3, .cells #[.string (ba x)] 9) :: F1, ?_, _, rfl, rfl, .inr ⟨B4, cap2, _, (B3, .cells #[.string (ba x)] 9) :: F1, by simp, by simp, by simpa using q1, q2, SRow.app h3 h1 h2⟩⟩
        exact permX _ _ _ _ _ _ F1
  · refine ⟨F, rfl, ?_⟩
    have hlen : (senB s).length = (senOf (bts s)).length := by simp [senB]
    rcases hI with ⟨h, rfl⟩ | ⟨Q, cap, cs, F1, hne, rfl, h1, h2, h3⟩
    · refine .inl ⟨[], rfl, dkFin ⟨none, 0, ?_, ?_, ?_⟩⟩
      · rw [hlen, h]; rfl
      · rw [hlen, h]; exact Nat.le_refl _
      · rw [senB, h]; exact StrsL.nil
    · refine .inr ⟨_, cap, cs, Q, F1, rfl, dkFin ⟨_, cap, by rw [hlen], by rw [hlen]; exact h1, h3.sl (List.mem_cons_of_mem _ List.mem_cons_self)⟩⟩
end Go.Eng
namespace Go.Eng
open Go Go.RowKit Go.Proofs Wire
set_option linter.unusedVariables false
theorem Mem.old {L : SHeap} {w0 W : World} {B : Nat} {X : Obj} (hm : Mem L [] w0 W) (hX : w0.heap[B]? = some X) : W.heap[B]? = some X := by
  rw [hm.kept.block B (Array.getElem?_eq_some_iff.1 hX).1 (by simp)]; exact hX
theorem collect_e {Bt : Nat} {s : ByteArray} (hs : s.size ≤ 1099511627776) : EffW Tryd.prog 58 ⟨[.func (.func 86) #[] #[.pointer (some ⟨Bt, 0, none⟩)]]⟩ [] (fun W => W.heap[Bt]? = some (.cells #[.string s] 9)) (SenOut s) := by
  intro W hm hX
  refine collect_vc Bt hm (CallH.effWT [] (appSeq_e hs) (fun W' hm' => hm'.old hX) fun v F ⟨p, c, hv, hc, hF⟩ => ⟨p, _, c, F, hv, rfl, dkFin ⟨p, c, rfl, hc, hF⟩⟩)
theorem sentences_e {s : ByteArray} (hs : s.size ≤ 1099511627776) : EffC Tryd.prog 32 ⟨[.string s]⟩ [] (SenOut s) := by
  intro W hm
  refine sentences_vc s hm (CallH.effF (K := fun v L' => ∃ Bt, v = .func (.func 86) #[] #[.pointer (some ⟨Bt, 0, none⟩)] ∧ L' = [tBlk Bt s]) (fun W' hm' => sents_vc s hm' fun B => dkFin ⟨B, rfl, rfl⟩) ?_)
  rintro v L' ⟨Bt, rfl, rfl⟩
  refine ⟨Bt, rfl, rfl, CallH.effWT [tBlk Bt s] (collect_e hs) (fun W' hm' => hm'.here _ List.mem_cons_self) fun v F ⟨p, c, hv, hc, hF⟩ => ⟨p, _, c, F, hv, rfl, dkFin ⟨p, c, rfl, hc, hF.mono (lkF_mono fun x hx => List.mem_cons_of_mem _ hx)⟩⟩⟩
theorem SenOut.row {s : ByteArray} {Q cap t : Nat} {fz : Nat × Nat} {cs : List Value} {q : List (List UInt8)} {F : SHeap} (h : q = senOf (bts s)) (h1 : q.length ≤ cap) (h3 : SRow cs q) (hm : (Q, Obj.cells ⟨cs⟩ t fz) ∈ F) : SenOut s (.slice (some ⟨Q, 0, none⟩) q.length cap) F := by
  have hlen : (senB s).length = q.length := by simp [senB, h]
  refine ⟨_, cap, by rw [hlen], by rw [hlen]; exact h1, ?_⟩
  rw [senB, ← h]; exact h3.sl hm
theorem SenOut.none {s : ByteArray} {F : SHeap} (h : [] = senOf (bts s)) : SenOut s (.slice none 0 0) F := by
  refine ⟨Option.none, 0, ?_, ?_, ?_⟩
  · rw [senB, ← h]; rfl
  · rw [senB, ← h]; exact Nat.le_refl _
  · rw [senB, ← h]; exact StrsL.nil
def joinS : List (List UInt8) → List UInt8
  | [] => []
  | x :: r => x ++ r.flatMap (32 :: ·)
def joinL (l : List ByteArray) : List UInt8 := joinS (l.map bts)
theorem StrsL.lk {lk : Lk} {p : Option Addr} {l : List ByteArray} (h : StrsL lk p l) : True := trivial
end Go.Eng
