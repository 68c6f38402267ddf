/- A part of the proof: the engine by which functions are walked, verification conditions that a program of the prover wrote, contracts and plain laws; no claim of its own. -/
import Derived.Test.YtobhboeiheeghaaDoorChecked
import Derived.Test.YtobhboeiheeghaaDoorLinC
namespace Go.Eng
open Go Go.RowKit Go.Proofs
set_option linter.unusedVariables false
set_option maxRecDepth 100000
noncomputable abbrev EngB9s29 := sub (Eng.body Tryd.f29)
noncomputable abbrev EngB9s54 := sub (Eng.body Tryd.f54)
noncomputable abbrev EngB9s55 := sub (Eng.body Tryd.f55)
noncomputable abbrev EngB9s77 := sub (Eng.body Tryd.f77)
noncomputable abbrev EngB9s80 := sub (Eng.body Tryd.f80)
noncomputable abbrev EngB9s82 := sub (Eng.body Tryd.f82)
theorem readI_vc (Rb : Nat) (tx : ByteArray) (ra : Int) (re : Int) {R : Ending → World → Prop} {S : List Nat} {w0 W : World} (hm : Mem [(Rb, .cells #[.string tx, .int .i64 ra, .int .i64 re] 70)] S w0 W)
  (H :
   ((¬ (re = (0 : Int))) →
    Fin R [(Rb, .cells #[.string tx, .int .i64 ra, .int .i64 re] 70)] S w0 (.int .i64 (0 : Int))) ∧
    ((re = (0 : Int)) →
    ∃ (r1 : Int) (r21 : Int) (r31 : Int), (QCall Tryd.prog 78 ⟨[.string tx, .int .i64 ra]⟩ [(Rb, .cells #[.string tx, .int .i64 ra, .int .i64 re] 70)] S w0 (.tuple #[.int .i64 r1, .int .i64 r21, .int .i64 r31])) ∧
    ((¬ (r31 = (0 : Int))) →
     Fin R [(Rb, .cells #[.string tx, .int .i64 ra, .int .i64 (10 : Int)] 70)] S w0 (.int .i64 (0 : Int))) ∧
     ((r31 = (0 : Int)) →
     Fin R [(Rb, .cells #[.string tx, .int .i64 r21, .int .i64 re] 70)] S w0 (.int .i64 r1)))) :
  Calls Tryd.prog 77 ⟨[.pointer (some ⟨Rb, 0, none⟩), .func (.func 78) #[] #[]]⟩ W R := by
 refine AtE.calls (nt := 40) Tryd.func77 (by kernel_rfl) hm ?_
 refine AtE.run 14 (fun W => by kernel_rfl) ?_
 refine AtE.load 0 2 (T := 35) (v := .int .i64 re) (by kernel_rfl) ?_
 refine AtE.run 2 (fun W => by kernel_rfl) ?_
 refine AtE.splitN 13 (p := re = (0 : Int)) (by kernel_rfl) (fun h1' => ?_) (fun h1' => ?_)
 ·replace H := H.1 h1'
  refine AtE.run 6 (fun W => by kernel_rfl) ?_
  exact AtE.ret Tryd.func77 (by kernel_rfl) H
 ·replace H := H.2 h1'
  refine AtE.run 3 (fun W => by kernel_rfl) ?_
  refine AtE.norm (k' := [.code (EngB9s77 [1,1,1,0]), .code (EngB9s77 [1,1,1,1])]) (e' := [(0, .pointer (some ⟨Rb, 0, none⟩)), (1, .func (.func 78) #[] #[]), (5, .int .i64 (0 : Int))]) (L' := [(Rb, .cells #[.string tx, .int .i64 ra, .int .i64 re] 70)]) ?_ (by kernel_rfl)
  refine AtE.draw 17 (by kernel_rfl) ?_
  refine AtQ.pure (by kernel_rfl) (fun W => by kernel_rfl) ?_
  refine AtQ.pure (by kernel_rfl) (fun W => by kernel_rfl) ?_
  refine AtQ.pure (by kernel_rfl) (fun W => by kernel_rfl) ?_
  refine AtQ.pure (by kernel_rfl) (fun W => by kernel_rfl) ?_
  refine AtQ.load 0 0 (T := 9) (v := .string tx) (by kernel_rfl) ?_
  refine AtQ.pure (by kernel_rfl) (fun W => by kernel_rfl) ?_
  refine AtQ.pure (by kernel_rfl) (fun W => by kernel_rfl) ?_
  refine AtQ.pure (by kernel_rfl) (fun W => by kernel_rfl) ?_
  refine AtQ.load 0 1 (T := 3) (v := .int .i64 ra) (by kernel_rfl) ?_
  obtain ⟨r1, r21, r31, hq, H⟩ := H
  refine AtQ.call 78 ⟨[.string tx, .int .i64 ra]⟩ (fun W => by kernel_rfl) (by kernel_rfl) hq ?_
  refine AtQ.pure (by kernel_rfl) (fun W => by kernel_rfl) ?_
  refine AtQ.pure (by kernel_rfl) (fun W => by kernel_rfl) ?_
  refine AtQ.pure (by kernel_rfl) (fun W => by kernel_rfl) ?_
  refine AtQ.pure (by kernel_rfl) (fun W => by kernel_rfl) ?_
  refine AtQ.pure (by kernel_rfl) (fun W => by kernel_rfl) ?_
  refine AtQ.pure (by kernel_rfl) (fun W => by kernel_rfl) ?_
  refine AtQ.pure (by kernel_rfl) (fun W => by kernel_rfl) ?_
  refine AtQ.done (by kernel_rfl) ?_
  refine AtE.run 7 (fun W => by kernel_rfl) ?_
  refine AtE.splitN 30 (p := r31 = (0 : Int)) (by kernel_rfl) (fun h2' => ?_) (fun h2' => ?_)
  ·replace H := H.1 h2'
   refine AtE.run 6 (fun W => by kernel_rfl) ?_
   refine AtE.store 0 2 (T := 35) (v := .int .i64 (10 : Int)) (by kernel_rfl) ?_
   refine AtE.run 6 (fun W => by kernel_rfl) ?_
   exact AtE.ret Tryd.func77 (by kernel_rfl) H
  ·replace H := H.2 h2'
   refine AtE.run 8 (fun W => by kernel_rfl) ?_
   refine AtE.store 0 1 (T := 3) (v := .int .i64 r21) (by kernel_rfl) ?_
   refine AtE.run 6 (fun W => by kernel_rfl) ?_
   exact AtE.ret Tryd.func77 (by kernel_rfl) H
theorem readS_vc (Rb : Nat) (tx : ByteArray) (ra : Int) (re : Int) {R : Ending → World → Prop} {S : List Nat} {w0 W : World} (hm : Mem [(Rb, .cells #[.string tx, .int .i64 ra, .int .i64 re] 70)] S w0 W)
  (H :
   ((¬ (re = (0 : Int))) →
    Fin R [(Rb, .cells #[.string tx, .int .i64 ra, .int .i64 re] 70)] S w0 (.string (⟨#[]⟩))) ∧
    ((re = (0 : Int)) →
    ∃ (r1 : ByteArray) (r21 : Int) (r31 : Int), (QCall Tryd.prog 81 ⟨[.string tx, .int .i64 ra]⟩ [(Rb, .cells #[.string tx, .int .i64 ra, .int .i64 re] 70)] S w0 (.tuple #[.string r1, .int .i64 r21, .int .i64 r31])) ∧
    ((¬ (r31 = (0 : Int))) →
     Fin R [(Rb, .cells #[.string tx, .int .i64 ra, .int .i64 (10 : Int)] 70)] S w0 (.string (⟨#[]⟩))) ∧
     ((r31 = (0 : Int)) →
     Fin R [(Rb, .cells #[.string tx, .int .i64 r21, .int .i64 re] 70)] S w0 (.string r1)))) :
  Calls Tryd.prog 80 ⟨[.pointer (some ⟨Rb, 0, none⟩), .func (.func 81) #[] #[]]⟩ W R := by
 refine AtE.calls (nt := 40) Tryd.func80 (by kernel_rfl) hm ?_
 refine AtE.run 14 (fun W => by kernel_rfl) ?_
 refine AtE.load 0 2 (T := 35) (v := .int .i64 re) (by kernel_rfl) ?_
 refine AtE.run 2 (fun W => by kernel_rfl) ?_
 refine AtE.splitN 13 (p := re = (0 : Int)) (by kernel_rfl) (fun h1' => ?_) (fun h1' => ?_)
 ·replace H := H.1 h1'
  refine AtE.run 6 (fun W => by kernel_rfl) ?_
  exact AtE.ret Tryd.func80 (by kernel_rfl) H
 ·replace H := H.2 h1'
  refine AtE.run 3 (fun W => by kernel_rfl) ?_
  refine AtE.norm (k' := [.code (EngB9s80 [1,1,1,0]), .code (EngB9s80 [1,1,1,1])]) (e' := [(0, .pointer (some ⟨Rb, 0, none⟩)), (1, .func (.func 81) #[] #[]), (5, .string (⟨#[]⟩))]) (L' := [(Rb, .cells #[.string tx, .int .i64 ra, .int .i64 re] 70)]) ?_ (by kernel_rfl)
  refine AtE.draw 17 (by kernel_rfl) ?_
  refine AtQ.pure (by kernel_rfl) (fun W => by kernel_rfl) ?_
  refine AtQ.pure (by kernel_rfl) (fun W => by kernel_rfl) ?_
  refine AtQ.pure (by kernel_rfl) (fun W => by kernel_rfl) ?_
  refine AtQ.pure (by kernel_rfl) (fun W => by kernel_rfl) ?_
  refine AtQ.load 0 0 (T := 9) (v := .string tx) (by kernel_rfl) ?_
  refine AtQ.pure (by kernel_rfl) (fun W => by kernel_rfl) ?_
  refine AtQ.pure (by kernel_rfl) (fun W => by kernel_rfl) ?_
  refine AtQ.pure (by kernel_rfl) (fun W => by kernel_rfl) ?_
  refine AtQ.load 0 1 (T := 3) (v := .int .i64 ra) (by kernel_rfl) ?_
  obtain ⟨r1, r21, r31, hq, H⟩ := H
  refine AtQ.call 81 ⟨[.string tx, .int .i64 ra]⟩ (fun W => by kernel_rfl) (by kernel_rfl) hq ?_
  refine AtQ.pure (by kernel_rfl) (fun W => by kernel_rfl) ?_
  refine AtQ.pure (by kernel_rfl) (fun W => by kernel_rfl) ?_
  refine AtQ.pure (by kernel_rfl) (fun W => by kernel_rfl) ?_
  refine AtQ.pure (by kernel_rfl) (fun W => by kernel_rfl) ?_
  refine AtQ.pure (by kernel_rfl) (fun W => by kernel_rfl) ?_
  refine AtQ.pure (by kernel_rfl) (fun W => by kernel_rfl) ?_
  refine AtQ.pure (by kernel_rfl) (fun W => by kernel_rfl) ?_
  refine AtQ.done (by kernel_rfl) ?_
  refine AtE.run 7 (fun W => by kernel_rfl) ?_
  refine AtE.splitN 30 (p := r31 = (0 : Int)) (by kernel_rfl) (fun h2' => ?_) (fun h2' => ?_)
  ·replace H := H.1 h2'
   refine AtE.run 6 (fun W => by kernel_rfl) ?_
   refine AtE.store 0 2 (T := 35) (v := .int .i64 (10 : Int)) (by kernel_rfl) ?_
   refine AtE.run 6 (fun W => by kernel_rfl) ?_
   exact AtE.ret Tryd.func80 (by kernel_rfl) H
  ·replace H := H.2 h2'
   refine AtE.run 8 (fun W => by kernel_rfl) ?_
   refine AtE.store 0 1 (T := 3) (v := .int .i64 r21) (by kernel_rfl) ?_
   refine AtE.run 6 (fun W => by kernel_rfl) ?_
   exact AtE.ret Tryd.func80 (by kernel_rfl) H
theorem readInt_vc (Rb : Nat) (tx : ByteArray) (ra : Int) (re : Int) {R : Ending → World → Prop} {S : List Nat} {w0 W : World} (hm : Mem [(Rb, .cells #[.string tx, .int .i64 ra, .int .i64 re] 70)] S w0 W)
  (H :
   CallH Tryd.prog 77 ⟨[.pointer (some ⟨Rb, 0, none⟩), .func (.func 78) #[] #[]]⟩ [(Rb, .cells #[.string tx, .int .i64 ra, .int .i64 re] 70)] S w0 (fun v L' => ∃ (r1 : Int) (ra1 : Int) (re1 : Int), v = (.int .i64 r1) ∧ L' = [(Rb, .cells #[.string tx, .int .i64 ra1, .int .i64 re1] 70)] ∧
    Fin R [(Rb, .cells #[.string tx, .int .i64 ra1, .int .i64 re1] 70)] S w0 (.int .i64 r1))) :
  Calls Tryd.prog 79 ⟨[.pointer (some ⟨Rb, 0, none⟩)]⟩ W R := by
 refine AtE.calls (nt := 5) Tryd.func79 (by kernel_rfl) hm ?_
 refine AtE.run 7 (fun W => by kernel_rfl) ?_
 refine AtE.call 77 ⟨[.pointer (some ⟨Rb, 0, none⟩), .func (.func 78) #[] #[]]⟩ (fun W => by kernel_rfl) (by kernel_rfl) H ?_
 clear H
 rintro _ _ ⟨r1, ra1, re1, rfl, rfl, H⟩
 refine AtE.run 2 (fun W => by kernel_rfl) ?_
 exact AtE.ret Tryd.func79 (by kernel_rfl) H
def readLI_c0 (B : Nat) (count : Int) (i : Int) (m0 : ByteArray) (m1 : Int) (m2 : Int) (S : List Nat) (w0 : World) (R : Ending → World → Prop) : Prop :=
 AtE Tryd.prog 82 48 [.code (EngB9s82 [1,1,1,1,0,1,0,0]), .inLoop (EngB9s82 [1,1,1,1,0,1,0,0]), .inBlock 0, .code (EngB9s82 [1,1,1,1,1])] [(0, .pointer (some ⟨B, 0, none⟩)), (2, .func (.func 79) #[] #[]), (7, .int .i64 count), (8, .slice none 0 0), (9, .int .i64 i)] [(B, .cells #[.string m0, .int .i64 m1, .int .i64 m2] 70)] S w0 (nrm R)
def readLI_c1 (B3 : Nat) (B4 : Nat) (count1 : Int) (l_l : Nat) (l_c : Nat) (i2 : Int) (m01 : ByteArray) (m11 : Int) (m21 : Int) (cs : List Value) (S : List Nat) (w0 : World) (R : Ending → World → Prop) : Prop :=
 AtE Tryd.prog 82 48 [.code (EngB9s82 [1,1,1,1,0,1,0,0]), .inLoop (EngB9s82 [1,1,1,1,0,1,0,0]), .inBlock 0, .code (EngB9s82 [1,1,1,1,1])] [(0, .pointer (some ⟨B3, 0, none⟩)), (2, .func (.func 79) #[] #[]), (7, .int .i64 count1), (8, .slice (some ⟨B4, 0, none⟩) l_l l_c), (9, .int .i64 i2)] [(B3, .cells #[.string m01, .int .i64 m11, .int .i64 m21] 70), (B4, .cells ⟨cs⟩ 3)] S w0 (nrm R)
theorem readLI_c0_vc (B : Nat) (count : Int) (i : Int) (m0 : ByteArray) (m1 : Int) (m2 : Int) {R : Ending → World → Prop} {S : List Nat} {w0 : World}
  (H :
   ((i < count) →
    ((m2 = (0 : Int)) →
     CallH Tryd.prog 79 ⟨[.pointer (some ⟨B, 0, none⟩)]⟩ [(B, .cells #[.string m0, .int .i64 m1, .int .i64 m2] 70)] S w0 (fun v L' => ∃ (r21 : Int) (ra2 : Int) (re2 : Int), v = (.int .i64 r21) ∧ L' = [(B, .cells #[.string m0, .int .i64 ra2, .int .i64 re2] 70)] ∧
      ∀ B1 : Nat,
      ∀ (B2 cap : Nat) (r3 : List Value), 1 ≤ cap → (([.int .i64 r21] : List Value) ++ r3).length = cap * 1 →
      ∀ i1 : Int, i1 = (IntKind.i64.wrap (i + (1 : Int))) →
      readLI_c1 B B2 count 1 cap i1 m0 ra2 re2 (([.int .i64 r21] : List Value) ++ r3) S w0 R)) ∧
     ((¬ (m2 = (0 : Int))) →
     Fin R [(B, .cells #[.string m0, .int .i64 m1, .int .i64 m2] 70)] S w0 (.slice none 0 0))) ∧
    ((¬ (i < count)) →
    Fin R [(B, .cells #[.string m0, .int .i64 m1, .int .i64 m2] 70)] S w0 (.slice none 0 0))) :
  readLI_c0 B count i m0 m1 m2 S w0 R := by
 unfold readLI_c0
 refine AtE.run 7 (fun W => by kernel_rfl) ?_
 refine AtE.splitP 32 (p := i < count) (by kernel_rfl) (fun h4' => ?_) (fun h4' => ?_)
 ·replace H := H.1 h4'
  refine AtE.run 3 (fun W => by kernel_rfl) ?_
  refine AtE.load 0 2 (T := 35) (v := .int .i64 m2) (by kernel_rfl) ?_
  refine AtE.run 3 (fun W => by kernel_rfl) ?_
  refine AtE.splitP 38 (p := m2 = (0 : Int)) (by kernel_rfl) (fun h5' => ?_) (fun h5' => ?_)
  ·replace H := H.1 h5'
   refine AtE.run 8 (fun W => by kernel_rfl) ?_
   refine AtE.call 79 ⟨[.pointer (some ⟨B, 0, none⟩)]⟩ (fun W => by kernel_rfl) (by kernel_rfl) H ?_
   clear H
   rintro _ _ ⟨r21, ra2, re2, rfl, rfl, H⟩
   refine AtE.new (fun B => .slice (some ⟨B, 0, none⟩) 1 1) (.cells #[.int .i64 r21] 3) (fun W => by kernel_rfl) (by kernel_rfl) (fun B1 => ?_)
   replace H := H B1
   refine AtE.appendN (T := 22) (E := 3) (z := .int .i64 (0 : Int)) (sz := 1) (bytes := 8) (a := ⟨B1, 0, none⟩) (m := 1) (c := 1) ([.int .i64 r21] : List Value) (by kernel_rfl) (show Src _ _ _ _ ([.int .i64 r21] : List Value) from Src.own (j := 1) (o := 0) (n := 1) (c := ([.int .i64 r21] : List Value)) (by kernel_rfl)) (by simp) (by omega) (by omega) (fun B2 cap r3 h1 h2 => ?_)
   replace H := H B2 cap r3 h1 h2
   refine AtE.run 7 (fun W => by kernel_rfl) ?_
   refine AtE.letI 9 (kd := .i64) (n := (IntKind.i64.wrap (i + (1 : Int)))) (by kernel_rfl) (fun i1 hi1 => ?_)
   replace H := H i1 hi1
   refine AtE.norm (k' := [.inRegion (regOps [.code (EngB9s82 [1,1,1,1,0,1,0,0,1,1])]) [], .inLoop (EngB9s82 [1,1,1,1,0,1,0,0]), .inBlock 0, .code (EngB9s82 [1,1,1,1,1])]) (e' := [(0, .pointer (some ⟨B, 0, none⟩)), (2, .func (.func 79) #[] #[]), (7, .int .i64 count), (8, .slice (some ⟨B2, 0, none⟩) 1 cap), (9, .int .i64 i1)]) (L' := [(B, .cells #[.string m0, .int .i64 ra2, .int .i64 re2] 70), (B1, .cells #[.int .i64 r21] 3), (B2, .cells ⟨(([.int .i64 r21] : List Value) ++ r3)⟩ 3)]) ?_ (by kernel_rfl)
   refine AtE.run 2 (fun W => by kernel_rfl) ?_
   exact AtE.cut [0,2] H (by kernel_rfl)
  ·replace H := H.2 h5'
   refine AtE.run 7 (fun W => by kernel_rfl) ?_
   exact AtE.ret Tryd.func82 (by kernel_rfl) H
 ·replace H := H.2 h4'
  refine AtE.run 14 (fun W => by kernel_rfl) ?_
  exact AtE.ret Tryd.func82 (by kernel_rfl) H
theorem readLI_c1_vc (B3 : Nat) (B4 : Nat) (count1 : Int) (l_l : Nat) (l_c : Nat) (i2 : Int) (m01 : ByteArray) (m11 : Int) (m21 : Int) (cs : List Value) {R : Ending → World → Prop} {S : List Nat} {w0 : World}
  (H :
   ((i2 < count1) →
    ((m21 = (0 : Int)) →
     CallH Tryd.prog 79 ⟨[.pointer (some ⟨B3, 0, none⟩)]⟩ [(B3, .cells #[.string m01, .int .i64 m11, .int .i64 m21] 70), (B4, .cells ⟨cs⟩ 3)] S w0 (fun v L' => ∃ (r41 : Int) (ra3 : Int) (re3 : Int), v = (.int .i64 r41) ∧ L' = [(B3, .cells #[.string m01, .int .i64 ra3, .int .i64 re3] 70), (B4, .cells ⟨cs⟩ 3)] ∧
      ∀ B5 : Nat,
      (l_l ≤ l_c ∧ (cs).length = l_c * 1) ∧ ((l_l + 1) ≤ 9223372036854775807 ∧ (l_l + 1) * 8 ≤ 140737488355328) ∧
      ∀ (B6 cap1 : Nat) (r5 : List Value), (l_l + 1) ≤ cap1 → ((cs).take (l_l * 1) ++ ([.int .i64 r41] : List Value) ++ r5).length = cap1 * 1 →
      ∀ i3 : Int, i3 = (IntKind.i64.wrap (i2 + (1 : Int))) →
      readLI_c1 B3 B6 count1 (l_l + 1) cap1 i3 m01 ra3 re3 ((cs).take (l_l * 1) ++ ([.int .i64 r41] : List Value) ++ r5) S w0 R)) ∧
     ((¬ (m21 = (0 : Int))) →
     Fin R [(B3, .cells #[.string m01, .int .i64 m11, .int .i64 m21] 70), (B4, .cells ⟨cs⟩ 3)] S w0 (.slice (some ⟨B4, 0, none⟩) l_l l_c))) ∧
    ((¬ (i2 < count1)) →
    Fin R [(B3, .cells #[.string m01, .int .i64 m11, .int .i64 m21] 70), (B4, .cells ⟨cs⟩ 3)] S w0 (.slice (some ⟨B4, 0, none⟩) l_l l_c))) :
  readLI_c1 B3 B4 count1 l_l l_c i2 m01 m11 m21 cs S w0 R := by
 unfold readLI_c1
 refine AtE.run 7 (fun W => by kernel_rfl) ?_
 refine AtE.splitP 32 (p := i2 < count1) (by kernel_rfl) (fun h6' => ?_) (fun h6' => ?_)
 ·replace H := H.1 h6'
  refine AtE.run 3 (fun W => by kernel_rfl) ?_
  refine AtE.load 0 2 (T := 35) (v := .int .i64 m21) (by kernel_rfl) ?_
  refine AtE.run 3 (fun W => by kernel_rfl) ?_
  refine AtE.splitP 38 (p := m21 = (0 : Int)) (by kernel_rfl) (fun h7' => ?_) (fun h7' => ?_)
  ·replace H := H.1 h7'
   refine AtE.run 8 (fun W => by kernel_rfl) ?_
   refine AtE.call 79 ⟨[.pointer (some ⟨B3, 0, none⟩)]⟩ (fun W => by kernel_rfl) (by kernel_rfl) H ?_
   clear H
   rintro _ _ ⟨r41, ra3, re3, rfl, rfl, H⟩
   refine AtE.new (fun B => .slice (some ⟨B, 0, none⟩) 1 1) (.cells #[.int .i64 r41] 3) (fun W => by kernel_rfl) (by kernel_rfl) (fun B5 => ?_)
   replace H := H B5
   refine AtE.appendO 1 (T := 22) (E := 3) (z := .int .i64 (0 : Int)) (sz := 1) (bytes := 8) (n := l_l) (cap := l_c) (a := ⟨B5, 0, none⟩) (m := 1) (c := 1) (cs := cs) ([.int .i64 r41] : List Value) (by kernel_rfl) (show Src _ _ _ _ ([.int .i64 r41] : List Value) from Src.own (j := 2) (o := 0) (n := 1) (c := ([.int .i64 r41] : List Value)) (by kernel_rfl)) (by simp) (by simp [Value.oneCell']) H.1 H.2.1 (fun B6 cap1 r5 h1 h2 => ?_)
   replace H := H.2.2 B6 cap1 r5 h1 h2
   refine AtE.run 7 (fun W => by kernel_rfl) ?_
   refine AtE.letI 9 (kd := .i64) (n := (IntKind.i64.wrap (i2 + (1 : Int)))) (by kernel_rfl) (fun i3 hi3 => ?_)
   replace H := H i3 hi3
   refine AtE.norm (k' := [.inRegion (regOps [.code (EngB9s82 [1,1,1,1,0,1,0,0,1,1])]) [], .inLoop (EngB9s82 [1,1,1,1,0,1,0,0]), .inBlock 0, .code (EngB9s82 [1,1,1,1,1])]) (e' := [(0, .pointer (some ⟨B3, 0, none⟩)), (2, .func (.func 79) #[] #[]), (7, .int .i64 count1), (8, .slice (some ⟨B6, 0, none⟩) (l_l + 1) cap1), (9, .int .i64 i3)]) (L' := [(B3, .cells #[.string m01, .int .i64 ra3, .int .i64 re3] 70), (B5, .cells #[.int .i64 r41] 3), (B6, .cells ⟨((cs).take (l_l * 1) ++ ([.int .i64 r41] : List Value) ++ r5)⟩ 3)]) ?_ (by kernel_rfl)
   refine AtE.run 2 (fun W => by kernel_rfl) ?_
   exact AtE.cut [0,2] H (by kernel_rfl)
  ·replace H := H.2 h7'
   refine AtE.run 7 (fun W => by kernel_rfl) ?_
   exact AtE.ret Tryd.func82 (by kernel_rfl) H
 ·replace H := H.2 h6'
  refine AtE.run 14 (fun W => by kernel_rfl) ?_
  exact AtE.ret Tryd.func82 (by kernel_rfl) H
theorem readLI_vc (Rb : Nat) (most : Int) (tx : ByteArray) (ra : Int) (re : Int) {R : Ending → World → Prop} {S : List Nat} {w0 W : World} (hm : Mem [(Rb, .cells #[.string tx, .int .i64 ra, .int .i64 re] 70)] S w0 W)
  (H :
   CallH Tryd.prog 77 ⟨[.pointer (some ⟨Rb, 0, none⟩), .func (.func 78) #[] #[]]⟩ [(Rb, .cells #[.string tx, .int .i64 ra, .int .i64 re] 70)] S w0 (fun v L' => ∃ (r1 : Int) (ra1 : Int) (re1 : Int), v = (.int .i64 r1) ∧ L' = [(Rb, .cells #[.string tx, .int .i64 ra1, .int .i64 re1] 70)] ∧
    ((re1 = (0 : Int)) →
     ((r1 < (0 : Int)) →
      readLI_c0 Rb r1 (0 : Int) tx ra1 (30 : Int) S w0 R) ∧
      ((¬ (r1 < (0 : Int))) →
      ((most < r1) →
       readLI_c0 Rb r1 (0 : Int) tx ra1 (30 : Int) S w0 R) ∧
       ((¬ (most < r1)) →
       readLI_c0 Rb r1 (0 : Int) tx ra1 re1 S w0 R))) ∧
     ((¬ (re1 = (0 : Int))) →
     readLI_c0 Rb r1 (0 : Int) tx ra1 re1 S w0 R))) :
  Calls Tryd.prog 82 ⟨[.pointer (some ⟨Rb, 0, none⟩), .int .i64 most, .func (.func 79) #[] #[]]⟩ W R := by
 refine AtE.calls (nt := 48) Tryd.func82 (by kernel_rfl) hm ?_
 refine AtE.run 7 (fun W => by kernel_rfl) ?_
 refine AtE.call 77 ⟨[.pointer (some ⟨Rb, 0, none⟩), .func (.func 78) #[] #[]]⟩ (fun W => by kernel_rfl) (by kernel_rfl) H ?_
 clear H
 rintro _ _ ⟨r1, ra1, re1, rfl, rfl, H⟩
 refine AtE.run 8 (fun W => by kernel_rfl) ?_
 refine AtE.load 0 2 (T := 35) (v := .int .i64 re1) (by kernel_rfl) ?_
 refine AtE.run 2 (fun W => by kernel_rfl) ?_
 refine AtE.splitP 17 (p := re1 = (0 : Int)) (by kernel_rfl) (fun h1' => ?_) (fun h1' => ?_)
 ·replace H := H.1 h1'
  refine AtE.run 3 (fun W => by kernel_rfl) ?_
  refine AtE.splitP 20 (p := r1 < (0 : Int)) (by kernel_rfl) (fun h2' => ?_) (fun h2' => ?_)
  ·replace H := H.1 h2'
   refine AtE.run 11 (fun W => by kernel_rfl) ?_
   refine AtE.store 0 2 (T := 35) (v := .int .i64 (30 : Int)) (by kernel_rfl) ?_
   refine AtE.run 12 (fun W => by kernel_rfl) ?_
   exact AtE.cut [0] H (by kernel_rfl)
  ·replace H := H.2 h2'
   refine AtE.run 6 (fun W => by kernel_rfl) ?_
   refine AtE.splitP 25 (p := most < r1) (by kernel_rfl) (fun h3' => ?_) (fun h3' => ?_)
   ·replace H := H.1 h3'
    refine AtE.run 5 (fun W => by kernel_rfl) ?_
    refine AtE.store 0 2 (T := 35) (v := .int .i64 (30 : Int)) (by kernel_rfl) ?_
    refine AtE.run 12 (fun W => by kernel_rfl) ?_
    exact AtE.cut [0] H (by kernel_rfl)
   ·replace H := H.2 h3'
    refine AtE.run 13 (fun W => by kernel_rfl) ?_
    exact AtE.cut [0] H (by kernel_rfl)
 ·replace H := H.2 h1'
  refine AtE.run 22 (fun W => by kernel_rfl) ?_
  exact AtE.cut [0] H (by kernel_rfl)
theorem readB_vc (Rb : Nat) (tx : ByteArray) (ra : Int) (re : Int) {R : Ending → World → Prop} {S : List Nat} {w0 W : World} (hm : Mem [(Rb, .cells #[.string tx, .int .i64 ra, .int .i64 re] 70)] S w0 W)
  (H :
   ∀ B : Nat,
   ∀ B1 : Nat,
   CallH Tryd.prog 79 ⟨[.pointer (some ⟨Rb, 0, none⟩)]⟩ [(Rb, .cells #[.string tx, .int .i64 ra, .int .i64 re] 70), (B, .cells #[.int .i64 (0 : Int), .int .i64 (0 : Int), .string (⟨#[]⟩), .int .i64 (0 : Int), .int .i64 (0 : Int), .int .i64 (0 : Int), .slice none 0 0, .int .i64 (0 : Int), .int .i64 (0 : Int)] 26), (B1, .cells #[.int .i64 (0 : Int), .int .i64 (0 : Int), .string (⟨#[]⟩), .int .i64 (0 : Int), .int .i64 (0 : Int), .int .i64 (0 : Int), .slice none 0 0, .int .i64 (0 : Int), .int .i64 (0 : Int)] 26)] S w0 (fun v L' => ∃ (r1 : Int) (ra1 : Int) (re1 : Int), v = (.int .i64 r1) ∧ L' = [(Rb, .cells #[.string tx, .int .i64 ra1, .int .i64 re1] 70), (B, .cells #[.int .i64 (0 : Int), .int .i64 (0 : Int), .string (⟨#[]⟩), .int .i64 (0 : Int), .int .i64 (0 : Int), .int .i64 (0 : Int), .slice none 0 0, .int .i64 (0 : Int), .int .i64 (0 : Int)] 26), (B1, .cells #[.int .i64 (0 : Int), .int .i64 (0 : Int), .string (⟨#[]⟩), .int .i64 (0 : Int), .int .i64 (0 : Int), .int .i64 (0 : Int), .slice none 0 0, .int .i64 (0 : Int), .int .i64 (0 : Int)] 26)] ∧
    CallH Tryd.prog 79 ⟨[.pointer (some ⟨Rb, 0, none⟩)]⟩ [(Rb, .cells #[.string tx, .int .i64 ra1, .int .i64 re1] 70), (B, .cells #[.int .i64 (0 : Int), .int .i64 (0 : Int), .string (⟨#[]⟩), .int .i64 (0 : Int), .int .i64 (0 : Int), .int .i64 (0 : Int), .slice none 0 0, .int .i64 (0 : Int), .int .i64 (0 : Int)] 26), (B1, .cells #[.int .i64 r1, .int .i64 (0 : Int), .string (⟨#[]⟩), .int .i64 (0 : Int), .int .i64 (0 : Int), .int .i64 (0 : Int), .slice none 0 0, .int .i64 (0 : Int), .int .i64 (0 : Int)] 26)] S w0 (fun v L' => ∃ (r21 : Int) (ra2 : Int) (re2 : Int), v = (.int .i64 r21) ∧ L' = [(Rb, .cells #[.string tx, .int .i64 ra2, .int .i64 re2] 70), (B, .cells #[.int .i64 (0 : Int), .int .i64 (0 : Int), .string (⟨#[]⟩), .int .i64 (0 : Int), .int .i64 (0 : Int), .int .i64 (0 : Int), .slice none 0 0, .int .i64 (0 : Int), .int .i64 (0 : Int)] 26), (B1, .cells #[.int .i64 r1, .int .i64 (0 : Int), .string (⟨#[]⟩), .int .i64 (0 : Int), .int .i64 (0 : Int), .int .i64 (0 : Int), .slice none 0 0, .int .i64 (0 : Int), .int .i64 (0 : Int)] 26)] ∧
     CallH Tryd.prog 80 ⟨[.pointer (some ⟨Rb, 0, none⟩), .func (.func 81) #[] #[]]⟩ [(Rb, .cells #[.string tx, .int .i64 ra2, .int .i64 re2] 70), (B, .cells #[.int .i64 (0 : Int), .int .i64 (0 : Int), .string (⟨#[]⟩), .int .i64 (0 : Int), .int .i64 (0 : Int), .int .i64 (0 : Int), .slice none 0 0, .int .i64 (0 : Int), .int .i64 (0 : Int)] 26), (B1, .cells #[.int .i64 r1, .int .i64 r21, .string (⟨#[]⟩), .int .i64 (0 : Int), .int .i64 (0 : Int), .int .i64 (0 : Int), .slice none 0 0, .int .i64 (0 : Int), .int .i64 (0 : Int)] 26)] S w0 (fun v L' => ∃ (r31 : ByteArray) (ra3 : Int) (re3 : Int), v = (.string r31) ∧ L' = [(Rb, .cells #[.string tx, .int .i64 ra3, .int .i64 re3] 70), (B, .cells #[.int .i64 (0 : Int), .int .i64 (0 : Int), .string (⟨#[]⟩), .int .i64 (0 : Int), .int .i64 (0 : Int), .int .i64 (0 : Int), .slice none 0 0, .int .i64 (0 : Int), .int .i64 (0 : Int)] 26), (B1, .cells #[.int .i64 r1, .int .i64 r21, .string (⟨#[]⟩), .int .i64 (0 : Int), .int .i64 (0 : Int), .int .i64 (0 : Int), .slice none 0 0, .int .i64 (0 : Int), .int .i64 (0 : Int)] 26)] ∧
      CallH Tryd.prog 79 ⟨[.pointer (some ⟨Rb, 0, none⟩)]⟩ [(Rb, .cells #[.string tx, .int .i64 ra3, .int .i64 re3] 70), (B, .cells #[.int .i64 (0 : Int), .int .i64 (0 : Int), .string (⟨#[]⟩), .int .i64 (0 : Int), .int .i64 (0 : Int), .int .i64 (0 : Int), .slice none 0 0, .int .i64 (0 : Int), .int .i64 (0 : Int)] 26), (B1, .cells #[.int .i64 r1, .int .i64 r21, .string r31, .int .i64 (0 : Int), .int .i64 (0 : Int), .int .i64 (0 : Int), .slice none 0 0, .int .i64 (0 : Int), .int .i64 (0 : Int)] 26)] S w0 (fun v L' => ∃ (r41 : Int) (ra4 : Int) (re4 : Int), v = (.int .i64 r41) ∧ L' = [(Rb, .cells #[.string tx, .int .i64 ra4, .int .i64 re4] 70), (B, .cells #[.int .i64 (0 : Int), .int .i64 (0 : Int), .string (⟨#[]⟩), .int .i64 (0 : Int), .int .i64 (0 : Int), .int .i64 (0 : Int), .slice none 0 0, .int .i64 (0 : Int), .int .i64 (0 : Int)] 26), (B1, .cells #[.int .i64 r1, .int .i64 r21, .string r31, .int .i64 (0 : Int), .int .i64 (0 : Int), .int .i64 (0 : Int), .slice none 0 0, .int .i64 (0 : Int), .int .i64 (0 : Int)] 26)] ∧
       CallH Tryd.prog 79 ⟨[.pointer (some ⟨Rb, 0, none⟩)]⟩ [(Rb, .cells #[.string tx, .int .i64 ra4, .int .i64 re4] 70), (B, .cells #[.int .i64 (0 : Int), .int .i64 (0 : Int), .string (⟨#[]⟩), .int .i64 (0 : Int), .int .i64 (0 : Int), .int .i64 (0 : Int), .slice none 0 0, .int .i64 (0 : Int), .int .i64 (0 : Int)] 26), (B1, .cells #[.int .i64 r1, .int .i64 r21, .string r31, .int .i64 r41, .int .i64 (0 : Int), .int .i64 (0 : Int), .slice none 0 0, .int .i64 (0 : Int), .int .i64 (0 : Int)] 26)] S w0 (fun v L' => ∃ (r51 : Int) (ra5 : Int) (re5 : Int), v = (.int .i64 r51) ∧ L' = [(Rb, .cells #[.string tx, .int .i64 ra5, .int .i64 re5] 70), (B, .cells #[.int .i64 (0 : Int), .int .i64 (0 : Int), .string (⟨#[]⟩), .int .i64 (0 : Int), .int .i64 (0 : Int), .int .i64 (0 : Int), .slice none 0 0, .int .i64 (0 : Int), .int .i64 (0 : Int)] 26), (B1, .cells #[.int .i64 r1, .int .i64 r21, .string r31, .int .i64 r41, .int .i64 (0 : Int), .int .i64 (0 : Int), .slice none 0 0, .int .i64 (0 : Int), .int .i64 (0 : Int)] 26)] ∧
        CallH Tryd.prog 79 ⟨[.pointer (some ⟨Rb, 0, none⟩)]⟩ [(Rb, .cells #[.string tx, .int .i64 ra5, .int .i64 re5] 70), (B, .cells #[.int .i64 (0 : Int), .int .i64 (0 : Int), .string (⟨#[]⟩), .int .i64 (0 : Int), .int .i64 (0 : Int), .int .i64 (0 : Int), .slice none 0 0, .int .i64 (0 : Int), .int .i64 (0 : Int)] 26), (B1, .cells #[.int .i64 r1, .int .i64 r21, .string r31, .int .i64 r41, .int .i64 r51, .int .i64 (0 : Int), .slice none 0 0, .int .i64 (0 : Int), .int .i64 (0 : Int)] 26)] S w0 (fun v L' => ∃ (r61 : Int) (ra6 : Int) (re6 : Int), v = (.int .i64 r61) ∧ L' = [(Rb, .cells #[.string tx, .int .i64 ra6, .int .i64 re6] 70), (B, .cells #[.int .i64 (0 : Int), .int .i64 (0 : Int), .string (⟨#[]⟩), .int .i64 (0 : Int), .int .i64 (0 : Int), .int .i64 (0 : Int), .slice none 0 0, .int .i64 (0 : Int), .int .i64 (0 : Int)] 26), (B1, .cells #[.int .i64 r1, .int .i64 r21, .string r31, .int .i64 r41, .int .i64 r51, .int .i64 (0 : Int), .slice none 0 0, .int .i64 (0 : Int), .int .i64 (0 : Int)] 26)] ∧
         CallH Tryd.prog 82 ⟨[.pointer (some ⟨Rb, 0, none⟩), .int .i64 (64 : Int), .func (.func 79) #[] #[]]⟩ [(Rb, .cells #[.string tx, .int .i64 ra6, .int .i64 re6] 70), (B, .cells #[.int .i64 (0 : Int), .int .i64 (0 : Int), .string (⟨#[]⟩), .int .i64 (0 : Int), .int .i64 (0 : Int), .int .i64 (0 : Int), .slice none 0 0, .int .i64 (0 : Int), .int .i64 (0 : Int)] 26), (B1, .cells #[.int .i64 r1, .int .i64 r21, .string r31, .int .i64 r41, .int .i64 r51, .int .i64 r61, .slice none 0 0, .int .i64 (0 : Int), .int .i64 (0 : Int)] 26)] S w0 (fun v L' => ∃ (r71_p : Option Addr) (r71_l : Nat) (r71_c : Nat) (ra7 : Int) (re7 : Int) (F : SHeap), v = (.slice r71_p r71_l r71_c) ∧ L' = ((Rb, .cells #[.string tx, .int .i64 ra7, .int .i64 re7] 70) :: (B, .cells #[.int .i64 (0 : Int), .int .i64 (0 : Int), .string (⟨#[]⟩), .int .i64 (0 : Int), .int .i64 (0 : Int), .int .i64 (0 : Int), .slice none 0 0, .int .i64 (0 : Int), .int .i64 (0 : Int)] 26) :: (B1, .cells #[.int .i64 r1, .int .i64 r21, .string r31, .int .i64 r41, .int .i64 r51, .int .i64 r61, .slice none 0 0, .int .i64 (0 : Int), .int .i64 (0 : Int)] 26) :: F) ∧
          CallH Tryd.prog 79 ⟨[.pointer (some ⟨Rb, 0, none⟩)]⟩ ((Rb, .cells #[.string tx, .int .i64 ra7, .int .i64 re7] 70) :: (B, .cells #[.int .i64 (0 : Int), .int .i64 (0 : Int), .string (⟨#[]⟩), .int .i64 (0 : Int), .int .i64 (0 : Int), .int .i64 (0 : Int), .slice none 0 0, .int .i64 (0 : Int), .int .i64 (0 : Int)] 26) :: (B1, .cells #[.int .i64 r1, .int .i64 r21, .string r31, .int .i64 r41, .int .i64 r51, .int .i64 r61, .slice r71_p r71_l r71_c, .int .i64 (0 : Int), .int .i64 (0 : Int)] 26) :: F) S w0 (fun v L' => ∃ (r81 : Int) (ra8 : Int) (re8 : Int), v = (.int .i64 r81) ∧ L' = ((Rb, .cells #[.string tx, .int .i64 ra8, .int .i64 re8] 70) :: (B, .cells #[.int .i64 (0 : Int), .int .i64 (0 : Int), .string (⟨#[]⟩), .int .i64 (0 : Int), .int .i64 (0 : Int), .int .i64 (0 : Int), .slice none 0 0, .int .i64 (0 : Int), .int .i64 (0 : Int)] 26) :: (B1, .cells #[.int .i64 r1, .int .i64 r21, .string r31, .int .i64 r41, .int .i64 r51, .int .i64 r61, .slice r71_p r71_l r71_c, .int .i64 (0 : Int), .int .i64 (0 : Int)] 26) :: F) ∧
           CallH Tryd.prog 79 ⟨[.pointer (some ⟨Rb, 0, none⟩)]⟩ ((Rb, .cells #[.string tx, .int .i64 ra8, .int .i64 re8] 70) :: (B, .cells #[.int .i64 (0 : Int), .int .i64 (0 : Int), .string (⟨#[]⟩), .int .i64 (0 : Int), .int .i64 (0 : Int), .int .i64 (0 : Int), .slice none 0 0, .int .i64 (0 : Int), .int .i64 (0 : Int)] 26) :: (B1, .cells #[.int .i64 r1, .int .i64 r21, .string r31, .int .i64 r41, .int .i64 r51, .int .i64 r61, .slice r71_p r71_l r71_c, .int .i64 r81, .int .i64 (0 : Int)] 26) :: F) S w0 (fun v L' => ∃ (r91 : Int) (ra9 : Int) (re9 : Int), v = (.int .i64 r91) ∧ L' = ((Rb, .cells #[.string tx, .int .i64 ra9, .int .i64 re9] 70) :: (B, .cells #[.int .i64 (0 : Int), .int .i64 (0 : Int), .string (⟨#[]⟩), .int .i64 (0 : Int), .int .i64 (0 : Int), .int .i64 (0 : Int), .slice none 0 0, .int .i64 (0 : Int), .int .i64 (0 : Int)] 26) :: (B1, .cells #[.int .i64 r1, .int .i64 r21, .string r31, .int .i64 r41, .int .i64 r51, .int .i64 r61, .slice r71_p r71_l r71_c, .int .i64 r81, .int .i64 (0 : Int)] 26) :: F) ∧
            Fin R ((Rb, .cells #[.string tx, .int .i64 ra9, .int .i64 re9] 70) :: (B, .cells #[.int .i64 r1, .int .i64 r21, .string r31, .int .i64 r41, .int .i64 r51, .int .i64 r61, .slice r71_p r71_l r71_c, .int .i64 r81, .int .i64 r91] 26) :: (B1, .cells #[.int .i64 r1, .int .i64 r21, .string r31, .int .i64 r41, .int .i64 r51, .int .i64 r61, .slice r71_p r71_l r71_c, .int .i64 r81, .int .i64 r91] 26) :: F) S w0 (.agg #[.int .i64 r1, .int .i64 r21, .string r31, .int .i64 r41, .int .i64 r51, .int .i64 r61, .slice r71_p r71_l r71_c, .int .i64 r81, .int .i64 r91]))))))))))) :
  Calls Tryd.prog 55 ⟨[.pointer (some ⟨Rb, 0, none⟩)]⟩ W R := by
 refine AtE.calls (nt := 36) Tryd.func55 (by kernel_rfl) hm ?_
 refine AtE.run 2 (fun W => by kernel_rfl) ?_
 refine AtE.new (fun B => .pointer (some ⟨B, 0, none⟩)) (.cells #[.int .i64 (0 : Int), .int .i64 (0 : Int), .string (⟨#[]⟩), .int .i64 (0 : Int), .int .i64 (0 : Int), .int .i64 (0 : Int), .slice none 0 0, .int .i64 (0 : Int), .int .i64 (0 : Int)] 26) (fun W => by kernel_rfl) (by kernel_rfl) (fun B => ?_)
 replace H := H B
 refine AtE.run 3 (fun W => by kernel_rfl) ?_
 refine AtE.new (fun B => .pointer (some ⟨B, 0, none⟩)) (.cells #[.int .i64 (0 : Int), .int .i64 (0 : Int), .string (⟨#[]⟩), .int .i64 (0 : Int), .int .i64 (0 : Int), .int .i64 (0 : Int), .slice none 0 0, .int .i64 (0 : Int), .int .i64 (0 : Int)] 26) (fun W => by kernel_rfl) (by kernel_rfl) (fun B1 => ?_)
 replace H := H B1
 refine AtE.run 4 (fun W => by kernel_rfl) ?_
 refine AtE.call 79 ⟨[.pointer (some ⟨Rb, 0, none⟩)]⟩ (fun W => by kernel_rfl) (by kernel_rfl) H ?_
 clear H
 rintro _ _ ⟨r1, ra1, re1, rfl, rfl, H⟩
 refine AtE.run 1 (fun W => by kernel_rfl) ?_
 refine AtE.store 2 0 (T := 3) (v := .int .i64 r1) (by kernel_rfl) ?_
 refine AtE.run 4 (fun W => by kernel_rfl) ?_
 refine AtE.call 79 ⟨[.pointer (some ⟨Rb, 0, none⟩)]⟩ (fun W => by kernel_rfl) (by kernel_rfl) H ?_
 clear H
 rintro _ _ ⟨r21, ra2, re2, rfl, rfl, H⟩
 refine AtE.run 1 (fun W => by kernel_rfl) ?_
 refine AtE.store 2 1 (T := 3) (v := .int .i64 r21) (by kernel_rfl) ?_
 refine AtE.run 4 (fun W => by kernel_rfl) ?_
 refine AtE.call 80 ⟨[.pointer (some ⟨Rb, 0, none⟩), .func (.func 81) #[] #[]]⟩ (fun W => by kernel_rfl) (by kernel_rfl) H ?_
 clear H
 rintro _ _ ⟨r31, ra3, re3, rfl, rfl, H⟩
 refine AtE.norm (k' := [.inRegion (regOps [.code (EngB9s55 [1,1,1,1,0])]) [2,3], .code (EngB9s55 [1,1,1,1,1])]) (e' := [(0, .pointer (some ⟨Rb, 0, none⟩)), (2, .pointer (some ⟨B, 0, none⟩)), (3, .pointer (some ⟨B1, 0, none⟩)), (11, .string r31)]) (L' := [(Rb, .cells #[.string tx, .int .i64 ra3, .int .i64 re3] 70), (B, .cells #[.int .i64 (0 : Int), .int .i64 (0 : Int), .string (⟨#[]⟩), .int .i64 (0 : Int), .int .i64 (0 : Int), .int .i64 (0 : Int), .slice none 0 0, .int .i64 (0 : Int), .int .i64 (0 : Int)] 26), (B1, .cells #[.int .i64 r1, .int .i64 r21, .string (⟨#[]⟩), .int .i64 (0 : Int), .int .i64 (0 : Int), .int .i64 (0 : Int), .slice none 0 0, .int .i64 (0 : Int), .int .i64 (0 : Int)] 26)]) ?_ (by kernel_rfl)
 refine AtE.run 1 (fun W => by kernel_rfl) ?_
 refine AtE.store 2 2 (T := 9) (v := .string r31) (by kernel_rfl) ?_
 refine AtE.run 4 (fun W => by kernel_rfl) ?_
 refine AtE.call 79 ⟨[.pointer (some ⟨Rb, 0, none⟩)]⟩ (fun W => by kernel_rfl) (by kernel_rfl) H ?_
 clear H
 rintro _ _ ⟨r41, ra4, re4, rfl, rfl, H⟩
 refine AtE.run 1 (fun W => by kernel_rfl) ?_
 refine AtE.store 2 3 (T := 3) (v := .int .i64 r41) (by kernel_rfl) ?_
 refine AtE.run 4 (fun W => by kernel_rfl) ?_
 refine AtE.call 79 ⟨[.pointer (some ⟨Rb, 0, none⟩)]⟩ (fun W => by kernel_rfl) (by kernel_rfl) H ?_
 clear H
 rintro _ _ ⟨r51, ra5, re5, rfl, rfl, H⟩
 refine AtE.run 1 (fun W => by kernel_rfl) ?_
 refine AtE.store 2 4 (T := 3) (v := .int .i64 r51) (by kernel_rfl) ?_
 refine AtE.run 4 (fun W => by kernel_rfl) ?_
 refine AtE.call 79 ⟨[.pointer (some ⟨Rb, 0, none⟩)]⟩ (fun W => by kernel_rfl) (by kernel_rfl) H ?_
 clear H
 rintro _ _ ⟨r61, ra6, re6, rfl, rfl, H⟩
 refine AtE.run 2 (fun W => by kernel_rfl) ?_
 refine AtE.store 2 5 (T := 3) (v := .int .i64 r61) (by kernel_rfl) ?_
 refine AtE.norm (k' := [.inRegion (regOps [.code (EngB9s55 [1,1,1,1,1,1,1,0])]) [], .code (EngB9s55 [1,1,1,1,1,1,1,1])]) (e' := [(0, .pointer (some ⟨Rb, 0, none⟩)), (2, .pointer (some ⟨B, 0, none⟩)), (3, .pointer (some ⟨B1, 0, none⟩))]) (L' := [(Rb, .cells #[.string tx, .int .i64 ra6, .int .i64 re6] 70), (B, .cells #[.int .i64 (0 : Int), .int .i64 (0 : Int), .string (⟨#[]⟩), .int .i64 (0 : Int), .int .i64 (0 : Int), .int .i64 (0 : Int), .slice none 0 0, .int .i64 (0 : Int), .int .i64 (0 : Int)] 26), (B1, .cells #[.int .i64 r1, .int .i64 r21, .string r31, .int .i64 r41, .int .i64 r51, .int .i64 r61, .slice none 0 0, .int .i64 (0 : Int), .int .i64 (0 : Int)] 26)]) ?_ (by kernel_rfl)
 refine AtE.run 4 (fun W => by kernel_rfl) ?_
 refine AtE.call 82 ⟨[.pointer (some ⟨Rb, 0, none⟩), .int .i64 (64 : Int), .func (.func 79) #[] #[]]⟩ (fun W => by kernel_rfl) (by kernel_rfl) H ?_
 clear H
 rintro _ _ ⟨r71_p, r71_l, r71_c, ra7, re7, F, rfl, rfl, H⟩
 refine AtE.run 2 (fun W => by kernel_rfl) ?_
 refine AtE.store 2 6 (T := 22) (v := .slice r71_p r71_l r71_c) (by kernel_rfl) ?_
 refine AtE.run 4 (fun W => by kernel_rfl) ?_
 refine AtE.call 79 ⟨[.pointer (some ⟨Rb, 0, none⟩)]⟩ (fun W => by kernel_rfl) (by kernel_rfl) H ?_
 clear H
 rintro _ _ ⟨r81, ra8, re8, rfl, rfl, H⟩
 refine AtE.run 2 (fun W => by kernel_rfl) ?_
 refine AtE.store 2 7 (T := 3) (v := .int .i64 r81) (by kernel_rfl) ?_
 refine AtE.run 4 (fun W => by kernel_rfl) ?_
 refine AtE.call 79 ⟨[.pointer (some ⟨Rb, 0, none⟩)]⟩ (fun W => by kernel_rfl) (by kernel_rfl) H ?_
 clear H
 rintro _ _ ⟨r91, ra9, re9, rfl, rfl, H⟩
 refine AtE.run 2 (fun W => by kernel_rfl) ?_
 refine AtE.store 2 8 (T := 3) (v := .int .i64 r91) (by kernel_rfl) ?_
 refine AtE.run 3 (fun W => by kernel_rfl) ?_
 refine AtE.load 2 0 (T := 26) (v := .agg #[.int .i64 r1, .int .i64 r21, .string r31, .int .i64 r41, .int .i64 r51, .int .i64 r61, .slice r71_p r71_l r71_c, .int .i64 r81, .int .i64 r91]) (by kernel_rfl) ?_
 refine AtE.norm (k' := [.inRegion (regOps [.code (EngB9s55 [1,1,1,1,1,1,1,1,1,1,1,0])]) [1], .code (EngB9s55 [1,1,1,1,1,1,1,1,1,1,1,1])]) (e' := [(2, .pointer (some ⟨B, 0, none⟩)), (35, .agg #[.int .i64 r1, .int .i64 r21, .string r31, .int .i64 r41, .int .i64 r51, .int .i64 r61, .slice r71_p r71_l r71_c, .int .i64 r81, .int .i64 r91])]) (L' := ((Rb, .cells #[.string tx, .int .i64 ra9, .int .i64 re9] 70) :: (B, .cells #[.int .i64 (0 : Int), .int .i64 (0 : Int), .string (⟨#[]⟩), .int .i64 (0 : Int), .int .i64 (0 : Int), .int .i64 (0 : Int), .slice none 0 0, .int .i64 (0 : Int), .int .i64 (0 : Int)] 26) :: (B1, .cells #[.int .i64 r1, .int .i64 r21, .string r31, .int .i64 r41, .int .i64 r51, .int .i64 r61, .slice r71_p r71_l r71_c, .int .i64 r81, .int .i64 r91] 26) :: F)) ?_ (by kernel_rfl)
 refine AtE.store 1 0 (T := 26) (v := .agg #[.int .i64 r1, .int .i64 r21, .string r31, .int .i64 r41, .int .i64 r51, .int .i64 r61, .slice r71_p r71_l r71_c, .int .i64 r81, .int .i64 r91]) (by kernel_rfl) ?_
 refine AtE.run 1 (fun W => by kernel_rfl) ?_
 exact AtE.retC 1 0 (a := 2) (T := 26) (v := .agg #[.int .i64 r1, .int .i64 r21, .string r31, .int .i64 r41, .int .i64 r51, .int .i64 r61, .slice r71_p r71_l r71_c, .int .i64 r81, .int .i64 r91]) Tryd.func55 (by kernel_rfl) (by kernel_rfl) H
def readLB_c0 (B : Nat) (count : Int) (i : Int) (m0 : ByteArray) (m1 : Int) (m2 : Int) (F1 : SHeap) (S : List Nat) (w0 : World) (R : Ending → World → Prop) : Prop :=
 AtE Tryd.prog 54 48 [.code (EngB9s54 [1,1,1,1,0,1,0,0]), .inLoop (EngB9s54 [1,1,1,1,0,1,0,0]), .inBlock 0, .code (EngB9s54 [1,1,1,1,1])] [(0, .pointer (some ⟨B, 0, none⟩)), (2, .func (.func 55) #[] #[]), (7, .int .i64 count), (8, .slice none 0 0), (9, .int .i64 i)] ((B, .cells #[.string m0, .int .i64 m1, .int .i64 m2] 70) :: F1) S w0 (nrm R)
def readLB_c1 (B3 : Nat) (B4 : Nat) (count1 : Int) (l_l : Nat) (l_c : Nat) (i2 : Int) (m01 : ByteArray) (m11 : Int) (m21 : Int) (cs : List Value) (F3 : SHeap) (S : List Nat) (w0 : World) (R : Ending → World → Prop) : Prop :=
 AtE Tryd.prog 54 48 [.code (EngB9s54 [1,1,1,1,0,1,0,0]), .inLoop (EngB9s54 [1,1,1,1,0,1,0,0]), .inBlock 0, .code (EngB9s54 [1,1,1,1,1])] [(0, .pointer (some ⟨B3, 0, none⟩)), (2, .func (.func 55) #[] #[]), (7, .int .i64 count1), (8, .slice (some ⟨B4, 0, none⟩) l_l l_c), (9, .int .i64 i2)] ((B3, .cells #[.string m01, .int .i64 m11, .int .i64 m21] 70) :: (B4, .cells ⟨cs⟩ 26) :: F3) S w0 (nrm R)
theorem readLB_c0_vc (B : Nat) (count : Int) (i : Int) (m0 : ByteArray) (m1 : Int) (m2 : Int) (F1 : SHeap) {R : Ending → World → Prop} {S : List Nat} {w0 : World}
  (H :
   ((i < count) →
    ((m2 = (0 : Int)) →
     CallH Tryd.prog 55 ⟨[.pointer (some ⟨B, 0, none⟩)]⟩ ((B, .cells #[.string m0, .int .i64 m1, .int .i64 m2] 70) :: F1) S w0 (fun v L' => ∃ (r2_0 : Int) (r2_1 : Int) (r2_2 : ByteArray) (r2_3 : Int) (r2_4 : Int) (r2_5 : Int) (r2_6_p : Option Addr) (r2_6_l : Nat) (r2_6_c : Nat) (r2_7 : Int) (r2_8 : Int) (ra2 : Int) (re2 : Int) (F2 : SHeap), v = (.agg #[.int .i64 r2_0, .int .i64 r2_1, .string r2_2, .int .i64 r2_3, .int .i64 r2_4, .int .i64 r2_5, .slice r2_6_p r2_6_l r2_6_c, .int .i64 r2_7, .int .i64 r2_8]) ∧ L' = ((B, .cells #[.string m0, .int .i64 ra2, .int .i64 re2] 70) :: F2) ∧
      ∀ B1 : Nat,
      ∀ (B2 cap : Nat) (r3 : List Value), 1 ≤ cap → (([.int .i64 r2_0, .int .i64 r2_1, .string r2_2, .int .i64 r2_3, .int .i64 r2_4, .int .i64 r2_5, .slice r2_6_p r2_6_l r2_6_c, .int .i64 r2_7, .int .i64 r2_8] : List Value) ++ r3).length = cap * 9 →
      ∀ i1 : Int, i1 = (IntKind.i64.wrap (i + (1 : Int))) →
      readLB_c1 B B2 count 1 cap i1 m0 ra2 re2 (([.int .i64 r2_0, .int .i64 r2_1, .string r2_2, .int .i64 r2_3, .int .i64 r2_4, .int .i64 r2_5, .slice r2_6_p r2_6_l r2_6_c, .int .i64 r2_7, .int .i64 r2_8] : List Value) ++ r3) F2 S w0 R)) ∧
     ((¬ (m2 = (0 : Int))) →
     Fin R ((B, .cells #[.string m0, .int .i64 m1, .int .i64 m2] 70) :: F1) S w0 (.slice none 0 0))) ∧
    ((¬ (i < count)) →
    Fin R ((B, .cells #[.string m0, .int .i64 m1, .int .i64 m2] 70) :: F1) S w0 (.slice none 0 0))) :
  readLB_c0 B count i m0 m1 m2 F1 S w0 R := by
 unfold readLB_c0
 refine AtE.run 7 (fun W => by kernel_rfl) ?_
 refine AtE.splitP 32 (p := i < count) (by kernel_rfl) (fun h4' => ?_) (fun h4' => ?_)
 ·replace H := H.1 h4'
  refine AtE.run 3 (fun W => by kernel_rfl) ?_
  refine AtE.load 0 2 (T := 35) (v := .int .i64 m2) (by kernel_rfl) ?_
  refine AtE.run 3 (fun W => by kernel_rfl) ?_
  refine AtE.splitP 38 (p := m2 = (0 : Int)) (by kernel_rfl) (fun h5' => ?_) (fun h5' => ?_)
  ·replace H := H.1 h5'
   refine AtE.run 8 (fun W => by kernel_rfl) ?_
   refine AtE.call 55 ⟨[.pointer (some ⟨B, 0, none⟩)]⟩ (fun W => by kernel_rfl) (by kernel_rfl) H ?_
   clear H
   rintro _ _ ⟨r2_0, r2_1, r2_2, r2_3, r2_4, r2_5, r2_6_p, r2_6_l, r2_6_c, r2_7, r2_8, ra2, re2, F2, rfl, rfl, H⟩
   refine AtE.new (fun B => .slice (some ⟨B, 0, none⟩) 1 1) (.cells #[.int .i64 r2_0, .int .i64 r2_1, .string r2_2, .int .i64 r2_3, .int .i64 r2_4, .int .i64 r2_5, .slice r2_6_p r2_6_l r2_6_c, .int .i64 r2_7, .int .i64 r2_8] 26) (fun W => by kernel_rfl) (by kernel_rfl) (fun B1 => ?_)
   replace H := H B1
   refine AtE.front ?_
   refine AtE.appendN (T := 27) (E := 26) (z := .agg #[.int .i64 (0 : Int), .int .i64 (0 : Int), .string (⟨#[]⟩), .int .i64 (0 : Int), .int .i64 (0 : Int), .int .i64 (0 : Int), .slice none 0 0, .int .i64 (0 : Int), .int .i64 (0 : Int)]) (sz := 9) (bytes := 96) (a := ⟨B1, 0, none⟩) (m := 1) (c := 1) ([.int .i64 r2_0, .int .i64 r2_1, .string r2_2, .int .i64 r2_3, .int .i64 r2_4, .int .i64 r2_5, .slice r2_6_p r2_6_l r2_6_c, .int .i64 r2_7, .int .i64 r2_8] : List Value) (by kernel_rfl) (show Src _ _ _ _ ([.int .i64 r2_0, .int .i64 r2_1, .string r2_2, .int .i64 r2_3, .int .i64 r2_4, .int .i64 r2_5, .slice r2_6_p r2_6_l r2_6_c, .int .i64 r2_7, .int .i64 r2_8] : List Value) from Src.own (j := 0) (o := 0) (n := 9) (c := ([.int .i64 r2_0, .int .i64 r2_1, .string r2_2, .int .i64 r2_3, .int .i64 r2_4, .int .i64 r2_5, .slice r2_6_p r2_6_l r2_6_c, .int .i64 r2_7, .int .i64 r2_8] : List Value)) (by kernel_rfl)) (by simp) (by omega) (by omega) (fun B2 cap r3 h1 h2 => ?_)
   replace H := H B2 cap r3 h1 h2
   refine AtE.front ?_
   refine AtE.run 7 (fun W => by kernel_rfl) ?_
   refine AtE.letI 9 (kd := .i64) (n := (IntKind.i64.wrap (i + (1 : Int)))) (by kernel_rfl) (fun i1 hi1 => ?_)
   replace H := H i1 hi1
   refine AtE.norm (k' := [.inRegion (regOps [.code (EngB9s54 [1,1,1,1,0,1,0,0,1,1])]) [], .inLoop (EngB9s54 [1,1,1,1,0,1,0,0]), .inBlock 0, .code (EngB9s54 [1,1,1,1,1])]) (e' := [(0, .pointer (some ⟨B, 0, none⟩)), (2, .func (.func 55) #[] #[]), (7, .int .i64 count), (8, .slice (some ⟨B2, 0, none⟩) 1 cap), (9, .int .i64 i1)]) (L' := ((B2, .cells ⟨(([.int .i64 r2_0, .int .i64 r2_1, .string r2_2, .int .i64 r2_3, .int .i64 r2_4, .int .i64 r2_5, .slice r2_6_p r2_6_l r2_6_c, .int .i64 r2_7, .int .i64 r2_8] : List Value) ++ r3)⟩ 26) :: (B1, .cells #[.int .i64 r2_0, .int .i64 r2_1, .string r2_2, .int .i64 r2_3, .int .i64 r2_4, .int .i64 r2_5, .slice r2_6_p r2_6_l r2_6_c, .int .i64 r2_7, .int .i64 r2_8] 26) :: (B, .cells #[.string m0, .int .i64 ra2, .int .i64 re2] 70) :: F2)) ?_ (by kernel_rfl)
   refine AtE.run 2 (fun W => by kernel_rfl) ?_
   exact AtE.cutT [2,0] 3 H (by kernel_rfl)
  ·replace H := H.2 h5'
   refine AtE.run 7 (fun W => by kernel_rfl) ?_
   exact AtE.ret Tryd.func54 (by kernel_rfl) H
 ·replace H := H.2 h4'
  refine AtE.run 14 (fun W => by kernel_rfl) ?_
  exact AtE.ret Tryd.func54 (by kernel_rfl) H
theorem readLB_c1_vc (B3 : Nat) (B4 : Nat) (count1 : Int) (l_l : Nat) (l_c : Nat) (i2 : Int) (m01 : ByteArray) (m11 : Int) (m21 : Int) (cs : List Value) (F3 : SHeap) {R : Ending → World → Prop} {S : List Nat} {w0 : World}
  (H :
   ((i2 < count1) →
    ((m21 = (0 : Int)) →
     CallH Tryd.prog 55 ⟨[.pointer (some ⟨B3, 0, none⟩)]⟩ ((B3, .cells #[.string m01, .int .i64 m11, .int .i64 m21] 70) :: (B4, .cells ⟨cs⟩ 26) :: F3) S w0 (fun v L' => ∃ (r4_0 : Int) (r4_1 : Int) (r4_2 : ByteArray) (r4_3 : Int) (r4_4 : Int) (r4_5 : Int) (r4_6_p : Option Addr) (r4_6_l : Nat) (r4_6_c : Nat) (r4_7 : Int) (r4_8 : Int) (ra3 : Int) (re3 : Int) (F4 : SHeap), v = (.agg #[.int .i64 r4_0, .int .i64 r4_1, .string r4_2, .int .i64 r4_3, .int .i64 r4_4, .int .i64 r4_5, .slice r4_6_p r4_6_l r4_6_c, .int .i64 r4_7, .int .i64 r4_8]) ∧ L' = ((B3, .cells #[.string m01, .int .i64 ra3, .int .i64 re3] 70) :: (B4, .cells ⟨cs⟩ 26) :: F4) ∧
      ∀ B5 : Nat,
      (l_l ≤ l_c ∧ (cs).length = l_c * 9) ∧ ((l_l + 1) ≤ 9223372036854775807 ∧ (l_l + 1) * 96 ≤ 140737488355328) ∧
      ∀ (B6 cap1 : Nat) (r5 : List Value), (l_l + 1) ≤ cap1 → ((cs).take (l_l * 9) ++ ([.int .i64 r4_0, .int .i64 r4_1, .string r4_2, .int .i64 r4_3, .int .i64 r4_4, .int .i64 r4_5, .slice r4_6_p r4_6_l r4_6_c, .int .i64 r4_7, .int .i64 r4_8] : List Value) ++ r5).length = cap1 * 9 →
      ∀ i3 : Int, i3 = (IntKind.i64.wrap (i2 + (1 : Int))) →
      readLB_c1 B3 B6 count1 (l_l + 1) cap1 i3 m01 ra3 re3 ((cs).take (l_l * 9) ++ ([.int .i64 r4_0, .int .i64 r4_1, .string r4_2, .int .i64 r4_3, .int .i64 r4_4, .int .i64 r4_5, .slice r4_6_p r4_6_l r4_6_c, .int .i64 r4_7, .int .i64 r4_8] : List Value) ++ r5) F4 S w0 R)) ∧
     ((¬ (m21 = (0 : Int))) →
     Fin R ((B3, .cells #[.string m01, .int .i64 m11, .int .i64 m21] 70) :: (B4, .cells ⟨cs⟩ 26) :: F3) S w0 (.slice (some ⟨B4, 0, none⟩) l_l l_c))) ∧
    ((¬ (i2 < count1)) →
    Fin R ((B3, .cells #[.string m01, .int .i64 m11, .int .i64 m21] 70) :: (B4, .cells ⟨cs⟩ 26) :: F3) S w0 (.slice (some ⟨B4, 0, none⟩) l_l l_c))) :
  readLB_c1 B3 B4 count1 l_l l_c i2 m01 m11 m21 cs F3 S w0 R := by
 unfold readLB_c1
 refine AtE.run 7 (fun W => by kernel_rfl) ?_
 refine AtE.splitP 32 (p := i2 < count1) (by kernel_rfl) (fun h6' => ?_) (fun h6' => ?_)
 ·replace H := H.1 h6'
  refine AtE.run 3 (fun W => by kernel_rfl) ?_
  refine AtE.load 0 2 (T := 35) (v := .int .i64 m21) (by kernel_rfl) ?_
  refine AtE.run 3 (fun W => by kernel_rfl) ?_
  refine AtE.splitP 38 (p := m21 = (0 : Int)) (by kernel_rfl) (fun h7' => ?_) (fun h7' => ?_)
  ·replace H := H.1 h7'
   refine AtE.run 8 (fun W => by kernel_rfl) ?_
   refine AtE.call 55 ⟨[.pointer (some ⟨B3, 0, none⟩)]⟩ (fun W => by kernel_rfl) (by kernel_rfl) H ?_
   clear H
   rintro _ _ ⟨r4_0, r4_1, r4_2, r4_3, r4_4, r4_5, r4_6_p, r4_6_l, r4_6_c, r4_7, r4_8, ra3, re3, F4, rfl, rfl, H⟩
   refine AtE.new (fun B => .slice (some ⟨B, 0, none⟩) 1 1) (.cells #[.int .i64 r4_0, .int .i64 r4_1, .string r4_2, .int .i64 r4_3, .int .i64 r4_4, .int .i64 r4_5, .slice r4_6_p r4_6_l r4_6_c, .int .i64 r4_7, .int .i64 r4_8] 26) (fun W => by kernel_rfl) (by kernel_rfl) (fun B5 => ?_)
   replace H := H B5
   refine AtE.front ?_
   refine AtE.appendO 2 (T := 27) (E := 26) (z := .agg #[.int .i64 (0 : Int), .int .i64 (0 : Int), .string (⟨#[]⟩), .int .i64 (0 : Int), .int .i64 (0 : Int), .int .i64 (0 : Int), .slice none 0 0, .int .i64 (0 : Int), .int .i64 (0 : Int)]) (sz := 9) (bytes := 96) (n := l_l) (cap := l_c) (a := ⟨B5, 0, none⟩) (m := 1) (c := 1) (cs := cs) ([.int .i64 r4_0, .int .i64 r4_1, .string r4_2, .int .i64 r4_3, .int .i64 r4_4, .int .i64 r4_5, .slice r4_6_p r4_6_l r4_6_c, .int .i64 r4_7, .int .i64 r4_8] : List Value) (by kernel_rfl) (show Src _ _ _ _ ([.int .i64 r4_0, .int .i64 r4_1, .string r4_2, .int .i64 r4_3, .int .i64 r4_4, .int .i64 r4_5, .slice r4_6_p r4_6_l r4_6_c, .int .i64 r4_7, .int .i64 r4_8] : List Value) from Src.own (j := 0) (o := 0) (n := 9) (c := ([.int .i64 r4_0, .int .i64 r4_1, .string r4_2, .int .i64 r4_3, .int .i64 r4_4, .int .i64 r4_5, .slice r4_6_p r4_6_l r4_6_c, .int .i64 r4_7, .int .i64 r4_8] : List Value)) (by kernel_rfl)) (by simp) (by simp [Value.oneCell']) H.1 H.2.1 (fun B6 cap1 r5 h1 h2 => ?_)
   replace H := H.2.2 B6 cap1 r5 h1 h2
   refine AtE.front ?_
   refine AtE.run 7 (fun W => by kernel_rfl) ?_
   refine AtE.letI 9 (kd := .i64) (n := (IntKind.i64.wrap (i2 + (1 : Int)))) (by kernel_rfl) (fun i3 hi3 => ?_)
   replace H := H i3 hi3
   refine AtE.norm (k' := [.inRegion (regOps [.code (EngB9s54 [1,1,1,1,0,1,0,0,1,1])]) [], .inLoop (EngB9s54 [1,1,1,1,0,1,0,0]), .inBlock 0, .code (EngB9s54 [1,1,1,1,1])]) (e' := [(0, .pointer (some ⟨B3, 0, none⟩)), (2, .func (.func 55) #[] #[]), (7, .int .i64 count1), (8, .slice (some ⟨B6, 0, none⟩) (l_l + 1) cap1), (9, .int .i64 i3)]) (L' := ((B6, .cells ⟨((cs).take (l_l * 9) ++ ([.int .i64 r4_0, .int .i64 r4_1, .string r4_2, .int .i64 r4_3, .int .i64 r4_4, .int .i64 r4_5, .slice r4_6_p r4_6_l r4_6_c, .int .i64 r4_7, .int .i64 r4_8] : List Value) ++ r5)⟩ 26) :: (B5, .cells #[.int .i64 r4_0, .int .i64 r4_1, .string r4_2, .int .i64 r4_3, .int .i64 r4_4, .int .i64 r4_5, .slice r4_6_p r4_6_l r4_6_c, .int .i64 r4_7, .int .i64 r4_8] 26) :: (B3, .cells #[.string m01, .int .i64 ra3, .int .i64 re3] 70) :: F4)) ?_ (by kernel_rfl)
   refine AtE.run 2 (fun W => by kernel_rfl) ?_
   exact AtE.cutT [2,0] 3 H (by kernel_rfl)
  ·replace H := H.2 h7'
   refine AtE.run 7 (fun W => by kernel_rfl) ?_
   exact AtE.ret Tryd.func54 (by kernel_rfl) H
 ·replace H := H.2 h6'
  refine AtE.run 14 (fun W => by kernel_rfl) ?_
  exact AtE.ret Tryd.func54 (by kernel_rfl) H
theorem readLB_vc (Rb : Nat) (most : Int) (tx : ByteArray) (ra : Int) (re : Int) (F : SHeap) {R : Ending → World → Prop} {S : List Nat} {w0 W : World} (hm : Mem ((Rb, .cells #[.string tx, .int .i64 ra, .int .i64 re] 70) :: F) S w0 W)
  (H :
   CallH Tryd.prog 77 ⟨[.pointer (some ⟨Rb, 0, none⟩), .func (.func 78) #[] #[]]⟩ ((Rb, .cells #[.string tx, .int .i64 ra, .int .i64 re] 70) :: F) S w0 (fun v L' => ∃ (r1 : Int) (ra1 : Int) (re1 : Int), v = (.int .i64 r1) ∧ L' = ((Rb, .cells #[.string tx, .int .i64 ra1, .int .i64 re1] 70) :: F) ∧
    ((re1 = (0 : Int)) →
     ((r1 < (0 : Int)) →
      readLB_c0 Rb r1 (0 : Int) tx ra1 (30 : Int) F S w0 R) ∧
      ((¬ (r1 < (0 : Int))) →
      ((most < r1) →
       readLB_c0 Rb r1 (0 : Int) tx ra1 (30 : Int) F S w0 R) ∧
       ((¬ (most < r1)) →
       readLB_c0 Rb r1 (0 : Int) tx ra1 re1 F S w0 R))) ∧
     ((¬ (re1 = (0 : Int))) →
     readLB_c0 Rb r1 (0 : Int) tx ra1 re1 F S w0 R))) :
  Calls Tryd.prog 54 ⟨[.pointer (some ⟨Rb, 0, none⟩), .int .i64 most, .func (.func 55) #[] #[]]⟩ W R := by
 refine AtE.calls (nt := 48) Tryd.func54 (by kernel_rfl) hm ?_
 refine AtE.run 7 (fun W => by kernel_rfl) ?_
 refine AtE.call 77 ⟨[.pointer (some ⟨Rb, 0, none⟩), .func (.func 78) #[] #[]]⟩ (fun W => by kernel_rfl) (by kernel_rfl) H ?_
 clear H
 rintro _ _ ⟨r1, ra1, re1, rfl, rfl, H⟩
 refine AtE.run 8 (fun W => by kernel_rfl) ?_
 refine AtE.load 0 2 (T := 35) (v := .int .i64 re1) (by kernel_rfl) ?_
 refine AtE.run 2 (fun W => by kernel_rfl) ?_
 refine AtE.splitP 17 (p := re1 = (0 : Int)) (by kernel_rfl) (fun h1' => ?_) (fun h1' => ?_)
 ·replace H := H.1 h1'
  refine AtE.run 3 (fun W => by kernel_rfl) ?_
  refine AtE.splitP 20 (p := r1 < (0 : Int)) (by kernel_rfl) (fun h2' => ?_) (fun h2' => ?_)
  ·replace H := H.1 h2'
   refine AtE.run 11 (fun W => by kernel_rfl) ?_
   refine AtE.store 0 2 (T := 35) (v := .int .i64 (30 : Int)) (by kernel_rfl) ?_
   refine AtE.run 12 (fun W => by kernel_rfl) ?_
   exact AtE.cutT [0] 1 H (by kernel_rfl)
  ·replace H := H.2 h2'
   refine AtE.run 6 (fun W => by kernel_rfl) ?_
   refine AtE.splitP 25 (p := most < r1) (by kernel_rfl) (fun h3' => ?_) (fun h3' => ?_)
   ·replace H := H.1 h3'
    refine AtE.run 5 (fun W => by kernel_rfl) ?_
    refine AtE.store 0 2 (T := 35) (v := .int .i64 (30 : Int)) (by kernel_rfl) ?_
    refine AtE.run 12 (fun W => by kernel_rfl) ?_
    exact AtE.cutT [0] 1 H (by kernel_rfl)
   ·replace H := H.2 h3'
    refine AtE.run 13 (fun W => by kernel_rfl) ?_
    exact AtE.cutT [0] 1 H (by kernel_rfl)
 ·replace H := H.2 h1'
  refine AtE.run 22 (fun W => by kernel_rfl) ?_
  exact AtE.cutT [0] 1 H (by kernel_rfl)
theorem decode_vc (s : ByteArray) {R : Ending → World → Prop} {w0 W : World} (hm : Mem [] [] w0 W)
  (H :
   ∀ B : Nat,
   CallH Tryd.prog 54 ⟨[.pointer (some ⟨B, 0, none⟩), .int .i64 (24 : Int), .func (.func 55) #[] #[]]⟩ [(B, .cells #[.string s, .int .i64 (0 : Int), .int .i64 (0 : Int)] 70)] [] w0 (fun v L' => ∃ (r1_p : Option Addr) (r1_l : Nat) (r1_c : Nat) (ra : Int) (re : Int) (F : SHeap), v = (.slice r1_p r1_l r1_c) ∧ L' = ((B, .cells #[.string s, .int .i64 ra, .int .i64 re] 70) :: F) ∧
    ((¬ (re = (0 : Int))) →
     Fin R ((B, .cells #[.string s, .int .i64 ra, .int .i64 re] 70) :: F) [] w0 (.tuple #[.slice none 0 0, .int .i64 re])) ∧
     ((re = (0 : Int)) →
     ((ra < (s.size : Int)) →
      Fin R ((B, .cells #[.string s, .int .i64 ra, .int .i64 re] 70) :: F) [] w0 (.tuple #[.slice none 0 0, .int .i64 (10 : Int)])) ∧
      ((¬ (ra < (s.size : Int))) →
      CallH Tryd.prog 21 ⟨[.slice r1_p r1_l r1_c]⟩ ((B, .cells #[.string s, .int .i64 ra, .int .i64 re] 70) :: F) [] w0 (fun v L' => ∃ (r21 : Bool), v = (.bool r21) ∧ L' = ((B, .cells #[.string s, .int .i64 ra, .int .i64 re] 70) :: F) ∧
       ((r21 = true) →
        Fin R ((B, .cells #[.string s, .int .i64 ra, .int .i64 re] 70) :: F) [] w0 (.tuple #[.slice r1_p r1_l r1_c, .int .i64 (0 : Int)])) ∧
        ((r21 = false) →
        Fin R ((B, .cells #[.string s, .int .i64 ra, .int .i64 re] 70) :: F) [] w0 (.tuple #[.slice none 0 0, .int .i64 (30 : Int)]))))))) :
  Calls Tryd.prog 29 ⟨[.string s]⟩ W R := by
 refine AtE.calls (nt := 34) Tryd.func29 (by kernel_rfl) hm ?_
 refine AtE.run 9 (fun W => by kernel_rfl) ?_
 refine AtE.new (fun B => .pointer (some ⟨B, 0, none⟩)) (.cells #[.string s, .int .i64 (0 : Int), .int .i64 (0 : Int)] 70) (fun W => by kernel_rfl) (by kernel_rfl) (fun B => ?_)
 replace H := H B
 refine AtE.run 5 (fun W => by kernel_rfl) ?_
 refine AtE.call 54 ⟨[.pointer (some ⟨B, 0, none⟩), .int .i64 (24 : Int), .func (.func 55) #[] #[]]⟩ (fun W => by kernel_rfl) (by kernel_rfl) H ?_
 clear H
 rintro _ _ ⟨r1_p, r1_l, r1_c, ra, re, F, rfl, rfl, H⟩
 refine AtE.run 9 (fun W => by kernel_rfl) ?_
 refine AtE.load 0 2 (T := 35) (v := .int .i64 re) (by kernel_rfl) ?_
 refine AtE.run 3 (fun W => by kernel_rfl) ?_
 refine AtE.splitN 11 (p := re = (0 : Int)) (by kernel_rfl) (fun h1' => ?_) (fun h1' => ?_)
 ·replace H := H.1 h1'
  refine AtE.run 2 (fun W => by kernel_rfl) ?_
  refine AtE.norm (k' := [.code (EngB9s29 [1,1,1,0,0,1,0,0]), .code (EngB9s29 [1,1,1,0,0,1,0,1]), .inBlock 0, .code (EngB9s29 [1,1,1,1])]) (e' := [(4, .pointer (some ⟨B, 0, none⟩))]) (L' := ((B, .cells #[.string s, .int .i64 ra, .int .i64 re] 70) :: F)) ?_ (by kernel_rfl)
  refine AtE.draw 6 (by kernel_rfl) ?_
  refine AtQ.pure (by kernel_rfl) (fun W => by kernel_rfl) ?_
  refine AtQ.pure (by kernel_rfl) (fun W => by kernel_rfl) ?_
  refine AtQ.pure (by kernel_rfl) (fun W => by kernel_rfl) ?_
  refine AtQ.load 0 2 (T := 35) (v := .int .i64 re) (by kernel_rfl) ?_
  refine AtQ.pure (by kernel_rfl) (fun W => by kernel_rfl) ?_
  refine AtQ.pure (by kernel_rfl) (fun W => by kernel_rfl) ?_
  refine AtQ.done (by kernel_rfl) ?_
  refine AtE.run 1 (fun W => by kernel_rfl) ?_
  exact AtE.ret Tryd.func29 (by kernel_rfl) H
 ·replace H := H.2 h1'
  refine AtE.run 6 (fun W => by kernel_rfl) ?_
  refine AtE.load 0 1 (T := 3) (v := .int .i64 ra) (by kernel_rfl) ?_
  refine AtE.run 5 (fun W => by kernel_rfl) ?_
  refine AtE.splitP 21 (p := ra < (s.size : Int)) (by kernel_rfl) (fun h2' => ?_) (fun h2' => ?_)
  ·replace H := H.1 h2'
   refine AtE.run 6 (fun W => by kernel_rfl) ?_
   exact AtE.ret Tryd.func29 (by kernel_rfl) H
  ·replace H := H.2 h2'
   refine AtE.run 4 (fun W => by kernel_rfl) ?_
   refine AtE.call 21 ⟨[.slice r1_p r1_l r1_c]⟩ (fun W => by kernel_rfl) (by kernel_rfl) H ?_
   clear H
   rintro _ _ ⟨r21, rfl, rfl, H⟩
   refine AtE.norm (k' := [.inRegion (regOps [.code (EngB9s29 [1,1,1,0,0,1,1,1,1,0])]) [2,3], .code (EngB9s29 [1,1,1,0,0,1,1,1,1,1]), .inBlock 0, .code (EngB9s29 [1,1,1,1])]) (e' := [(5, .slice r1_p r1_l r1_c), (31, .bool r21)]) (L' := ((B, .cells #[.string s, .int .i64 ra, .int .i64 re] 70) :: F)) ?_ (by kernel_rfl)
   refine AtE.split 31 (b := r21) (by kernel_rfl) (fun h3' => ?_) (fun h3' => ?_)
   ·replace H := H.1 h3'
    refine AtE.run 12 (fun W => by kernel_rfl) ?_
    exact AtE.ret Tryd.func29 (by kernel_rfl) H
   ·replace H := H.2 h3'
    refine AtE.run 9 (fun W => by kernel_rfl) ?_
    exact AtE.ret Tryd.func29 (by kernel_rfl) H
end Go.Eng
namespace Go.Eng
open Go Go.RowKit Go.Proofs Wire
set_option linter.unusedVariables false
abbrev rH (T Rb : Nat) (tx : ByteArray) (st : RS) : Nat × Obj := (Rb, .cells #[.string tx, .int .i64 (st.1 : Int), .int .i64 st.2] T)
def lkF (F : SHeap) : Lk := fun b c => ∃ t fz, (b, Obj.cells ⟨c⟩ t fz) ∈ F
theorem lkF_mono {F F' : SHeap} (h : ∀ x ∈ F, x ∈ F') : ∀ b c, lkF F b c → lkF F' b c := fun _ _ ⟨t, fz, h1⟩ => ⟨t, fz, h _ h1⟩
theorem lkF_W {F L : SHeap} {S : List Nat} {w0 W : World} (hm : Mem L S w0 W) (h : ∀ x ∈ F, x ∈ L) : ∀ b c, lkF F b c → lkW W b c := by
  rintro b c ⟨t, fz, h1⟩
  have := hm.here _ (h _ h1)
  simp only at this
  simp [lkW, blkW, this]
theorem CallH.one {P : Program} {S : List Nat} {w0 : World} {g : FuncId} {args : Array Value} {x y : Nat × Obj} {rest : SHeap} {v : Value} {K' : Value → SHeap → Prop} (h : EffC P g args [x] (fun v' L' => v' = v ∧ L' = [y])) (hK : K' v (y :: rest)) :
    CallH P g args (x :: rest) S w0 K' :=
  CallH.eff (L0 := [x]) (L1 := rest) h (List.Perm.refl _) fun v' L' ⟨hv, hl⟩ => ⟨y :: rest, by rw [hl]; exact List.Perm.refl _, by rw [hv]; exact hK⟩
theorem CallH.oneF {P : Program} {S : List Nat} {w0 : World} {g : FuncId} {args : Array Value} {x : Nat × Obj} {rest : SHeap} {K : Value → SHeap → Prop} {K' : Value → SHeap → Prop} (h : EffC P g args [x] K) (hK : ∀ v L', K v L' → ∃ y F, L' = y :: F ∧ K' v (y :: (rest ++ F))) :
    CallH P g args (x :: rest) S w0 K' :=
  CallH.eff (L0 := [x]) (L1 := rest) h (List.Perm.refl _) fun v' L' hk => by
    obtain ⟨y, F, rfl, h2⟩ := hK v' L' hk
    exact ⟨_, List.Perm.cons y List.perm_append_comm, h2⟩
theorem dkSelT (A : SHeap) (is : List Nat) {T : SHeap} {K : Value → SHeap → Prop} {L' : SHeap} {S : List Nat} {W : World} {v : Value} (hs : (selL A is, nodupB is) = (L', true)) (h : K v (L' ++ T)) :
    Fin (fun e W' => ∃ v L', e = .returned v ∧ Mem L' S W W' ∧ K v L') (A ++ T) S W v := by
  simp only [Prod.mk.injEq] at hs
  obtain ⟨rfl, h2⟩ := hs
  exact fun _ hm => ⟨v, _, rfl, hm.selT (nodupB_spec h2), h⟩
theorem row_old {cs x r : List Value} {n sz i : Nat} (hi : i < n) (hn : n * sz ≤ cs.length) : ((cs.take (n * sz) ++ x ++ r).drop (i * sz)).take sz = (cs.drop (i * sz)).take sz := by
  have h1 : i * sz + sz ≤ n * sz := by rw [← Nat.succ_mul]; exact Nat.mul_le_mul_right _ hi
  rw [List.append_assoc, List.drop_append_of_le_length (by rw [List.length_take]; omega), List.take_append_of_le_length (by rw [List.length_drop, List.length_take]; omega), List.drop_take, List.take_take]
  congr 1
  omega
theorem row_new {cs x r : List Value} {n sz : Nat} (hn : n * sz ≤ cs.length) (hx : x.length = sz) : ((cs.take (n * sz) ++ x ++ r).drop (n * sz)).take sz = x := by
  have h1 : (cs.take (n * sz)).length = n * sz := by rw [List.length_take]; omega
  rw [List.append_assoc, List.drop_left' h1, List.take_left' hx]
theorem at_old {cs x r : List Value} {n i : Nat} (hi : i < n) (hn : n ≤ cs.length) : (cs.take n ++ x ++ r)[i]? = cs[i]? := by
  rw [List.append_assoc, List.getElem?_append_left (by rw [List.length_take]; omega), List.getElem?_take_of_lt hi]
theorem at_new {cs r : List Value} {v : Value} {n : Nat} (hn : n ≤ cs.length) : (cs.take n ++ [v] ++ r)[n]? = some v := by
  have h1 : (cs.take n).length = n := by rw [List.length_take]; omega
  rw [List.append_assoc, List.getElem?_append_right (by omega), h1, Nat.sub_self]; rfl
theorem int_ans {s : ByteArray} {st : RS} (h : st.1 ≤ (bts s).length) (he : st.2 = 0) : intAns s (st.1 : Int) = match rdInt ((bts s).drop st.1) with
    | none => .tuple #[.int .i64 0, .int .i64 0, .int .i64 10]
    | some (n, k) => .tuple #[.int .i64 n, .int .i64 ((st.1 + k : Nat) : Int), .int .i64 0] := by
  rw [bts_len] at h
  rw [intAns, if_neg (by omega), Int.toNat_natCast]
  cases rdInt ((bts s).drop st.1) with
  | none => rfl
  | some p => rfl
theorem str_ans {s : ByteArray} {st : RS} (h : st.1 ≤ (bts s).length) (he : st.2 = 0) : strAns s (st.1 : Int) = match rdStr ((bts s).drop st.1) with
    | none => .tuple #[.string ⟨#[]⟩, .int .i64 0, .int .i64 10]
    | some (t, k) => .tuple #[.string ⟨t.toArray⟩, .int .i64 ((st.1 + k : Nat) : Int), .int .i64 0] := by
  rw [bts_len] at h
  rw [strAns, if_neg (by omega), Int.toNat_natCast]
  cases rdStr ((bts s).drop st.1) with
  | none => rfl
  | some p => rfl
theorem readI_e {Rb : Nat} {tx : ByteArray} {st : RS} (hs : tx.size < 4611686018427387904) (h : st.1 ≤ (bts tx).length) :
    EffC Tryd.prog 77 ⟨[.pointer (some ⟨Rb, 0, none⟩), .func (.func 78) #[] #[]]⟩ [rH 70 Rb tx st] (fun v L' => v = .int .i64 (rdI (bts tx) st).1 ∧ L' = [rH 70 Rb tx (rdI (bts tx) st).2]) := by
  intro W hm
  refine readI_vc Rb tx st.1 st.2 hm ⟨fun he => dkFin ?_, fun he => ?_⟩
  · rw [rdI, if_neg he]; exact ⟨rfl, rfl⟩
  · have hq : QCall Tryd.prog 78 ⟨[.string tx, .int .i64 (st.1 : Int)]⟩ [rH 70 Rb tx st] ([rH 70 Rb tx st].map (·.1)) W (intAns tx (st.1 : Int)) := QCall.of (Int_c tx _ hs)
    rw [int_ans h he] at hq
    rw [rdI, if_pos he]
    cases hr : rdInt ((bts tx).drop st.1) with
    | none =>
      rw [hr] at hq
      exact ⟨_, _, _, hq, fun _ => dkFin ⟨rfl, rfl⟩, fun h0 => absurd h0 (by decide)⟩
    | some p =>
      rw [hr] at hq
      exact ⟨_, _, _, hq, fun h0 => absurd rfl h0, fun _ => dkFin ⟨rfl, by rw [he]⟩⟩
theorem readS_e {Rb : Nat} {tx : ByteArray} {st : RS} (hs : tx.size < 4611686018427387904) (h : st.1 ≤ (bts tx).length) :
    EffC Tryd.prog 80 ⟨[.pointer (some ⟨Rb, 0, none⟩), .func (.func 81) #[] #[]]⟩ [rH 70 Rb tx st] (fun v L' => v = .string (rdT (bts tx) st).1 ∧ L' = [rH 70 Rb tx (rdT (bts tx) st).2]) := by
  intro W hm
  refine readS_vc Rb tx st.1 st.2 hm ⟨fun he => dkFin ?_, fun he => ?_⟩
  · rw [rdT, if_neg he]; exact ⟨rfl, rfl⟩
  · have hq : QCall Tryd.prog 81 ⟨[.string tx, .int .i64 (st.1 : Int)]⟩ [rH 70 Rb tx st] ([rH 70 Rb tx st].map (·.1)) W (strAns tx (st.1 : Int)) := QCall.of (String_c tx _ hs)
    rw [str_ans h he] at hq
    rw [rdT, if_pos he]
    cases hr : rdStr ((bts tx).drop st.1) with
    | none =>
      rw [hr] at hq
      exact ⟨_, _, _, hq, fun _ => dkFin ⟨rfl, rfl⟩, fun h0 => absurd h0 (by decide)⟩
    | some p =>
      rw [hr] at hq
      exact ⟨_, _, _, hq, fun h0 => absurd rfl h0, fun _ => dkFin ⟨rfl, by rw [he]⟩⟩
theorem readInt_e {Rb : Nat} {tx : ByteArray} {st : RS} (hs : tx.size < 4611686018427387904) (h : st.1 ≤ (bts tx).length) :
    EffC Tryd.prog 79 ⟨[.pointer (some ⟨Rb, 0, none⟩)]⟩ [rH 70 Rb tx st] (fun v L' => v = .int .i64 (rdI (bts tx) st).1 ∧ L' = [rH 70 Rb tx (rdI (bts tx) st).2]) := by
  intro W hm
  exact readInt_vc Rb tx st.1 st.2 hm (CallH.one (readI_e hs h) ⟨_, _, _, rfl, rfl, dkFin ⟨rfl, rfl⟩⟩)
def IntsOut (T Rb : Nat) (tx : ByteArray) (r : List Int × RS) (v : Value) (L' : SHeap) : Prop :=
  ∃ (p : Option Addr) (c : Nat) (F : SHeap), v = .slice p r.1.length c ∧ r.1.length ≤ c ∧ L' = rH T Rb tx r.2 :: F ∧ IntsL (lkF F) p r.1
theorem readLI_loop1 {Rb : Nat} {tx : ByteArray} (hs : tx.size < 4611686018427387904) {count : Int} (hc : count ≤ 64) {S : List Nat} {w0 : World} : ∀ (g : Nat) (l : List Int) (st : RS) (B4 cap : Nat) (cs : List Value), (g : Int) + l.length = count → st.1 ≤ (bts tx).length → l.length ≤ cap → cs.length = cap * 1 → (∀ i (h : i < l.length), cs[i]? = some (.int .i64 l[i])) →
      readLI_c1 Rb B4 count l.length cap (l.length : Int) tx st.1 st.2 cs S w0 (fun e W' => ∃ v L', e = .returned v ∧ Mem L' S w0 W' ∧ IntsOut 70 Rb tx (l ++ (rdMany (rdI (bts tx)) g st).1, (rdMany (rdI (bts tx)) g st).2) v L')
  | g, l, st, B4, cap, cs, hg, hst, h1, h2, h3 => by
    apply readLI_c1_vc
    have stop : IntsOut 70 Rb tx (l, st) (.slice (some ⟨B4, 0, none⟩) l.length cap) [rH 70 Rb tx st, (B4, .cells ⟨cs⟩ 3)] :=
      ⟨some ⟨B4, 0, none⟩, cap, [(B4, .cells ⟨cs⟩ 3)], rfl, h1, rfl, fun _ => ⟨B4, 0, cs, rfl, ⟨3, _, List.mem_singleton.2 rfl⟩, fun i hi => by rw [Nat.zero_add]; exact h3 i hi⟩⟩
    match g with
    | 0 =>
      refine no (by omega) (dkFin ?_)
      simpa [rdMany] using stop
    | g + 1 =>
      refine yes (by omega) ⟨fun he => ?_, fun he => dkFin ?_⟩
      · refine CallH.one (readInt_e hs hst) ⟨_, _, _, rfl, rfl, fun B5 => ⟨⟨h1, h2⟩, by omega, fun B6 cap1 r5 q1 q2 => ?_⟩⟩
        rintro _ rfl
        rw [Nat.mul_one] at q2 ⊢
        have hlen : l.length ≤ cs.length := by omega
        rw [wi64 (by omega), show (l.length : Int) + 1 = ((l ++ [(rdI (bts tx) st).1]).length : Int) by simp, show l.length + 1 = (l ++ [(rdI (bts tx) st).1]).length by simp]
        have := readLI_loop1 (Rb := Rb) hs hc (S := S) (w0 := w0) g (l ++ [(rdI (bts tx) st).1]) (rdI (bts tx) st).2 B6 cap1 (cs.take l.length ++ [.int .i64 (rdI (bts tx) st).1] ++ r5) (by simp; omega) (rdI_le hst) (by simpa using q1) q2 (fun i hi => ?_)
        · rw [rdMany, if_pos he]
          simpa using this
        · rcases Nat.lt_or_ge i l.length with hi2 | hi2
          · rw [at_old hi2 hlen, h3 i hi2, List.getElem_append_left hi2]
          · have : i = l.length := by simp at hi; omega
            subst this
            rw [at_new hlen]; simp
      · rw [rdMany_err he]
        simpa using stop
theorem readLI_loop0 {Rb : Nat} {tx : ByteArray} (hs : tx.size < 4611686018427387904) {count : Int} {S : List Nat} {w0 : World} {st : RS} (hst : st.1 ≤ (bts tx).length) (hc : st.2 = 0 → count ≤ 64) :
    readLI_c0 Rb count 0 tx st.1 st.2 S w0 (fun e W' => ∃ v L', e = .returned v ∧ Mem L' S w0 W' ∧ IntsOut 70 Rb tx (rdMany (rdI (bts tx)) count.toNat st) v L') := by
  apply readLI_c0_vc
  have stop : IntsOut 70 Rb tx ([], st) (.slice none 0 0) [rH 70 Rb tx st] := ⟨none, 0, [], rfl, Nat.le_refl _, rfl, fun h => absurd h (by simp)⟩
  refine ⟨fun hlt => ⟨fun he => ?_, fun he => dkFin ?_⟩, fun hlt => dkFin ?_⟩
  · refine CallH.one (readInt_e hs hst) ⟨_, _, _, rfl, rfl, fun B1 B2 cap r3 q1 q2 => ?_⟩
    rintro _ rfl
    obtain ⟨g, hg⟩ : ∃ g : Nat, count.toNat = g + 1 := ⟨count.toNat - 1, by omega⟩
    have hcc := hc he
    have := readLI_loop1 (Rb := Rb) hs hcc (S := S) (w0 := w0) g [(rdI (bts tx) st).1] (rdI (bts tx) st).2 B2 cap ([.int .i64 (rdI (bts tx) st).1] ++ r3) (by simp; omega) (rdI_le hst) q1 q2 (fun i hi => ?_)
    · rw [hg, rdMany, if_pos he]
      exact this
    · have : i = 0 := by simp at hi; omega
      subst this; rfl
  · rw [rdMany_err he]; exact stop
  · have : count.toNat = 0 := by omega
    rw [this]; exact stop
theorem readLI_e {Rb : Nat} {tx : ByteArray} {st : RS} (hs : tx.size < 4611686018427387904) (h : st.1 ≤ (bts tx).length) :
    EffC Tryd.prog 82 ⟨[.pointer (some ⟨Rb, 0, none⟩), .int .i64 64, .func (.func 79) #[] #[]]⟩ [rH 70 Rb tx st] (IntsOut 70 Rb tx (rdList (rdI (bts tx)) (bts tx) 64 st)) := by
  intro W hm
  refine readLI_vc Rb 64 tx st.1 st.2 hm (CallH.one (readI_e hs h) ⟨_, _, _, rfl, rfl, ?_⟩)
  unfold rdList rdCount
  refine ⟨fun he => ⟨fun h1 => ?_, fun h1 => ⟨fun h2 => ?_, fun h2 => ?_⟩⟩, fun he => ?_⟩
  · rw [if_pos ⟨he, .inl h1⟩]
    exact readLI_loop0 hs (st := ((rdI (bts tx) st).2.1, 30)) (rdI_le h) (fun h => absurd h (by simp))
  · rw [if_pos ⟨he, .inr h2⟩]
    exact readLI_loop0 hs (st := ((rdI (bts tx) st).2.1, 30)) (rdI_le h) (fun h => absurd h (by simp))
  · rw [if_neg (fun hh => by rcases hh.2 with h3 | h3 <;> omega)]
    exact readLI_loop0 hs (rdI_le h) (fun _ => by omega)
  · rw [if_neg (fun hh => he hh.1)]
    exact readLI_loop0 hs (rdI_le h) (fun h => absurd h he)
end Go.Eng
namespace Go.Eng
open Go Go.RowKit Go.Proofs Wire
set_option linter.unusedVariables false
def BlkOut (T Rb : Nat) (tx : ByteArray) (r : Blk × RS) (v : Value) (L' : SHeap) : Prop :=
  ∃ (p : Option Addr) (c : Nat) (F : SHeap), v = .agg ⟨r.1.cells p c⟩ ∧ L' = rH T Rb tx r.2 :: F ∧ IntsL (lkF F) p r.1.lab.after
theorem readB_e {Rb : Nat} {tx : ByteArray} {st : RS} (hs : tx.size < 4611686018427387904) (h : st.1 ≤ (bts tx).length) :
    EffC Tryd.prog 55 ⟨[.pointer (some ⟨Rb, 0, none⟩)]⟩ [rH 70 Rb tx st] (BlkOut 70 Rb tx (rdBlk (bts tx) st)) := by
  intro W hm
  obtain ⟨h1, h2, h3, h4, h5, h6, h7, h8, h9⟩ := rdB_le h
  refine readB_vc Rb tx st.1 st.2 hm fun B B1 => ?_
  refine CallH.one (readInt_e hs h) ⟨_, _, _, rfl, rfl, ?_⟩
  refine CallH.one (readInt_e hs h1) ⟨_, _, _, rfl, rfl, ?_⟩
  refine CallH.one (readS_e hs h2) ⟨_, _, _, rfl, rfl, ?_⟩
  refine CallH.one (readInt_e hs h3) ⟨_, _, _, rfl, rfl, ?_⟩
  refine CallH.one (readInt_e hs h4) ⟨_, _, _, rfl, rfl, ?_⟩
  refine CallH.one (readInt_e hs h5) ⟨_, _, _, rfl, rfl, ?_⟩
  refine CallH.oneF (readLI_e hs h6) fun v L' ⟨p, c, F, hv, hc, hL, hi⟩ => ⟨_, F, hL, p, _, c, _, _, F, hv, rfl, ?_⟩
  refine CallH.one (readInt_e hs h7) ⟨_, _, _, rfl, rfl, ?_⟩
  refine CallH.one (readInt_e hs h8) ⟨_, _, _, rfl, rfl, ?_⟩
  exact dkSelT [_, _, _] [0] rfl ⟨p, c, F, rfl, rfl, hi⟩
def BlksOut (T Rb : Nat) (tx : ByteArray) (r : List Blk × RS) (v : Value) (L' : SHeap) : Prop :=
  ∃ (p : Option Addr) (c : Nat) (F : SHeap), v = .slice p r.1.length c ∧ r.1.length ≤ c ∧ L' = rH T Rb tx r.2 :: F ∧ BlksL (lkF F) p r.1
def BRow (F : SHeap) (cs : List Value) (l : List Blk) : Prop := ∀ i (h : i < l.length), i * 9 + 9 ≤ cs.length ∧ BlkL (lkF F) ((cs.drop (i * 9)).take 9) l[i]
theorem BRow.mono {F F' : SHeap} {cs : List Value} {l : List Blk} (h : BRow F cs l) (hl : ∀ x ∈ F, x ∈ F') : BRow F' cs l := fun i hi => ⟨(h i hi).1, (h i hi).2.mono (lkF_mono hl)⟩
theorem BRow.app {F : SHeap} {cs r : List Value} {l : List Blk} {b : Blk} {p : Option Addr} {c cap cap1 : Nat} (h : BRow F cs l) (h1 : l.length ≤ cap) (h2 : cs.length = cap * 9) (hb : IntsL (lkF F) p b.lab.after) (hf : b.Fits)
    (q1 : l.length + 1 ≤ cap1) (q2 : (cs.take (l.length * 9) ++ b.cells p c ++ r).length = cap1 * 9) : BRow F (cs.take (l.length * 9) ++ b.cells p c ++ r) (l ++ [b]) := by
  have hn : l.length * 9 ≤ cs.length := by rw [h2]; exact Nat.mul_le_mul_right _ h1
  intro i hi
  have hi' : i < l.length + 1 := by simpa using hi
  refine ⟨by rw [q2]; omega, ?_⟩
  rcases Nat.lt_or_ge i l.length with hlt | hge
  · rw [row_old hlt hn, List.getElem_append_left hlt]
    exact (h i hlt).2
  · have : i = l.length := by omega
    subst this
    rw [row_new hn rfl]
    simp only [List.getElem_append_right (Nat.le_refl _), Nat.sub_self, List.getElem_cons_zero]
    exact ⟨p, c, rfl, hb, hf⟩
theorem BRow.one {F : SHeap} {r : List Value} {b : Blk} {p : Option Addr} {c cap : Nat} (hb : IntsL (lkF F) p b.lab.after) (hf : b.Fits) (q1 : 1 ≤ cap) (q2 : (b.cells p c ++ r).length = cap * 9) : BRow F (b.cells p c ++ r) [b] := by
  intro i hi
  have : i = 0 := by simp at hi; omega
  subst this
  refine ⟨by rw [q2]; omega, p, c, ?_, hb, hf⟩
  simp
theorem BRow.sl {F : SHeap} {cs : List Value} {l : List Blk} {B4 : Nat} (h : BRow F cs l) : BlksL (lkF ((B4, .cells ⟨cs⟩ 26) :: F)) (some ⟨B4, 0, none⟩) l :=
  fun _ => ⟨B4, 0, cs, rfl, ⟨26, _, List.mem_cons_self⟩, fun i hi => ⟨by rw [Nat.zero_add]; exact (h i hi).1, by rw [Nat.zero_add]; exact (h i hi).2.mono (lkF_mono fun x hx => List.mem_cons_of_mem _ hx)⟩⟩
theorem readLB_loop1 {Rb : Nat} {tx : ByteArray} (hs : tx.size < 4611686018427387904) {count : Int} (hc : count ≤ 24) {S : List Nat} {w0 : World} : ∀ (g : Nat) (l : List Blk) (st : RS) (B4 cap : Nat) (cs : List Value) (F : SHeap), (g : Int) + l.length = count → st.1 ≤ (bts tx).length → l.length ≤ cap → cs.length = cap * 9 → BRow F cs l →
      readLB_c1 Rb B4 count l.length cap (l.length : Int) tx st.1 st.2 cs F S w0 (fun e W' => ∃ v L', e = .returned v ∧ Mem L' S w0 W' ∧ BlksOut 70 Rb tx (l ++ (rdMany (rdBlk (bts tx)) g st).1, (rdMany (rdBlk (bts tx)) g st).2) v L')
  | g, l, st, B4, cap, cs, F, hg, hst, h1, h2, h3 => by
    apply readLB_c1_vc
    have stop : BlksOut 70 Rb tx (l, st) (.slice (some ⟨B4, 0, none⟩) l.length cap) (rH 70 Rb tx st :: (B4, .cells ⟨cs⟩ 26) :: F) :=
      ⟨some ⟨B4, 0, none⟩, cap, (B4, .cells ⟨cs⟩ 26) :: F, rfl, h1, rfl, h3.sl⟩
    match g with
    | 0 =>
      refine no (by omega) (dkFin ?_)
      simpa [rdMany] using stop
    | g + 1 =>
      refine yes (by omega) ⟨fun he => ?_, fun he => dkFin ?_⟩
      · refine CallH.oneF (readB_e hs hst) fun v L' ⟨p, c, F4, hv, hL, hi⟩ => ⟨_, F4, hL, _, _, _, _, _, _, p, _, c, _, _, _, _, F ++ F4, hv, rfl, fun B5 => ⟨⟨h1, h2⟩, by omega, fun B6 cap1 r5 q1 q2 => ?_⟩⟩
        rintro _ rfl
        have h3' : BRow (F ++ F4) cs l := h3.mono fun x hx => List.mem_append_left _ hx
        have hi' := hi.mono (lkF_mono (F' := F ++ F4) fun x hx => List.mem_append_right _ hx)
        have hrow := h3'.app h1 h2 hi' (rdBlk_fits hst) q1 q2
        rw [wi64 (by omega), show (l.length : Int) + 1 = ((l ++ [(rdBlk (bts tx) st).1]).length : Int) by simp]
        have := readLB_loop1 (Rb := Rb) hs hc (S := S) (w0 := w0) g (l ++ [(rdBlk (bts tx) st).1]) (rdBlk (bts tx) st).2 B6 cap1 _ (F ++ F4) (by simp; omega) (rdBlk_le hst) (by simpa using q1) q2 hrow
        rw [rdMany, if_pos he]
        have e : (l ++ [(rdBlk (bts tx) st).1]).length = l.length + 1 := by simp
        rw [e] at this
        simpa using this
      · rw [rdMany_err he]
        simpa using stop
theorem readLB_loop0 {Rb : Nat} {tx : ByteArray} (hs : tx.size < 4611686018427387904) {count : Int} {S : List Nat} {w0 : World} {st : RS} (hst : st.1 ≤ (bts tx).length) (hc : st.2 = 0 → count ≤ 24) :
    readLB_c0 Rb count 0 tx st.1 st.2 [] S w0 (fun e W' => ∃ v L', e = .returned v ∧ Mem L' S w0 W' ∧ BlksOut 70 Rb tx (rdMany (rdBlk (bts tx)) count.toNat st) v L') := by
  apply readLB_c0_vc
  have stop : BlksOut 70 Rb tx ([], st) (.slice none 0 0) [rH 70 Rb tx st] := ⟨none, 0, [], rfl, Nat.le_refl _, rfl, fun h => absurd h (by simp)⟩
  refine ⟨fun hlt => ⟨fun he => ?_, fun he => dkFin ?_⟩, fun hlt => dkFin ?_⟩
  · refine CallH.oneF (readB_e hs hst) fun v L' ⟨p, c, F4, hv, hL, hi⟩ => ⟨_, F4, hL, _, _, _, _, _, _, p, _, c, _, _, _, _, F4, hv, rfl, fun B1 B2 cap r3 q1 q2 => ?_⟩
    rintro _ rfl
    obtain ⟨g, hg⟩ : ∃ g : Nat, count.toNat = g + 1 := ⟨count.toNat - 1, by omega⟩
    have hcc := hc he
    have hrow := BRow.one hi (rdBlk_fits hst) q1 q2
    have := readLB_loop1 (Rb := Rb) hs hcc (S := S) (w0 := w0) g [(rdBlk (bts tx) st).1] (rdBlk (bts tx) st).2 B2 cap _ F4 (by simp; omega) (rdBlk_le hst) q1 q2 hrow
    rw [hg, rdMany, if_pos he]
    exact this
  · rw [rdMany_err he]; exact stop
  · have : count.toNat = 0 := by omega
    rw [this]; exact stop
theorem readLB_e {Rb : Nat} {tx : ByteArray} {st : RS} (hs : tx.size < 4611686018427387904) (h : st.1 ≤ (bts tx).length) :
    EffC Tryd.prog 54 ⟨[.pointer (some ⟨Rb, 0, none⟩), .int .i64 24, .func (.func 55) #[] #[]]⟩ [rH 70 Rb tx st] (BlksOut 70 Rb tx (rdList (rdBlk (bts tx)) (bts tx) 24 st)) := by
  intro W hm
  refine readLB_vc Rb 24 tx st.1 st.2 [] hm (CallH.one (readI_e hs h) ⟨_, _, _, rfl, rfl, ?_⟩)
  unfold rdList rdCount
  refine ⟨fun he => ⟨fun h1 => ?_, fun h1 => ⟨fun h2 => ?_, fun h2 => ?_⟩⟩, fun he => ?_⟩
  · rw [if_pos ⟨he, .inl h1⟩]
    exact readLB_loop0 hs (st := ((rdI (bts tx) st).2.1, 30)) (rdI_le h) (fun h => absurd h (by simp))
  · rw [if_pos ⟨he, .inr h2⟩]
    exact readLB_loop0 hs (st := ((rdI (bts tx) st).2.1, 30)) (rdI_le h) (fun h => absurd h (by simp))
  · rw [if_neg (fun hh => by rcases hh.2 with h3 | h3 <;> omega)]
    exact readLB_loop0 hs (rdI_le h) (fun _ => by omega)
  · rw [if_neg (fun hh => he hh.1)]
    exact readLB_loop0 hs (rdI_le h) (fun h => absurd h he)
def DecOut (r : List Blk × Int) (v : Value) (F : SHeap) : Prop := ∃ (p : Option Addr) (c : Nat), v = .tuple #[.slice p r.1.length c, .int .i64 r.2] ∧ r.1.length ≤ c ∧ BlksL (lkF F) p r.1
theorem DecOut.nil {e : Int} {F : SHeap} : DecOut ([], e) (.tuple #[.slice none 0 0, .int .i64 e]) F := ⟨none, 0, rfl, Nat.le_refl _, fun h => absurd h (by simp)⟩
theorem decRun_le (s : List UInt8) : (decRun s).2.1 ≤ s.length ∧ (decRun s).1.length ≤ 24 := rdList_le (f := rdBlk s) (most := 24) (fun st => rdBlk_le) (Nat.zero_le _)
theorem decode_e (s : ByteArray) (hs : s.size < 4611686018427387904) : EffC Tryd.prog 29 ⟨[.string s]⟩ [] (DecOut (decSpec (bts s))) := by
  intro W hm
  refine decode_vc s (Mem.start [] W) fun B => ?_
  have hE : EffC Tryd.prog 54 ⟨[.pointer (some ⟨B, 0, none⟩), .int .i64 24, .func (.func 55) #[] #[]]⟩ [rH 70 B s (0, 0)] (BlksOut 70 B s (decRun (bts s))) := readLB_e (st := (0, 0)) hs (Nat.zero_le _)
  refine CallH.oneF hE fun v L' ⟨p, c, F, hv, hc, hL, hb⟩ => ⟨_, F, hL, p, _, c, _, _, F, hv, rfl, ?_⟩
  have hle := (decRun_le (bts s)).1
  have hl : (bts s).length = s.size := bts_len s
  have fin : ∀ r v, decSpec (bts s) = r → DecOut r v F → Fin (fun e W' => ∃ v L', e = .returned v ∧ Mem L' [] W W' ∧ DecOut (decSpec (bts s)) v L') (rH 70 B s (decRun (bts s)).2 :: F) [] W v := fun r v hr hd => by
    rw [hr]; exact dkSelT [_] [] rfl hd
  refine ⟨fun he => ?_, fun he => ⟨fun h1 => ?_, fun h1 => ?_⟩⟩
  · exact fin _ _ (by rw [decSpec, if_pos he]) DecOut.nil
  · exact fin _ _ (by rw [decSpec, if_neg (by omega), if_pos (show (decRun (bts s)).2.1 < (bts s).length from by have : ((decRun (bts s)).2.1 : Int) < (s.size : Int) := h1; omega)]) DecOut.nil
  · have h1' : ¬ (decRun (bts s)).2.1 < (bts s).length := by have : ¬ ((decRun (bts s)).2.1 : Int) < (s.size : Int) := h1; omega
    refine CallH.pw (fun W' hm' => validL_c (hb.mono (lkF_W hm' fun x hx => List.mem_cons_of_mem _ hx)) hc) ⟨_, rfl, rfl, fun hok => ?_, fun hok => ?_⟩
    · exact fin _ _ (by rw [decSpec, if_neg (by omega), if_neg h1', if_pos hok]) ⟨p, c, rfl, hc, hb⟩
    · exact fin _ _ (by rw [decSpec, if_neg (by omega), if_neg h1', if_neg (by rw [hok]; simp)]) DecOut.nil
end Go.Eng
namespace Go.Eng
open Go Go.RowKit Go.Proofs
set_option linter.unusedVariables false
set_option maxRecDepth 100000
noncomputable abbrev EngB3s87 := sub (Eng.body Tryd.f87)
noncomputable abbrev EngB3s88 := sub (Eng.body Tryd.f88)
noncomputable abbrev EngB3s96 := sub (Eng.body Tryd.f96)
noncomputable abbrev EngB3s97 := sub (Eng.body Tryd.f97)
theorem initB_vc (text : ByteArray) (atv : Int) {R : Ending → World → Prop} {w0 W : World} (hm : Mem [] [] w0 W)
  (H :
   ((atv < (1 : Int)) →
    Fin R [] [] w0 (.bool false)) ∧
    ((¬ (atv < (1 : Int))) →
    (0 ≤ (IntKind.i64.wrap (atv - (1 : Int))) ∧ (IntKind.i64.wrap (atv - (1 : Int))) < text.size) ∧
    (((bat text (IntKind.i64.wrap (atv - (1 : Int)))) < (65 : Int)) →
     Fin R [] [] w0 (.bool false)) ∧
     ((¬ ((bat text (IntKind.i64.wrap (atv - (1 : Int)))) < (65 : Int))) →
     (0 ≤ (IntKind.i64.wrap (atv - (1 : Int))) ∧ (IntKind.i64.wrap (atv - (1 : Int))) < text.size) ∧
     (((90 : Int) < (bat text (IntKind.i64.wrap (atv - (1 : Int))))) →
      Fin R [] [] w0 (.bool false)) ∧
      ((¬ ((90 : Int) < (bat text (IntKind.i64.wrap (atv - (1 : Int)))))) →
      ((atv = (1 : Int)) →
       Fin R [] [] w0 (.bool true)) ∧
       ((¬ (atv = (1 : Int))) →
       (0 ≤ (IntKind.i64.wrap (atv - (2 : Int))) ∧ (IntKind.i64.wrap (atv - (2 : Int))) < text.size) ∧
       Fin R [] [] w0 (.bool (decide ((bat text (IntKind.i64.wrap (atv - (2 : Int)))) = (32 : Int))))))))) :
  Calls Tryd.prog 87 ⟨[.string text, .int .i64 atv]⟩ W R := by
 refine AtE.calls (nt := 30) Tryd.func87 (by kernel_rfl) hm ?_
 refine AtE.run 10 (fun W => by kernel_rfl) ?_
 refine AtE.splitP 7 (p := atv < (1 : Int)) (by kernel_rfl) (fun h1' => ?_) (fun h1' => ?_)
 ·replace H := H.1 h1'
  refine AtE.run 19 (fun W => by kernel_rfl) ?_
  exact AtE.ret Tryd.func87 (by kernel_rfl) H
 ·replace H := H.2 h1'
  refine AtE.run 3 (fun W => by kernel_rfl) ?_
  refine AtE.indexS (s := text) (kd := .i64) (i := (IntKind.i64.wrap (atv - (1 : Int)))) (by kernel_rfl) H.1 ?_
  replace H := H.2
  refine AtE.run 3 (fun W => by kernel_rfl) ?_
  refine AtE.splitP 14 (p := (bat text (IntKind.i64.wrap (atv - (1 : Int)))) < (65 : Int)) (by kernel_rfl) (fun h2' => ?_) (fun h2' => ?_)
  ·replace H := H.1 h2'
   refine AtE.run 12 (fun W => by kernel_rfl) ?_
   exact AtE.ret Tryd.func87 (by kernel_rfl) H
  ·replace H := H.2 h2'
   refine AtE.run 3 (fun W => by kernel_rfl) ?_
   refine AtE.indexS (s := text) (kd := .i64) (i := (IntKind.i64.wrap (atv - (1 : Int)))) (by kernel_rfl) H.1 ?_
   replace H := H.2
   refine AtE.run 3 (fun W => by kernel_rfl) ?_
   refine AtE.splitP 20 (p := (90 : Int) < (bat text (IntKind.i64.wrap (atv - (1 : Int))))) (by kernel_rfl) (fun h3' => ?_) (fun h3' => ?_)
   ·replace H := H.1 h3'
    refine AtE.run 5 (fun W => by kernel_rfl) ?_
    exact AtE.ret Tryd.func87 (by kernel_rfl) H
   ·replace H := H.2 h3'
    refine AtE.run 7 (fun W => by kernel_rfl) ?_
    refine AtE.splitP 23 (p := atv = (1 : Int)) (by kernel_rfl) (fun h4' => ?_) (fun h4' => ?_)
    ·replace H := H.1 h4'
     refine AtE.run 8 (fun W => by kernel_rfl) ?_
     exact AtE.ret Tryd.func87 (by kernel_rfl) H
    ·replace H := H.2 h4'
     refine AtE.run 3 (fun W => by kernel_rfl) ?_
     refine AtE.indexS (s := text) (kd := .i64) (i := (IntKind.i64.wrap (atv - (2 : Int)))) (by kernel_rfl) H.1 ?_
     replace H := H.2
     refine AtE.norm (k' := [.inRegion (regOps [.code (EngB3s87 [1,1,0])]) [7,8,9], .code (EngB3s87 [1,1,1])]) (e' := [(23, .bool false), (27, .int .u8 (bat text (IntKind.i64.wrap (atv - (2 : Int)))))]) (L' := []) ?_ (by kernel_rfl)
     refine AtE.run 4 (fun W => by kernel_rfl) ?_
     exact AtE.ret Tryd.func87 (by kernel_rfl) H
def trimL_c0 (s1 : ByteArray) (cv1 : Int) (w0 : World) (R : Ending → World → Prop) : Prop :=
 AtE Tryd.prog 96 17 [.code (EngB3s96 [1,0,0,0]), .inLoop (EngB3s96 [1,0,0,0]), .inBlock 0, .code (EngB3s96 [1,1])] [(0, .string s1), (1, .int .u8 cv1)] [] [] w0 (nrm R)
theorem trimL_c0_vc (s1 : ByteArray) (cv1 : Int) {R : Ending → World → Prop} {w0 : World}
  (H :
   (((0 : Int) < (s1.size : Int)) →
    (0 ≤ (0 : Int) ∧ (0 : Int) < s1.size) ∧
    (((bat s1 (0 : Int)) = cv1) →
     (0 ≤ (1 : Int) ∧ (1 : Int) ≤ (s1.size : Int) ∧ (s1.size : Int) ≤ s1.size) ∧
     ∀ s2 : ByteArray, s2 = (s1.extract (Int.toNat (1 : Int)) s1.size) →
     trimL_c0 s2 cv1 w0 R) ∧
     ((¬ ((bat s1 (0 : Int)) = cv1)) →
     Fin R [] [] w0 (.string s1))) ∧
    ((¬ ((0 : Int) < (s1.size : Int))) →
    Fin R [] [] w0 (.string s1))) :
  trimL_c0 s1 cv1 w0 R := by
 unfold trimL_c0
 refine AtE.run 7 (fun W => by kernel_rfl) ?_
 refine AtE.splitP 8 (p := (0 : Int) < (s1.size : Int)) (by kernel_rfl) (fun h1' => ?_) (fun h1' => ?_)
 ·replace H := H.1 h1'
  refine AtE.run 1 (fun W => by kernel_rfl) ?_
  refine AtE.indexS (s := s1) (kd := .i64) (i := (0 : Int)) (by kernel_rfl) H.1 ?_
  replace H := H.2
  refine AtE.run 4 (fun W => by kernel_rfl) ?_
  refine AtE.splitP 13 (p := (bat s1 (0 : Int)) = cv1) (by kernel_rfl) (fun h2' => ?_) (fun h2' => ?_)
  ·replace H := H.1 h2'
   refine AtE.run 5 (fun W => by kernel_rfl) ?_
   refine AtE.sliceS (s := s1) (lo := some (.int .i64 (1 : Int))) (hi := none) (a := (1 : Int)) (b := (s1.size : Int)) (by kernel_rfl) (.inl ⟨.i64, rfl⟩) (.inr ⟨rfl, rfl⟩) H.1 ?_
   replace H := H.2
   refine AtE.run 1 (fun W => by kernel_rfl) ?_
   refine AtE.letS 0 (n := (s1.extract (Int.toNat (1 : Int)) s1.size)) (by kernel_rfl) (fun s2 hs2 => ?_)
   replace H := H s2 hs2
   refine AtE.run 3 (fun W => by kernel_rfl) ?_
   exact AtE.cut [] H (by kernel_rfl)
  ·replace H := H.2 h2'
   refine AtE.run 7 (fun W => by kernel_rfl) ?_
   exact AtE.ret Tryd.func96 (by kernel_rfl) H
 ·replace H := H.2 h1'
  refine AtE.run 13 (fun W => by kernel_rfl) ?_
  exact AtE.ret Tryd.func96 (by kernel_rfl) H
theorem trimL_vc (s : ByteArray) (cv : Int) {R : Ending → World → Prop} {w0 W : World} (hm : Mem [] [] w0 W)
  (H :
   trimL_c0 s cv w0 R) :
  Calls Tryd.prog 96 ⟨[.string s, .int .u8 cv]⟩ W R := by
 refine AtE.calls (nt := 17) Tryd.func96 (by kernel_rfl) hm ?_
 refine AtE.run 7 (fun W => by kernel_rfl) ?_
 exact AtE.cut [] H (by kernel_rfl)
def trimR_c0 (s1 : ByteArray) (cv1 : Int) (w0 : World) (R : Ending → World → Prop) : Prop :=
 AtE Tryd.prog 97 23 [.code (EngB3s97 [1,0,0,0]), .inLoop (EngB3s97 [1,0,0,0]), .inBlock 0, .code (EngB3s97 [1,1])] [(0, .string s1), (1, .int .u8 cv1)] [] [] w0 (nrm R)
theorem trimR_c0_vc (s1 : ByteArray) (cv1 : Int) {R : Ending → World → Prop} {w0 : World}
  (H :
   (((0 : Int) < (s1.size : Int)) →
    (0 ≤ (IntKind.i64.wrap ((s1.size : Int) - (1 : Int))) ∧ (IntKind.i64.wrap ((s1.size : Int) - (1 : Int))) < s1.size) ∧
    (((bat s1 (IntKind.i64.wrap ((s1.size : Int) - (1 : Int)))) = cv1) →
     (0 ≤ (0 : Int) ∧ (0 : Int) ≤ (IntKind.i64.wrap ((s1.size : Int) - (1 : Int))) ∧ (IntKind.i64.wrap ((s1.size : Int) - (1 : Int))) ≤ s1.size) ∧
     ∀ s2 : ByteArray, s2 = (s1.extract 0 (Int.toNat (IntKind.i64.wrap ((s1.size : Int) - (1 : Int))))) →
     trimR_c0 s2 cv1 w0 R) ∧
     ((¬ ((bat s1 (IntKind.i64.wrap ((s1.size : Int) - (1 : Int)))) = cv1)) →
     Fin R [] [] w0 (.string s1))) ∧
    ((¬ ((0 : Int) < (s1.size : Int))) →
    Fin R [] [] w0 (.string s1))) :
  trimR_c0 s1 cv1 w0 R := by
 unfold trimR_c0
 refine AtE.run 7 (fun W => by kernel_rfl) ?_
 refine AtE.splitP 8 (p := (0 : Int) < (s1.size : Int)) (by kernel_rfl) (fun h1' => ?_) (fun h1' => ?_)
 ·replace H := H.1 h1'
  refine AtE.run 4 (fun W => by kernel_rfl) ?_
  refine AtE.indexS (s := s1) (kd := .i64) (i := (IntKind.i64.wrap ((s1.size : Int) - (1 : Int)))) (by kernel_rfl) H.1 ?_
  replace H := H.2
  refine AtE.run 4 (fun W => by kernel_rfl) ?_
  refine AtE.splitP 16 (p := (bat s1 (IntKind.i64.wrap ((s1.size : Int) - (1 : Int)))) = cv1) (by kernel_rfl) (fun h2' => ?_) (fun h2' => ?_)
  ·replace H := H.1 h2'
   refine AtE.run 8 (fun W => by kernel_rfl) ?_
   refine AtE.sliceS (s := s1) (lo := none) (hi := some (.int .i64 (IntKind.i64.wrap ((s1.size : Int) - (1 : Int))))) (a := (0 : Int)) (b := (IntKind.i64.wrap ((s1.size : Int) - (1 : Int)))) (by kernel_rfl) (.inr ⟨rfl, rfl⟩) (.inl ⟨.i64, rfl⟩) H.1 ?_
   replace H := H.2
   refine AtE.run 1 (fun W => by kernel_rfl) ?_
   refine AtE.letS 0 (n := (s1.extract 0 (Int.toNat (IntKind.i64.wrap ((s1.size : Int) - (1 : Int)))))) (by kernel_rfl) (fun s2 hs2 => ?_)
   replace H := H s2 hs2
   refine AtE.run 3 (fun W => by kernel_rfl) ?_
   exact AtE.cut [] H (by kernel_rfl)
  ·replace H := H.2 h2'
   refine AtE.run 7 (fun W => by kernel_rfl) ?_
   exact AtE.ret Tryd.func97 (by kernel_rfl) H
 ·replace H := H.2 h1'
  refine AtE.run 16 (fun W => by kernel_rfl) ?_
  exact AtE.ret Tryd.func97 (by kernel_rfl) H
theorem trimR_vc (s : ByteArray) (cv : Int) {R : Ending → World → Prop} {w0 W : World} (hm : Mem [] [] w0 W)
  (H :
   trimR_c0 s cv w0 R) :
  Calls Tryd.prog 97 ⟨[.string s, .int .u8 cv]⟩ W R := by
 refine AtE.calls (nt := 23) Tryd.func97 (by kernel_rfl) hm ?_
 refine AtE.run 7 (fun W => by kernel_rfl) ?_
 exact AtE.cut [] H (by kernel_rfl)
theorem trim_vc (s : ByteArray) {R : Ending → World → Prop} {w0 W : World} (hm : Mem [] [] w0 W)
  (H :
   ((s = (⟨#[]⟩ : ByteArray)) →
    Fin R [] [] w0 (.string s)) ∧
    ((¬ s = (⟨#[]⟩ : ByteArray)) →
    (((⟨#[32]⟩ : ByteArray) = (⟨#[]⟩ : ByteArray)) →
     Fin R [] [] w0 (.string s)) ∧
     ((¬ (⟨#[32]⟩ : ByteArray) = (⟨#[]⟩ : ByteArray)) →
     ∃ (r1 : ByteArray), (QCall Tryd.prog 97 ⟨[.string s, .int .u8 (32 : Int)]⟩ [] [] w0 (.string r1)) ∧
     ∃ (r21 : ByteArray), (QCall Tryd.prog 96 ⟨[.string r1, .int .u8 (32 : Int)]⟩ [] [] w0 (.string r21)) ∧
     Fin R [] [] w0 (.string r21)))) :
  Calls Tryd.prog 88 ⟨[.string s, .string (⟨#[32]⟩)]⟩ W R := by
 refine AtE.calls (nt := 43) Tryd.func88 (by kernel_rfl) hm ?_
 refine AtE.run 10 (fun W => by kernel_rfl) ?_
 refine AtE.splitS 9 (x := s) (y := (⟨#[]⟩ : ByteArray)) (by kernel_rfl) (fun h1' => ?_) (fun h1' => ?_)
 ·replace H := H.1 h1'
  refine AtE.run 10 (fun W => by kernel_rfl) ?_
  exact AtE.ret Tryd.func88 (by kernel_rfl) H
 ·replace H := H.2 h1'
  refine AtE.run 4 (fun W => by kernel_rfl) ?_
  refine AtE.splitS 12 (x := (⟨#[32]⟩ : ByteArray)) (y := (⟨#[]⟩ : ByteArray)) (by kernel_rfl) (fun h2' => ?_) (fun h2' => ?_)
  ·replace H := H.1 h2'
   refine AtE.run 6 (fun W => by kernel_rfl) ?_
   exact AtE.ret Tryd.func88 (by kernel_rfl) H
  ·replace H := H.2 h2'
   refine AtE.run 16 (fun W => by kernel_rfl) ?_
   refine AtE.norm (k' := [.code (EngB3s88 [1,1,0,1,0,0]), .code (EngB3s88 [1,1,0,1,0,1]), .code (EngB3s88 [1,1,1])]) (e' := [(0, .string s), (1, .string (⟨#[32]⟩))]) (L' := []) ?_ (by kernel_rfl)
   refine AtE.draw 8 (by kernel_rfl) ?_
   refine AtQ.pure (by kernel_rfl) (fun W => by kernel_rfl) ?_
   refine AtQ.pure (by kernel_rfl) (fun W => by kernel_rfl) ?_
   refine AtQ.pure (by kernel_rfl) (fun W => by kernel_rfl) ?_
   obtain ⟨r1, hq, H⟩ := H
   refine AtQ.call 97 ⟨[.string s, .int .u8 (32 : Int)]⟩ (fun W => by kernel_rfl) (by kernel_rfl) hq ?_
   refine AtQ.pure (by kernel_rfl) (fun W => by kernel_rfl) ?_
   refine AtQ.pure (by kernel_rfl) (fun W => by kernel_rfl) ?_
   obtain ⟨r21, hq, H⟩ := H
   refine AtQ.call 96 ⟨[.string r1, .int .u8 (32 : Int)]⟩ (fun W => by kernel_rfl) (by kernel_rfl) hq ?_
   refine AtQ.pure (by kernel_rfl) (fun W => by kernel_rfl) ?_
   refine AtQ.done (by kernel_rfl) ?_
   refine AtE.run 1 (fun W => by kernel_rfl) ?_
   exact AtE.ret Tryd.func88 (by kernel_rfl) H
end Go.Eng
namespace Go.Eng
open Go Go.RowKit Go.Proofs Wire
set_option linter.unusedVariables false
def isSp (c : UInt8) : Bool := decide (c.toNat = 32)
theorem spT {c : UInt8} (h : c.toNat = 32) : isSp c = true := decide_eq_true h
theorem spF {c : UInt8} (h : ¬ c.toNat = 32) : ¬ isSp c = true := fun h0 => h (of_decide_eq_true h0)
def dropL : List UInt8 → List UInt8
  | [] => []
  | c :: r => if isSp c = true then dropL r else c :: r
def dropR : List UInt8 → List UInt8
  | [] => []
  | c :: r => if isSp c = true ∧ dropR r = [] then [] else c :: dropR r
def trimS (l : List UInt8) : List UInt8 := dropL (dropR l)
theorem dropR_snoc : ∀ (l : List UInt8) (c : UInt8), dropR (l ++ [c]) = if isSp c = true then dropR l else l ++ [c]
  | [], c => by by_cases hc : isSp c = true <;> simp [dropR, hc]
  | d :: r, c => by
    rw [List.cons_append, dropR, dropR_snoc r c]
    by_cases hc : isSp c = true
    · simp [hc, dropR]
    · simp [hc]
def capB (q : UInt8) : Bool := decide (65 ≤ q.toNat ∧ q.toNat ≤ 90)
def endB (p q c : UInt8) (sp : Bool) : Bool := sp && ((decide (c.toNat = 46) && !(capB q && isSp p)) || decide (c.toNat = 33) || decide (c.toNat = 63))
def nxt : List UInt8 → Bool
  | [] => true
  | c :: _ => isSp c
def sen (p q : UInt8) (acc : List UInt8) : List UInt8 → List (List UInt8)
  | [] => if trimS acc = [] then [] else [trimS acc]
  | c :: r => if endB p q c (nxt r) = true then trimS (acc ++ [c]) :: sen q c [] r else sen q c (acc ++ [c]) r
def senOf (l : List UInt8) : List (List UInt8) := sen 32 32 [] l
def pv (l : List UInt8) : Nat → UInt8
  | 0 => 32
  | k + 1 => l.getD k 32
def pv2 (l : List UInt8) : Nat → UInt8
  | 0 => 32
  | k + 1 => pv l k
def seg (l : List UInt8) (a b : Nat) : List UInt8 := (l.drop a).take (b - a)
def senAt (l : List UInt8) (start i : Nat) : List (List UInt8) := sen (pv2 l i) (pv l i) (seg l start i) (l.drop i)
theorem seg_nil (l : List UInt8) (i : Nat) : seg l i i = [] := by simp [seg]
theorem seg_succ {l : List UInt8} {a i : Nat} (h : a ≤ i) (hi : i < l.length) : seg l a (i + 1) = seg l a i ++ [l[i]] := by
  unfold seg
  rw [show i + 1 - a = (i - a) + 1 by omega, List.take_add_one, List.getElem?_drop, show a + (i - a) = i by omega, List.getElem?_eq_getElem hi]; rfl
theorem pv_succ {l : List UInt8} {i : Nat} (hi : i < l.length) : pv l (i + 1) = l[i] := by simp [pv, hi]
def endAt (l : List UInt8) (i : Nat) : Bool := endB (pv2 l i) (pv l i) (l.getD i 0) (nxt (l.drop (i + 1)))
theorem senAt_yes {l : List UInt8} {a i : Nat} (h : a ≤ i) (hi : i < l.length) (he : endAt l i = true) : senAt l a i = trimS (seg l a (i + 1)) :: senAt l (i + 1) (i + 1) := by
  have hg : l.getD i 0 = l[i] := by simp [hi]
  rw [endAt, hg] at he
  rw [senAt, List.drop_eq_getElem_cons hi, sen, if_pos he, senAt, seg_nil, pv_succ hi, seg_succ h hi]; rfl
theorem senAt_no {l : List UInt8} {a i : Nat} (h : a ≤ i) (hi : i < l.length) (he : endAt l i = false) : senAt l a i = senAt l a (i + 1) := by
  have hg : l.getD i 0 = l[i] := by simp [hi]
  rw [endAt, hg] at he
  rw [senAt, List.drop_eq_getElem_cons hi, sen, if_neg (by rw [he]; simp), senAt, pv_succ hi, seg_succ h hi]; rfl
theorem senAt_end {l : List UInt8} {a i : Nat} (h : a ≤ i) (hi : l.length ≤ i) : senAt l a i = if trimS (l.drop a) = [] then [] else [trimS (l.drop a)] := by
  rw [senAt, List.drop_of_length_le hi, sen, seg, List.take_of_length_le (by simp; omega)]
theorem senOf_at (l : List UInt8) : senOf l = senAt l 0 0 := by simp [senOf, senAt, seg, pv, pv2]
theorem bts_ext (s : ByteArray) (a b : Nat) : bts (s.extract a b) = seg (bts s) a b := by
  rw [bts_extract]; rfl
theorem ba_bts (s : ByteArray) : ba (bts s) = s := bts_inj (bts_mk _)
theorem bat_nat {s : ByteArray} {i : Nat} (h : i < (bts s).length) : bat s i = (((bts s)[i]).toNat : Int) := bat_get h
theorem trimL_loop {w0 : World} {R : Ending → World → Prop} : ∀ (g : Nat) (s : ByteArray), s.size = g → Fin R [] [] w0 (.string (ba (dropL (bts s)))) → trimL_c0 s 32 w0 R
  | 0, s, hg, H => by
    apply trimL_c0_vc
    refine no (by omega) (finEq H ?_)
    have : bts s = [] := List.length_eq_zero_iff.1 (by rw [bts_len]; exact hg)
    rw [this, dropL, ← this, ba_bts]
  | g + 1, s, hg, H => by
    apply trimL_c0_vc
    have hl := bts_len s
    obtain ⟨c, r, hc⟩ : ∃ c r, bts s = c :: r := by
      cases h : bts s with
      | nil => rw [h] at hl; simp at hl; omega
      | cons c r => exact ⟨c, r, rfl⟩
    have hb : bat s 0 = (c.toNat : Int) := by
      have := bat_nat (s := s) (i := 0) (by rw [hl]; omega)
      simpa [hc] using this
    refine yes (by omega) ⟨by omega, fun h => ⟨by omega, ?_⟩, fun h => finEq H ?_⟩
    · rintro _ rfl
      have hd : bts (s.extract (Int.toNat 1) s.size) = r := by
        rw [bts_ext, hc, seg, show Int.toNat 1 = 1 by rfl, List.drop_one, List.tail_cons, List.take_of_length_le (by rw [hc] at hl; simp at hl; omega)]
      refine trimL_loop g _ (by rw [← bts_len, hd]; rw [hc] at hl; simp at hl; omega) ?_
      rw [hd]
      rw [hc, dropL, if_pos (spT (by omega))] at H
      exact H
    · rw [hc, dropL, if_neg (spF (by omega)), ← hc, ba_bts]
theorem snoc_of {s : ByteArray} {g : Nat} (hg : s.size = g + 1) : ∃ r c, bts s = r ++ [c] ∧ bat s (g : Int) = (c.toNat : Int) ∧ bts (s.extract 0 g) = r ∧ (s.extract 0 g).size = g := by
  have hl := bts_len s
  have hne : bts s ≠ [] := fun h => by rw [h] at hl; simp at hl; omega
  refine ⟨(bts s).dropLast, (bts s).getLast hne, (List.dropLast_concat_getLast hne).symm, ?_, ?_, ?_⟩
  · rw [bat_nat (by omega), List.getLast_eq_getElem]
    simp only [show (bts s).length - 1 = g by omega]
  · rw [bts_ext, seg, List.drop_zero, List.dropLast_eq_take, hl, hg]; rfl
  · rw [← bts_len, bts_ext, seg]; simp; omega
theorem trimR_loop {w0 : World} {R : Ending → World → Prop} : ∀ (g : Nat) (s : ByteArray), s.size = g → g ≤ 9223372036854775807 → Fin R [] [] w0 (.string (ba (dropR (bts s)))) → trimR_c0 s 32 w0 R
  | 0, s, hg, _, H => by
    apply trimR_c0_vc
    refine no (by omega) (finEq H ?_)
    have : bts s = [] := List.length_eq_zero_iff.1 (by rw [bts_len]; exact hg)
    rw [this, dropR, ← this, ba_bts]
  | g + 1, s, hg, hle, H => by
    apply trimR_c0_vc
    obtain ⟨r, c, hc, hb, hd, hz⟩ := snoc_of hg
    rw [wi64 (by omega), show (s.size : Int) - 1 = (g : Int) by omega]
    refine yes (by omega) ⟨by omega, fun h => ⟨by omega, ?_⟩, fun h => finEq H ?_⟩
    · rintro _ rfl
      rw [Int.toNat_natCast]
      refine trimR_loop g _ hz (by omega) ?_
      rw [hd]
      rw [hc, dropR_snoc, if_pos (spT (by omega))] at H
      exact H
    · rw [hc, dropR_snoc, if_neg (spF (by omega)), ← hc, ba_bts]
theorem dropR_len : ∀ l : List UInt8, (dropR l).length ≤ l.length
  | [] => Nat.le_refl _
  | c :: r => by
    have := dropR_len r
    rw [dropR]; split <;> simp <;> omega
theorem dropL_len : ∀ l : List UInt8, (dropL l).length ≤ l.length
  | [] => Nat.le_refl _
  | c :: r => by
    have := dropL_len r
    rw [dropL]; split <;> simp; omega
theorem trimS_len (l : List UInt8) : (trimS l).length ≤ l.length := Nat.le_trans (dropL_len _) (dropR_len _)
theorem trim_c (s : ByteArray) (hs : s.size ≤ 9223372036854775807) : PureC Tryd.prog 88 ⟨[.string s, .string ⟨#[32]⟩]⟩ (.string (ba (trimS (bts s)))) := by
  intro W
  refine trim_vc s (Mem.start [] W) ⟨fun h => finPure ?_, fun h => ⟨fun h2 => absurd h2 (by decide), fun _ => ⟨ba (dropR (bts s)), ?_, ba (trimS (bts s)), ?_, finPure rfl⟩⟩⟩
  · rw [h]; rfl
  · exact QCall.pw fun W _ => trimR_vc s 32 (Mem.start [] W) (trimR_loop s.size s rfl hs (finPure rfl))
  · refine QCall.pw fun W _ => trimL_vc _ 32 (Mem.start [] W) (trimL_loop _ _ rfl (finPure ?_))
    rw [bts_mk]; rfl
end Go.Eng
namespace Go.Eng
open Go Go.RowKit Go.Proofs
set_option linter.unusedVariables false
set_option maxRecDepth 100000
noncomputable abbrev EngB11s86 := sub (Eng.body Tryd.f86)
def iter_c0 (B : Nat) (yl1 : Nat) (start : Int) (atv : Int) (m0 : ByteArray) (F1 : SHeap) (S : List Nat) (w0 : World) (R : Ending → World → Prop) : Prop :=
 AtE Tryd.prog 86 55 [.code (EngB11s86 [0,1,1,0,1,0,0]), .inLoop (EngB11s86 [0,1,1,0,1,0,0]), .inBlock 0, .code (EngB11s86 [0,1,1,1]), .inScope (EngB11s86 [0])] [(0, .func (.yield yl1) #[] #[]), (1, .pointer (some ⟨B, 0, none⟩)), (3, .int .i64 start), (4, .int .i64 atv)] ((B, .cells #[.string m0] 9) :: F1) S w0 (nrm R)
theorem iter_c0_vc (B : Nat) (yl1 : Nat) (start : Int) (atv : Int) (m0 : ByteArray) (F1 : SHeap) {R : Ending → World → Prop} {S : List Nat} {w0 : World}
  (H :
   ((atv < (m0.size : Int)) →
    (0 ≤ atv ∧ atv < m0.size) ∧
    (((bat m0 atv) = (46 : Int)) →
     CallH Tryd.prog 87 ⟨[.string m0, .int .i64 atv]⟩ ((B, .cells #[.string m0] 9) :: F1) S w0 (fun v L' => ∃ (r1 : Bool), v = (.bool r1) ∧ L' = ((B, .cells #[.string m0] 9) :: F1) ∧
      ((r1 = true) →
       ∀ atv1 : Int, atv1 = (IntKind.i64.wrap (atv + (1 : Int))) →
       iter_c0 B yl1 start atv1 m0 F1 S w0 R) ∧
       ((r1 = false) →
       (((IntKind.i64.wrap (atv + (1 : Int))) < (m0.size : Int)) →
        (0 ≤ (IntKind.i64.wrap (atv + (1 : Int))) ∧ (IntKind.i64.wrap (atv + (1 : Int))) < m0.size) ∧
        ((¬ ((bat m0 (IntKind.i64.wrap (atv + (1 : Int)))) = (32 : Int))) →
         ∀ atv2 : Int, atv2 = (IntKind.i64.wrap (atv + (1 : Int))) →
         iter_c0 B yl1 start atv2 m0 F1 S w0 R) ∧
         (((bat m0 (IntKind.i64.wrap (atv + (1 : Int)))) = (32 : Int)) →
         (0 ≤ start ∧ start ≤ (IntKind.i64.wrap (atv + (1 : Int))) ∧ (IntKind.i64.wrap (atv + (1 : Int))) ≤ m0.size) ∧
         CallH Tryd.prog 88 ⟨[.string (m0.extract (Int.toNat start) (Int.toNat (IntKind.i64.wrap (atv + (1 : Int))))), .string (⟨#[32]⟩)]⟩ ((B, .cells #[.string m0] 9) :: F1) S w0 (fun v L' => ∃ (r21 : ByteArray), v = (.string r21) ∧ L' = ((B, .cells #[.string m0] 9) :: F1) ∧
          YieldH Tryd.prog yl1 ⟨[.string r21]⟩ ((B, .cells #[.string m0] 9) :: F1) S w0 (fun v L' => ∃ (go : Bool) (F2 : SHeap), v = .bool go ∧ L' = ((B, .cells #[.string m0] 9) :: F2) ∧
           ((go = true) →
            ∀ start1 : Int, start1 = (IntKind.i64.wrap (atv + (1 : Int))) →
            ∀ atv3 : Int, atv3 = (IntKind.i64.wrap (atv + (1 : Int))) →
            iter_c0 B yl1 start1 atv3 m0 F2 S w0 R) ∧
            ((go = false) →
            Fin R ((B, .cells #[.string m0] 9) :: F2) S w0 (.tuple #[])))))) ∧
        ((¬ ((IntKind.i64.wrap (atv + (1 : Int))) < (m0.size : Int))) →
        (0 ≤ start ∧ start ≤ (IntKind.i64.wrap (atv + (1 : Int))) ∧ (IntKind.i64.wrap (atv + (1 : Int))) ≤ m0.size) ∧
        CallH Tryd.prog 88 ⟨[.string (m0.extract (Int.toNat start) (Int.toNat (IntKind.i64.wrap (atv + (1 : Int))))), .string (⟨#[32]⟩)]⟩ ((B, .cells #[.string m0] 9) :: F1) S w0 (fun v L' => ∃ (r31 : ByteArray), v = (.string r31) ∧ L' = ((B, .cells #[.string m0] 9) :: F1) ∧
         YieldH Tryd.prog yl1 ⟨[.string r31]⟩ ((B, .cells #[.string m0] 9) :: F1) S w0 (fun v L' => ∃ (go1 : Bool) (F3 : SHeap), v = .bool go1 ∧ L' = ((B, .cells #[.string m0] 9) :: F3) ∧
          ((go1 = true) →
           ∀ start2 : Int, start2 = (IntKind.i64.wrap (atv + (1 : Int))) →
           ∀ atv4 : Int, atv4 = (IntKind.i64.wrap (atv + (1 : Int))) →
           iter_c0 B yl1 start2 atv4 m0 F3 S w0 R) ∧
           ((go1 = false) →
           Fin R ((B, .cells #[.string m0] 9) :: F3) S w0 (.tuple #[])))))))) ∧
     ((¬ ((bat m0 atv) = (46 : Int))) →
     (((bat m0 atv) = (33 : Int)) →
      (((IntKind.i64.wrap (atv + (1 : Int))) < (m0.size : Int)) →
       (0 ≤ (IntKind.i64.wrap (atv + (1 : Int))) ∧ (IntKind.i64.wrap (atv + (1 : Int))) < m0.size) ∧
       ((¬ ((bat m0 (IntKind.i64.wrap (atv + (1 : Int)))) = (32 : Int))) →
        ∀ atv5 : Int, atv5 = (IntKind.i64.wrap (atv + (1 : Int))) →
        iter_c0 B yl1 start atv5 m0 F1 S w0 R) ∧
        (((bat m0 (IntKind.i64.wrap (atv + (1 : Int)))) = (32 : Int)) →
        (0 ≤ start ∧ start ≤ (IntKind.i64.wrap (atv + (1 : Int))) ∧ (IntKind.i64.wrap (atv + (1 : Int))) ≤ m0.size) ∧
        CallH Tryd.prog 88 ⟨[.string (m0.extract (Int.toNat start) (Int.toNat (IntKind.i64.wrap (atv + (1 : Int))))), .string (⟨#[32]⟩)]⟩ ((B, .cells #[.string m0] 9) :: F1) S w0 (fun v L' => ∃ (r41 : ByteArray), v = (.string r41) ∧ L' = ((B, .cells #[.string m0] 9) :: F1) ∧
         YieldH Tryd.prog yl1 ⟨[.string r41]⟩ ((B, .cells #[.string m0] 9) :: F1) S w0 (fun v L' => ∃ (go2 : Bool) (F4 : SHeap), v = .bool go2 ∧ L' = ((B, .cells #[.string m0] 9) :: F4) ∧
          ((go2 = true) →
           ∀ start3 : Int, start3 = (IntKind.i64.wrap (atv + (1 : Int))) →
           ∀ atv6 : Int, atv6 = (IntKind.i64.wrap (atv + (1 : Int))) →
           iter_c0 B yl1 start3 atv6 m0 F4 S w0 R) ∧
           ((go2 = false) →
           Fin R ((B, .cells #[.string m0] 9) :: F4) S w0 (.tuple #[])))))) ∧
       ((¬ ((IntKind.i64.wrap (atv + (1 : Int))) < (m0.size : Int))) →
       (0 ≤ start ∧ start ≤ (IntKind.i64.wrap (atv + (1 : Int))) ∧ (IntKind.i64.wrap (atv + (1 : Int))) ≤ m0.size) ∧
       CallH Tryd.prog 88 ⟨[.string (m0.extract (Int.toNat start) (Int.toNat (IntKind.i64.wrap (atv + (1 : Int))))), .string (⟨#[32]⟩)]⟩ ((B, .cells #[.string m0] 9) :: F1) S w0 (fun v L' => ∃ (r51 : ByteArray), v = (.string r51) ∧ L' = ((B, .cells #[.string m0] 9) :: F1) ∧
        YieldH Tryd.prog yl1 ⟨[.string r51]⟩ ((B, .cells #[.string m0] 9) :: F1) S w0 (fun v L' => ∃ (go3 : Bool) (F5 : SHeap), v = .bool go3 ∧ L' = ((B, .cells #[.string m0] 9) :: F5) ∧
         ((go3 = true) →
          ∀ start4 : Int, start4 = (IntKind.i64.wrap (atv + (1 : Int))) →
          ∀ atv7 : Int, atv7 = (IntKind.i64.wrap (atv + (1 : Int))) →
          iter_c0 B yl1 start4 atv7 m0 F5 S w0 R) ∧
          ((go3 = false) →
          Fin R ((B, .cells #[.string m0] 9) :: F5) S w0 (.tuple #[])))))) ∧
      ((¬ ((bat m0 atv) = (33 : Int))) →
      (((bat m0 atv) = (63 : Int)) →
       (((IntKind.i64.wrap (atv + (1 : Int))) < (m0.size : Int)) →
        (0 ≤ (IntKind.i64.wrap (atv + (1 : Int))) ∧ (IntKind.i64.wrap (atv + (1 : Int))) < m0.size) ∧
        ((¬ ((bat m0 (IntKind.i64.wrap (atv + (1 : Int)))) = (32 : Int))) →
         ∀ atv8 : Int, atv8 = (IntKind.i64.wrap (atv + (1 : Int))) →
         iter_c0 B yl1 start atv8 m0 F1 S w0 R) ∧
         (((bat m0 (IntKind.i64.wrap (atv + (1 : Int)))) = (32 : Int)) →
         (0 ≤ start ∧ start ≤ (IntKind.i64.wrap (atv + (1 : Int))) ∧ (IntKind.i64.wrap (atv + (1 : Int))) ≤ m0.size) ∧
         CallH Tryd.prog 88 ⟨[.string (m0.extract (Int.toNat start) (Int.toNat (IntKind.i64.wrap (atv + (1 : Int))))), .string (⟨#[32]⟩)]⟩ ((B, .cells #[.string m0] 9) :: F1) S w0 (fun v L' => ∃ (r61 : ByteArray), v = (.string r61) ∧ L' = ((B, .cells #[.string m0] 9) :: F1) ∧
          YieldH Tryd.prog yl1 ⟨[.string r61]⟩ ((B, .cells #[.string m0] 9) :: F1) S w0 (fun v L' => ∃ (go4 : Bool) (F6 : SHeap), v = .bool go4 ∧ L' = ((B, .cells #[.string m0] 9) :: F6) ∧
           ((go4 = true) →
            ∀ start5 : Int, start5 = (IntKind.i64.wrap (atv + (1 : Int))) →
            ∀ atv9 : Int, atv9 = (IntKind.i64.wrap (atv + (1 : Int))) →
            iter_c0 B yl1 start5 atv9 m0 F6 S w0 R) ∧
            ((go4 = false) →
            Fin R ((B, .cells #[.string m0] 9) :: F6) S w0 (.tuple #[])))))) ∧
        ((¬ ((IntKind.i64.wrap (atv + (1 : Int))) < (m0.size : Int))) →
        (0 ≤ start ∧ start ≤ (IntKind.i64.wrap (atv + (1 : Int))) ∧ (IntKind.i64.wrap (atv + (1 : Int))) ≤ m0.size) ∧
        CallH Tryd.prog 88 ⟨[.string (m0.extract (Int.toNat start) (Int.toNat (IntKind.i64.wrap (atv + (1 : Int))))), .string (⟨#[32]⟩)]⟩ ((B, .cells #[.string m0] 9) :: F1) S w0 (fun v L' => ∃ (r71 : ByteArray), v = (.string r71) ∧ L' = ((B, .cells #[.string m0] 9) :: F1) ∧
         YieldH Tryd.prog yl1 ⟨[.string r71]⟩ ((B, .cells #[.string m0] 9) :: F1) S w0 (fun v L' => ∃ (go5 : Bool) (F7 : SHeap), v = .bool go5 ∧ L' = ((B, .cells #[.string m0] 9) :: F7) ∧
          ((go5 = true) →
           ∀ start6 : Int, start6 = (IntKind.i64.wrap (atv + (1 : Int))) →
           ∀ atv10 : Int, atv10 = (IntKind.i64.wrap (atv + (1 : Int))) →
           iter_c0 B yl1 start6 atv10 m0 F7 S w0 R) ∧
           ((go5 = false) →
           Fin R ((B, .cells #[.string m0] 9) :: F7) S w0 (.tuple #[])))))) ∧
       ((¬ ((bat m0 atv) = (63 : Int))) →
       ∀ atv11 : Int, atv11 = (IntKind.i64.wrap (atv + (1 : Int))) →
       iter_c0 B yl1 start atv11 m0 F1 S w0 R)))) ∧
    ((¬ (atv < (m0.size : Int))) →
    (0 ≤ start ∧ start ≤ (m0.size : Int) ∧ (m0.size : Int) ≤ m0.size) ∧
    CallH Tryd.prog 88 ⟨[.string (m0.extract (Int.toNat start) m0.size), .string (⟨#[32]⟩)]⟩ ((B, .cells #[.string m0] 9) :: F1) S w0 (fun v L' => ∃ (r81 : ByteArray), v = (.string r81) ∧ L' = ((B, .cells #[.string m0] 9) :: F1) ∧
     ((¬ r81 = (⟨#[]⟩ : ByteArray)) →
      YieldH Tryd.prog yl1 ⟨[.string r81]⟩ ((B, .cells #[.string m0] 9) :: F1) S w0 (fun v L' => ∃ (go6 : Bool) (F8 : SHeap), v = .bool go6 ∧ L' = ((B, .cells #[.string m0] 9) :: F8) ∧
       Fin R ((B, .cells #[.string m0] 9) :: F8) S w0 (.tuple #[]))) ∧
      ((r81 = (⟨#[]⟩ : ByteArray)) →
      Fin R ((B, .cells #[.string m0] 9) :: F1) S w0 (.tuple #[]))))) :
  iter_c0 B yl1 start atv m0 F1 S w0 R := by
 unfold iter_c0
 refine AtE.run 4 (fun W => by kernel_rfl) ?_
 refine AtE.load 0 0 (T := 9) (v := .string m0) (by kernel_rfl) ?_
 refine AtE.run 3 (fun W => by kernel_rfl) ?_
 refine AtE.splitP 9 (p := atv < (m0.size : Int)) (by kernel_rfl) (fun h1' => ?_) (fun h1' => ?_)
 ·replace H := H.1 h1'
  refine AtE.run 7 (fun W => by kernel_rfl) ?_
  refine AtE.load 0 0 (T := 9) (v := .string m0) (by kernel_rfl) ?_
  refine AtE.run 1 (fun W => by kernel_rfl) ?_
  refine AtE.indexS (s := m0) (kd := .i64) (i := atv) (by kernel_rfl) H.1 ?_
  replace H := H.2
  refine AtE.run 7 (fun W => by kernel_rfl) ?_
  refine AtE.splitP 15 (p := (bat m0 atv) = (46 : Int)) (by kernel_rfl) (fun h2' => ?_) (fun h2' => ?_)
  ·replace H := H.1 h2'
   refine AtE.run 3 (fun W => by kernel_rfl) ?_
   refine AtE.load 0 0 (T := 9) (v := .string m0) (by kernel_rfl) ?_
   refine AtE.run 1 (fun W => by kernel_rfl) ?_
   refine AtE.call 87 ⟨[.string m0, .int .i64 atv]⟩ (fun W => by kernel_rfl) (by kernel_rfl) H ?_
   clear H
   rintro _ _ ⟨r1, rfl, rfl, H⟩
   refine AtE.norm (k' := [.inRegion (regOps [.code (EngB11s86 [0,1,1,0,1,0,0,1,0,0,0,1,0,1,0,0])]) [], .code (EngB11s86 [0,1,1,0,1,0,0,1,0,0,0,1,0,1,0,1]), .inBlock 2, .code (EngB11s86 [0,1,1,0,1,0,0,1,0,0,1]), .inBlock 1, .code (EngB11s86 [0,1,1,0,1,0,0,1,1]), .inLoop (EngB11s86 [0,1,1,0,1,0,0]), .inBlock 0, .code (EngB11s86 [0,1,1,1]), .inScope (EngB11s86 [0])]) (e' := [(0, .func (.yield yl1) #[] #[]), (1, .pointer (some ⟨B, 0, none⟩)), (3, .int .i64 start), (4, .int .i64 atv), (19, .bool r1)]) (L' := ((B, .cells #[.string m0] 9) :: F1)) ?_ (by kernel_rfl)
   refine AtE.run 1 (fun W => by kernel_rfl) ?_
   refine AtE.split 19 (b := r1) (by kernel_rfl) (fun h3' => ?_) (fun h3' => ?_)
   ·replace H := H.1 h3'
    refine AtE.run 6 (fun W => by kernel_rfl) ?_
    refine AtE.letI 4 (kd := .i64) (n := (IntKind.i64.wrap (atv + (1 : Int)))) (by kernel_rfl) (fun atv1 hatv1 => ?_)
    replace H := H atv1 hatv1
    refine AtE.run 2 (fun W => by kernel_rfl) ?_
    exact AtE.cutT [0] 1 H (by kernel_rfl)
   ·replace H := H.2 h3'
    refine AtE.run 8 (fun W => by kernel_rfl) ?_
    refine AtE.load 0 0 (T := 9) (v := .string m0) (by kernel_rfl) ?_
    refine AtE.run 3 (fun W => by kernel_rfl) ?_
    refine AtE.splitP 28 (p := (IntKind.i64.wrap (atv + (1 : Int))) < (m0.size : Int)) (by kernel_rfl) (fun h4' => ?_) (fun h4' => ?_)
    ·replace H := H.1 h4'
     refine AtE.load 0 0 (T := 9) (v := .string m0) (by kernel_rfl) ?_
     refine AtE.run 2 (fun W => by kernel_rfl) ?_
     refine AtE.indexS (s := m0) (kd := .i64) (i := (IntKind.i64.wrap (atv + (1 : Int)))) (by kernel_rfl) H.1 ?_
     replace H := H.2
     refine AtE.run 3 (fun W => by kernel_rfl) ?_
     refine AtE.splitN 34 (p := (bat m0 (IntKind.i64.wrap (atv + (1 : Int)))) = (32 : Int)) (by kernel_rfl) (fun h5' => ?_) (fun h5' => ?_)
     ·replace H := H.1 h5'
      refine AtE.run 6 (fun W => by kernel_rfl) ?_
      refine AtE.letI 4 (kd := .i64) (n := (IntKind.i64.wrap (atv + (1 : Int)))) (by kernel_rfl) (fun atv2 hatv2 => ?_)
      replace H := H atv2 hatv2
      refine AtE.norm (k' := [.inRegion (regOps [.code (EngB11s86 [0,1,1,0,1,0,0,1,1])]) [], .inLoop (EngB11s86 [0,1,1,0,1,0,0]), .inBlock 0, .code (EngB11s86 [0,1,1,1]), .inScope (EngB11s86 [0])]) (e' := [(0, .func (.yield yl1) #[] #[]), (1, .pointer (some ⟨B, 0, none⟩)), (3, .int .i64 start), (4, .int .i64 atv2)]) (L' := ((B, .cells #[.string m0] 9) :: F1)) ?_ (by kernel_rfl)
      refine AtE.run 2 (fun W => by kernel_rfl) ?_
      exact AtE.cutT [0] 1 H (by kernel_rfl)
     ·replace H := H.2 h5'
      refine AtE.run 6 (fun W => by kernel_rfl) ?_
      refine AtE.load 0 0 (T := 9) (v := .string m0) (by kernel_rfl) ?_
      refine AtE.norm (k' := [.inRegion (regOps [.code (EngB11s86 [0,1,1,0,1,0,0,1,0,0,1,1,0,0])]) [2,3,4,5,6,7,8], .code (EngB11s86 [0,1,1,0,1,0,0,1,0,0,1,1,0,1]), .code (EngB11s86 [0,1,1,0,1,0,0,1,0,0,1,1,1]), .inBlock 1, .code (EngB11s86 [0,1,1,0,1,0,0,1,1]), .inLoop (EngB11s86 [0,1,1,0,1,0,0]), .inBlock 0, .code (EngB11s86 [0,1,1,1]), .inScope (EngB11s86 [0])]) (e' := [(0, .func (.yield yl1) #[] #[]), (1, .pointer (some ⟨B, 0, none⟩)), (3, .int .i64 start), (4, .int .i64 atv), (35, .func (.yield yl1) #[] #[]), (36, .string m0)]) (L' := ((B, .cells #[.string m0] 9) :: F1)) ?_ (by kernel_rfl)
      refine AtE.run 3 (fun W => by kernel_rfl) ?_
      refine AtE.sliceS (s := m0) (lo := some (.int .i64 start)) (hi := some (.int .i64 (IntKind.i64.wrap (atv + (1 : Int))))) (a := start) (b := (IntKind.i64.wrap (atv + (1 : Int)))) (by kernel_rfl) (.inl ⟨.i64, rfl⟩) (.inl ⟨.i64, rfl⟩) H.1 ?_
      replace H := H.2
      refine AtE.call 88 ⟨[.string (m0.extract (Int.toNat start) (Int.toNat (IntKind.i64.wrap (atv + (1 : Int))))), .string (⟨#[32]⟩)]⟩ (fun W => by kernel_rfl) (by kernel_rfl) H ?_
      clear H
      rintro _ _ ⟨r21, rfl, rfl, H⟩
      refine AtE.yield yl1 ⟨[.string r21]⟩ (fun W => by kernel_rfl) (by kernel_rfl) H ?_
      clear H
      rintro _ _ ⟨go, F2, rfl, rfl, H⟩
      refine AtE.split 42 (b := go) (by kernel_rfl) (fun h6' => ?_) (fun h6' => ?_)
      ·replace H := H.1 h6'
       refine AtE.run 8 (fun W => by kernel_rfl) ?_
       refine AtE.letI 3 (kd := .i64) (n := (IntKind.i64.wrap (atv + (1 : Int)))) (by kernel_rfl) (fun start1 hstart1 => ?_)
       replace H := H start1 hstart1
       refine AtE.run 6 (fun W => by kernel_rfl) ?_
       refine AtE.letI 4 (kd := .i64) (n := (IntKind.i64.wrap (atv + (1 : Int)))) (by kernel_rfl) (fun atv3 hatv3 => ?_)
       replace H := H atv3 hatv3
       refine AtE.run 2 (fun W => by kernel_rfl) ?_
       exact AtE.cutT [0] 1 H (by kernel_rfl)
      ·replace H := H.2 h6'
       refine AtE.run 3 (fun W => by kernel_rfl) ?_
       exact AtE.ret Tryd.func86 (by kernel_rfl) H
    ·replace H := H.2 h4'
     refine AtE.run 13 (fun W => by kernel_rfl) ?_
     refine AtE.load 0 0 (T := 9) (v := .string m0) (by kernel_rfl) ?_
     refine AtE.run 3 (fun W => by kernel_rfl) ?_
     refine AtE.sliceS (s := m0) (lo := some (.int .i64 start)) (hi := some (.int .i64 (IntKind.i64.wrap (atv + (1 : Int))))) (a := start) (b := (IntKind.i64.wrap (atv + (1 : Int)))) (by kernel_rfl) (.inl ⟨.i64, rfl⟩) (.inl ⟨.i64, rfl⟩) H.1 ?_
     replace H := H.2
     refine AtE.call 88 ⟨[.string (m0.extract (Int.toNat start) (Int.toNat (IntKind.i64.wrap (atv + (1 : Int))))), .string (⟨#[32]⟩)]⟩ (fun W => by kernel_rfl) (by kernel_rfl) H ?_
     clear H
     rintro _ _ ⟨r31, rfl, rfl, H⟩
     refine AtE.yield yl1 ⟨[.string r31]⟩ (fun W => by kernel_rfl) (by kernel_rfl) H ?_
     clear H
     rintro _ _ ⟨go1, F3, rfl, rfl, H⟩
     refine AtE.norm (k' := [.inRegion (regOps [.code (EngB11s86 [0,1,1,0,1,0,0,1,0,0,1,1,0,0])]) [8], .code (EngB11s86 [0,1,1,0,1,0,0,1,0,0,1,1,0,1]), .code (EngB11s86 [0,1,1,0,1,0,0,1,0,0,1,1,1]), .inBlock 1, .code (EngB11s86 [0,1,1,0,1,0,0,1,1]), .inLoop (EngB11s86 [0,1,1,0,1,0,0]), .inBlock 0, .code (EngB11s86 [0,1,1,1]), .inScope (EngB11s86 [0])]) (e' := [(0, .func (.yield yl1) #[] #[]), (1, .pointer (some ⟨B, 0, none⟩)), (4, .int .i64 atv), (42, .bool go1)]) (L' := ((B, .cells #[.string m0] 9) :: F3)) ?_ (by kernel_rfl)
     refine AtE.split 42 (b := go1) (by kernel_rfl) (fun h7' => ?_) (fun h7' => ?_)
     ·replace H := H.1 h7'
      refine AtE.run 8 (fun W => by kernel_rfl) ?_
      refine AtE.letI 3 (kd := .i64) (n := (IntKind.i64.wrap (atv + (1 : Int)))) (by kernel_rfl) (fun start2 hstart2 => ?_)
      replace H := H start2 hstart2
      refine AtE.run 6 (fun W => by kernel_rfl) ?_
      refine AtE.letI 4 (kd := .i64) (n := (IntKind.i64.wrap (atv + (1 : Int)))) (by kernel_rfl) (fun atv4 hatv4 => ?_)
      replace H := H atv4 hatv4
      refine AtE.run 2 (fun W => by kernel_rfl) ?_
      exact AtE.cutT [0] 1 H (by kernel_rfl)
     ·replace H := H.2 h7'
      refine AtE.run 3 (fun W => by kernel_rfl) ?_
      exact AtE.ret Tryd.func86 (by kernel_rfl) H
  ·replace H := H.2 h2'
   refine AtE.run 7 (fun W => by kernel_rfl) ?_
   refine AtE.splitP 20 (p := (bat m0 atv) = (33 : Int)) (by kernel_rfl) (fun h8' => ?_) (fun h8' => ?_)
   ·replace H := H.1 h8'
    refine AtE.run 10 (fun W => by kernel_rfl) ?_
    refine AtE.load 0 0 (T := 9) (v := .string m0) (by kernel_rfl) ?_
    refine AtE.norm (k' := [.inRegion (regOps [.code (EngB11s86 [0,1,1,0,1,0,0,1,0,0,1,0,0])]) [3,4,5,6,7,8,9,10,11], .code (EngB11s86 [0,1,1,0,1,0,0,1,0,0,1,0,1]), .code (EngB11s86 [0,1,1,0,1,0,0,1,0,0,1,1]), .inBlock 1, .code (EngB11s86 [0,1,1,0,1,0,0,1,1]), .inLoop (EngB11s86 [0,1,1,0,1,0,0]), .inBlock 0, .code (EngB11s86 [0,1,1,1]), .inScope (EngB11s86 [0])]) (e' := [(0, .func (.yield yl1) #[] #[]), (1, .pointer (some ⟨B, 0, none⟩)), (3, .int .i64 start), (4, .int .i64 atv), (24, .int .i64 (IntKind.i64.wrap (atv + (1 : Int)))), (25, .string m0)]) (L' := ((B, .cells #[.string m0] 9) :: F1)) ?_ (by kernel_rfl)
    refine AtE.run 3 (fun W => by kernel_rfl) ?_
    refine AtE.splitP 28 (p := (IntKind.i64.wrap (atv + (1 : Int))) < (m0.size : Int)) (by kernel_rfl) (fun h9' => ?_) (fun h9' => ?_)
    ·replace H := H.1 h9'
     refine AtE.load 0 0 (T := 9) (v := .string m0) (by kernel_rfl) ?_
     refine AtE.run 2 (fun W => by kernel_rfl) ?_
     refine AtE.indexS (s := m0) (kd := .i64) (i := (IntKind.i64.wrap (atv + (1 : Int)))) (by kernel_rfl) H.1 ?_
     replace H := H.2
     refine AtE.run 3 (fun W => by kernel_rfl) ?_
     refine AtE.splitN 34 (p := (bat m0 (IntKind.i64.wrap (atv + (1 : Int)))) = (32 : Int)) (by kernel_rfl) (fun h10' => ?_) (fun h10' => ?_)
     ·replace H := H.1 h10'
      refine AtE.run 6 (fun W => by kernel_rfl) ?_
      refine AtE.letI 4 (kd := .i64) (n := (IntKind.i64.wrap (atv + (1 : Int)))) (by kernel_rfl) (fun atv5 hatv5 => ?_)
      replace H := H atv5 hatv5
      refine AtE.run 2 (fun W => by kernel_rfl) ?_
      exact AtE.cutT [0] 1 H (by kernel_rfl)
     ·replace H := H.2 h10'
      refine AtE.run 6 (fun W => by kernel_rfl) ?_
      refine AtE.load 0 0 (T := 9) (v := .string m0) (by kernel_rfl) ?_
      refine AtE.run 3 (fun W => by kernel_rfl) ?_
      refine AtE.sliceS (s := m0) (lo := some (.int .i64 start)) (hi := some (.int .i64 (IntKind.i64.wrap (atv + (1 : Int))))) (a := start) (b := (IntKind.i64.wrap (atv + (1 : Int)))) (by kernel_rfl) (.inl ⟨.i64, rfl⟩) (.inl ⟨.i64, rfl⟩) H.1 ?_
      replace H := H.2
      refine AtE.call 88 ⟨[.string (m0.extract (Int.toNat start) (Int.toNat (IntKind.i64.wrap (atv + (1 : Int))))), .string (⟨#[32]⟩)]⟩ (fun W => by kernel_rfl) (by kernel_rfl) H ?_
      clear H
      rintro _ _ ⟨r41, rfl, rfl, H⟩
      refine AtE.norm (k' := [.inRegion (regOps [.code (EngB11s86 [0,1,1,0,1,0,0,1,0,0,1,1,0,0])]) [7,8], .code (EngB11s86 [0,1,1,0,1,0,0,1,0,0,1,1,0,1]), .code (EngB11s86 [0,1,1,0,1,0,0,1,0,0,1,1,1]), .inBlock 1, .code (EngB11s86 [0,1,1,0,1,0,0,1,1]), .inLoop (EngB11s86 [0,1,1,0,1,0,0]), .inBlock 0, .code (EngB11s86 [0,1,1,1]), .inScope (EngB11s86 [0])]) (e' := [(0, .func (.yield yl1) #[] #[]), (1, .pointer (some ⟨B, 0, none⟩)), (4, .int .i64 atv), (35, .func (.yield yl1) #[] #[]), (41, .string r41)]) (L' := ((B, .cells #[.string m0] 9) :: F1)) ?_ (by kernel_rfl)
      refine AtE.yield yl1 ⟨[.string r41]⟩ (fun W => by kernel_rfl) (by kernel_rfl) H ?_
      clear H
      rintro _ _ ⟨go2, F4, rfl, rfl, H⟩
      refine AtE.split 42 (b := go2) (by kernel_rfl) (fun h11' => ?_) (fun h11' => ?_)
      ·replace H := H.1 h11'
       refine AtE.run 8 (fun W => by kernel_rfl) ?_
       refine AtE.letI 3 (kd := .i64) (n := (IntKind.i64.wrap (atv + (1 : Int)))) (by kernel_rfl) (fun start3 hstart3 => ?_)
       replace H := H start3 hstart3
       refine AtE.run 6 (fun W => by kernel_rfl) ?_
       refine AtE.letI 4 (kd := .i64) (n := (IntKind.i64.wrap (atv + (1 : Int)))) (by kernel_rfl) (fun atv6 hatv6 => ?_)
       replace H := H atv6 hatv6
       refine AtE.run 2 (fun W => by kernel_rfl) ?_
       exact AtE.cutT [0] 1 H (by kernel_rfl)
      ·replace H := H.2 h11'
       refine AtE.run 3 (fun W => by kernel_rfl) ?_
       exact AtE.ret Tryd.func86 (by kernel_rfl) H
    ·replace H := H.2 h9'
     refine AtE.run 13 (fun W => by kernel_rfl) ?_
     refine AtE.load 0 0 (T := 9) (v := .string m0) (by kernel_rfl) ?_
     refine AtE.run 3 (fun W => by kernel_rfl) ?_
     refine AtE.sliceS (s := m0) (lo := some (.int .i64 start)) (hi := some (.int .i64 (IntKind.i64.wrap (atv + (1 : Int))))) (a := start) (b := (IntKind.i64.wrap (atv + (1 : Int)))) (by kernel_rfl) (.inl ⟨.i64, rfl⟩) (.inl ⟨.i64, rfl⟩) H.1 ?_
     replace H := H.2
     refine AtE.call 88 ⟨[.string (m0.extract (Int.toNat start) (Int.toNat (IntKind.i64.wrap (atv + (1 : Int))))), .string (⟨#[32]⟩)]⟩ (fun W => by kernel_rfl) (by kernel_rfl) H ?_
     clear H
     rintro _ _ ⟨r51, rfl, rfl, H⟩
     refine AtE.yield yl1 ⟨[.string r51]⟩ (fun W => by kernel_rfl) (by kernel_rfl) H ?_
     clear H
     rintro _ _ ⟨go3, F5, rfl, rfl, H⟩
     refine AtE.split 42 (b := go3) (by kernel_rfl) (fun h12' => ?_) (fun h12' => ?_)
     ·replace H := H.1 h12'
      refine AtE.run 8 (fun W => by kernel_rfl) ?_
      refine AtE.letI 3 (kd := .i64) (n := (IntKind.i64.wrap (atv + (1 : Int)))) (by kernel_rfl) (fun start4 hstart4 => ?_)
      replace H := H start4 hstart4
      refine AtE.norm (k' := [.inRegion (regOps [.code (EngB11s86 [0,1,1,0,1,0,0,1,0,0,1,1,1])]) [], .inBlock 1, .code (EngB11s86 [0,1,1,0,1,0,0,1,1]), .inLoop (EngB11s86 [0,1,1,0,1,0,0]), .inBlock 0, .code (EngB11s86 [0,1,1,1]), .inScope (EngB11s86 [0])]) (e' := [(0, .func (.yield yl1) #[] #[]), (1, .pointer (some ⟨B, 0, none⟩)), (3, .int .i64 start4), (4, .int .i64 atv)]) (L' := ((B, .cells #[.string m0] 9) :: F5)) ?_ (by kernel_rfl)
      refine AtE.run 6 (fun W => by kernel_rfl) ?_
      refine AtE.letI 4 (kd := .i64) (n := (IntKind.i64.wrap (atv + (1 : Int)))) (by kernel_rfl) (fun atv7 hatv7 => ?_)
      replace H := H atv7 hatv7
      refine AtE.run 2 (fun W => by kernel_rfl) ?_
      exact AtE.cutT [0] 1 H (by kernel_rfl)
     ·replace H := H.2 h12'
      refine AtE.run 3 (fun W => by kernel_rfl) ?_
      exact AtE.ret Tryd.func86 (by kernel_rfl) H
   ·replace H := H.2 h8'
    refine AtE.run 5 (fun W => by kernel_rfl) ?_
    refine AtE.splitP 20 (p := (bat m0 atv) = (63 : Int)) (by kernel_rfl) (fun h13' => ?_) (fun h13' => ?_)
    ·replace H := H.1 h13'
     refine AtE.norm (k' := [.code (EngB11s86 [0,1,1,0,1,0,0,1,0,0,0,1,0,1,1,1]), .inBlock 2, .code (EngB11s86 [0,1,1,0,1,0,0,1,0,0,1]), .inBlock 1, .code (EngB11s86 [0,1,1,0,1,0,0,1,1]), .inLoop (EngB11s86 [0,1,1,0,1,0,0]), .inBlock 0, .code (EngB11s86 [0,1,1,1]), .inScope (EngB11s86 [0])]) (e' := [(0, .func (.yield yl1) #[] #[]), (1, .pointer (some ⟨B, 0, none⟩)), (3, .int .i64 start), (4, .int .i64 atv), (20, .bool true)]) (L' := ((B, .cells #[.string m0] 9) :: F1)) ?_ (by kernel_rfl)
     refine AtE.run 8 (fun W => by kernel_rfl) ?_
     refine AtE.load 0 0 (T := 9) (v := .string m0) (by kernel_rfl) ?_
     refine AtE.run 3 (fun W => by kernel_rfl) ?_
     refine AtE.splitP 28 (p := (IntKind.i64.wrap (atv + (1 : Int))) < (m0.size : Int)) (by kernel_rfl) (fun h14' => ?_) (fun h14' => ?_)
     ·replace H := H.1 h14'
      refine AtE.load 0 0 (T := 9) (v := .string m0) (by kernel_rfl) ?_
      refine AtE.run 2 (fun W => by kernel_rfl) ?_
      refine AtE.indexS (s := m0) (kd := .i64) (i := (IntKind.i64.wrap (atv + (1 : Int)))) (by kernel_rfl) H.1 ?_
      replace H := H.2
      refine AtE.run 3 (fun W => by kernel_rfl) ?_
      refine AtE.splitN 34 (p := (bat m0 (IntKind.i64.wrap (atv + (1 : Int)))) = (32 : Int)) (by kernel_rfl) (fun h15' => ?_) (fun h15' => ?_)
      ·replace H := H.1 h15'
       refine AtE.run 6 (fun W => by kernel_rfl) ?_
       refine AtE.letI 4 (kd := .i64) (n := (IntKind.i64.wrap (atv + (1 : Int)))) (by kernel_rfl) (fun atv8 hatv8 => ?_)
       replace H := H atv8 hatv8
       refine AtE.run 2 (fun W => by kernel_rfl) ?_
       exact AtE.cutT [0] 1 H (by kernel_rfl)
      ·replace H := H.2 h15'
       refine AtE.run 6 (fun W => by kernel_rfl) ?_
       refine AtE.load 0 0 (T := 9) (v := .string m0) (by kernel_rfl) ?_
       refine AtE.run 3 (fun W => by kernel_rfl) ?_
       refine AtE.sliceS (s := m0) (lo := some (.int .i64 start)) (hi := some (.int .i64 (IntKind.i64.wrap (atv + (1 : Int))))) (a := start) (b := (IntKind.i64.wrap (atv + (1 : Int)))) (by kernel_rfl) (.inl ⟨.i64, rfl⟩) (.inl ⟨.i64, rfl⟩) H.1 ?_
       replace H := H.2
       refine AtE.norm (k' := [.inRegion (regOps [.code (EngB11s86 [0,1,1,0,1,0,0,1,0,0,1,1,0,0])]) [6,7,8], .code (EngB11s86 [0,1,1,0,1,0,0,1,0,0,1,1,0,1]), .code (EngB11s86 [0,1,1,0,1,0,0,1,0,0,1,1,1]), .inBlock 1, .code (EngB11s86 [0,1,1,0,1,0,0,1,1]), .inLoop (EngB11s86 [0,1,1,0,1,0,0]), .inBlock 0, .code (EngB11s86 [0,1,1,1]), .inScope (EngB11s86 [0])]) (e' := [(0, .func (.yield yl1) #[] #[]), (1, .pointer (some ⟨B, 0, none⟩)), (4, .int .i64 atv), (35, .func (.yield yl1) #[] #[]), (40, .string (m0.extract (Int.toNat start) (Int.toNat (IntKind.i64.wrap (atv + (1 : Int))))))]) (L' := ((B, .cells #[.string m0] 9) :: F1)) ?_ (by kernel_rfl)
       refine AtE.call 88 ⟨[.string (m0.extract (Int.toNat start) (Int.toNat (IntKind.i64.wrap (atv + (1 : Int))))), .string (⟨#[32]⟩)]⟩ (fun W => by kernel_rfl) (by kernel_rfl) H ?_
       clear H
       rintro _ _ ⟨r61, rfl, rfl, H⟩
       refine AtE.yield yl1 ⟨[.string r61]⟩ (fun W => by kernel_rfl) (by kernel_rfl) H ?_
       clear H
       rintro _ _ ⟨go4, F6, rfl, rfl, H⟩
       refine AtE.split 42 (b := go4) (by kernel_rfl) (fun h16' => ?_) (fun h16' => ?_)
       ·replace H := H.1 h16'
        refine AtE.run 8 (fun W => by kernel_rfl) ?_
        refine AtE.letI 3 (kd := .i64) (n := (IntKind.i64.wrap (atv + (1 : Int)))) (by kernel_rfl) (fun start5 hstart5 => ?_)
        replace H := H start5 hstart5
        refine AtE.run 6 (fun W => by kernel_rfl) ?_
        refine AtE.letI 4 (kd := .i64) (n := (IntKind.i64.wrap (atv + (1 : Int)))) (by kernel_rfl) (fun atv9 hatv9 => ?_)
        replace H := H atv9 hatv9
        refine AtE.run 2 (fun W => by kernel_rfl) ?_
        exact AtE.cutT [0] 1 H (by kernel_rfl)
       ·replace H := H.2 h16'
        refine AtE.run 3 (fun W => by kernel_rfl) ?_
        exact AtE.ret Tryd.func86 (by kernel_rfl) H
     ·replace H := H.2 h14'
      refine AtE.run 13 (fun W => by kernel_rfl) ?_
      refine AtE.load 0 0 (T := 9) (v := .string m0) (by kernel_rfl) ?_
      refine AtE.run 3 (fun W => by kernel_rfl) ?_
      refine AtE.sliceS (s := m0) (lo := some (.int .i64 start)) (hi := some (.int .i64 (IntKind.i64.wrap (atv + (1 : Int))))) (a := start) (b := (IntKind.i64.wrap (atv + (1 : Int)))) (by kernel_rfl) (.inl ⟨.i64, rfl⟩) (.inl ⟨.i64, rfl⟩) H.1 ?_
      replace H := H.2
      refine AtE.call 88 ⟨[.string (m0.extract (Int.toNat start) (Int.toNat (IntKind.i64.wrap (atv + (1 : Int))))), .string (⟨#[32]⟩)]⟩ (fun W => by kernel_rfl) (by kernel_rfl) H ?_
      clear H
      rintro _ _ ⟨r71, rfl, rfl, H⟩
      refine AtE.yield yl1 ⟨[.string r71]⟩ (fun W => by kernel_rfl) (by kernel_rfl) H ?_
      clear H
      rintro _ _ ⟨go5, F7, rfl, rfl, H⟩
      refine AtE.split 42 (b := go5) (by kernel_rfl) (fun h17' => ?_) (fun h17' => ?_)
      ·replace H := H.1 h17'
       refine AtE.norm (k' := [.inRegion (regOps [.code (EngB11s86 [0,1,1,0,1,0,0,1,0,0,1,1,0,0])]) [8], .code (EngB11s86 [0,1,1,0,1,0,0,1,0,0,1,1,0,1]), .code (EngB11s86 [0,1,1,0,1,0,0,1,0,0,1,1,1]), .inBlock 1, .code (EngB11s86 [0,1,1,0,1,0,0,1,1]), .inLoop (EngB11s86 [0,1,1,0,1,0,0]), .inBlock 0, .code (EngB11s86 [0,1,1,1]), .inScope (EngB11s86 [0])]) (e' := [(0, .func (.yield yl1) #[] #[]), (1, .pointer (some ⟨B, 0, none⟩)), (4, .int .i64 atv), (42, .bool true)]) (L' := ((B, .cells #[.string m0] 9) :: F7)) ?_ (by kernel_rfl)
       refine AtE.run 8 (fun W => by kernel_rfl) ?_
       refine AtE.letI 3 (kd := .i64) (n := (IntKind.i64.wrap (atv + (1 : Int)))) (by kernel_rfl) (fun start6 hstart6 => ?_)
       replace H := H start6 hstart6
       refine AtE.run 6 (fun W => by kernel_rfl) ?_
       refine AtE.letI 4 (kd := .i64) (n := (IntKind.i64.wrap (atv + (1 : Int)))) (by kernel_rfl) (fun atv10 hatv10 => ?_)
       replace H := H atv10 hatv10
       refine AtE.run 2 (fun W => by kernel_rfl) ?_
       exact AtE.cutT [0] 1 H (by kernel_rfl)
      ·replace H := H.2 h17'
       refine AtE.norm (k' := [.inRegion (regOps [.code (EngB11s86 [0,1,1,0,1,0,0,1,0,0,1,1,0,0])]) [8], .code (EngB11s86 [0,1,1,0,1,0,0,1,0,0,1,1,0,1]), .code (EngB11s86 [0,1,1,0,1,0,0,1,0,0,1,1,1]), .inBlock 1, .code (EngB11s86 [0,1,1,0,1,0,0,1,1]), .inLoop (EngB11s86 [0,1,1,0,1,0,0]), .inBlock 0, .code (EngB11s86 [0,1,1,1]), .inScope (EngB11s86 [0])]) (e' := [(0, .func (.yield yl1) #[] #[]), (1, .pointer (some ⟨B, 0, none⟩)), (4, .int .i64 atv), (42, .bool false)]) (L' := ((B, .cells #[.string m0] 9) :: F7)) ?_ (by kernel_rfl)
       refine AtE.run 3 (fun W => by kernel_rfl) ?_
       exact AtE.ret Tryd.func86 (by kernel_rfl) H
    ·replace H := H.2 h13'
     refine AtE.norm (k' := [.code (EngB11s86 [0,1,1,0,1,0,0,1,0,0,0,1,0,1,1,1]), .inBlock 2, .code (EngB11s86 [0,1,1,0,1,0,0,1,0,0,1]), .inBlock 1, .code (EngB11s86 [0,1,1,0,1,0,0,1,1]), .inLoop (EngB11s86 [0,1,1,0,1,0,0]), .inBlock 0, .code (EngB11s86 [0,1,1,1]), .inScope (EngB11s86 [0])]) (e' := [(0, .func (.yield yl1) #[] #[]), (1, .pointer (some ⟨B, 0, none⟩)), (3, .int .i64 start), (4, .int .i64 atv), (20, .bool false)]) (L' := ((B, .cells #[.string m0] 9) :: F1)) ?_ (by kernel_rfl)
     refine AtE.run 6 (fun W => by kernel_rfl) ?_
     refine AtE.letI 4 (kd := .i64) (n := (IntKind.i64.wrap (atv + (1 : Int)))) (by kernel_rfl) (fun atv11 hatv11 => ?_)
     replace H := H atv11 hatv11
     refine AtE.run 2 (fun W => by kernel_rfl) ?_
     exact AtE.cutT [0] 1 H (by kernel_rfl)
 ·replace H := H.2 h1'
  refine AtE.run 4 (fun W => by kernel_rfl) ?_
  refine AtE.load 0 0 (T := 9) (v := .string m0) (by kernel_rfl) ?_
  refine AtE.run 1 (fun W => by kernel_rfl) ?_
  refine AtE.sliceS (s := m0) (lo := some (.int .i64 start)) (hi := none) (a := start) (b := (m0.size : Int)) (by kernel_rfl) (.inl ⟨.i64, rfl⟩) (.inr ⟨rfl, rfl⟩) H.1 ?_
  replace H := H.2
  refine AtE.call 88 ⟨[.string (m0.extract (Int.toNat start) m0.size), .string (⟨#[32]⟩)]⟩ (fun W => by kernel_rfl) (by kernel_rfl) H ?_
  clear H
  rintro _ _ ⟨r81, rfl, rfl, H⟩
  refine AtE.run 7 (fun W => by kernel_rfl) ?_
  refine AtE.splitT 51 (x := r81) (y := (⟨#[]⟩ : ByteArray)) (by kernel_rfl) (fun h18' => ?_) (fun h18' => ?_)
  ·replace H := H.1 h18'
   refine AtE.run 4 (fun W => by kernel_rfl) ?_
   refine AtE.yield yl1 ⟨[.string r81]⟩ (fun W => by kernel_rfl) (by kernel_rfl) H ?_
   clear H
   rintro _ _ ⟨go6, F8, rfl, rfl, H⟩
   refine AtE.norm (k' := [.inRegion (regOps [.code (EngB11s86 [0,1,1,1,1,1,0])]) [], .inScope (EngB11s86 [0])]) (e' := []) (L' := ((B, .cells #[.string m0] 9) :: F8)) ?_ (by kernel_rfl)
   refine AtE.run 2 (fun W => by kernel_rfl) ?_
   exact AtE.ret Tryd.func86 (by kernel_rfl) H
  ·replace H := H.2 h18'
   refine AtE.run 3 (fun W => by kernel_rfl) ?_
   exact AtE.ret Tryd.func86 (by kernel_rfl) H
theorem iter_vc (yl : Nat) (Bt : Nat) (text : ByteArray) (F : SHeap) {R : Ending → World → Prop} {S : List Nat} {w0 W : World} (hm : Mem ((Bt, .cells #[.string text] 9) :: F) S w0 W)
  (H :
   iter_c0 Bt yl (0 : Int) (0 : Int) text F S w0 R) :
  Calls Tryd.prog 86 ⟨[.func (.yield yl) #[] #[], .pointer (some ⟨Bt, 0, none⟩)]⟩ W R := by
 refine AtE.calls (nt := 55) Tryd.func86 (by kernel_rfl) hm ?_
 refine AtE.run 14 (fun W => by kernel_rfl) ?_
 exact AtE.cutT [0] 1 H (by kernel_rfl)
end Go.Eng
namespace Go.Eng
open Go Go.RowKit Go.Proofs Wire
set_option linter.unusedVariables false
theorem pv_at {s : ByteArray} {i : Nat} (h1 : 1 ≤ i) (h : i ≤ s.size) : ((pv (bts s) i).toNat : Int) = bat s ((i : Int) - 1) := by
  obtain ⟨k, rfl⟩ : ∃ k, i = k + 1 := ⟨i - 1, by omega⟩
  have hk : k < (bts s).length := by rw [bts_len]; omega
  rw [pv_succ hk, show ((k + 1 : Nat) : Int) - 1 = (k : Int) by omega, bat_nat hk]
theorem pv2_at {s : ByteArray} {i : Nat} (h1 : 2 ≤ i) (h : i ≤ s.size) : ((pv2 (bts s) i).toNat : Int) = bat s ((i : Int) - 2) := by
  obtain ⟨k, rfl⟩ : ∃ k, i = k + 1 := ⟨i - 1, by omega⟩
  show ((pv (bts s) k).toNat : Int) = _
  rw [pv_at (by omega) (by omega), show ((k + 1 : Nat) : Int) - 2 = (k : Int) - 1 by omega]
def initAt (l : List UInt8) (i : Nat) : Bool := capB (pv l i) && isSp (pv2 l i)
theorem init_spec {s : ByteArray} {i : Nat} (h : i ≤ s.size) : initAt (bts s) i = decide (1 ≤ i ∧ 65 ≤ bat s ((i : Int) - 1) ∧ bat s ((i : Int) - 1) ≤ 90 ∧ (i = 1 ∨ bat s ((i : Int) - 2) = 32)) := by
  unfold initAt capB isSp
  rw [← Bool.decide_and, decide_eq_decide]
  match i, h with
  | 0, h => simp [pv, pv2]
  | 1, h =>
    have := pv_at (s := s) (i := 1) (by omega) h
    have : (pv2 (bts s) 1).toNat = 32 := rfl
    omega
  | k + 2, h =>
    have := pv_at (s := s) (i := k + 2) (by omega) h
    have := pv2_at (s := s) (i := k + 2) (by omega) h
    omega
theorem initB_c (s : ByteArray) (hs : s.size < 4611686018427387904) {i : Nat} (h : i ≤ s.size) : PureC Tryd.prog 87 ⟨[.string s, .int .i64 (i : Int)]⟩ (.bool (initAt (bts s) i)) := by
  intro W
  rw [init_spec h]
  have leaf : ∀ b : Bool, b = decide (1 ≤ i ∧ 65 ≤ bat s ((i : Int) - 1) ∧ bat s ((i : Int) - 1) ≤ 90 ∧ (i = 1 ∨ bat s ((i : Int) - 2) = 32)) → Fin (fun e W' => e = .returned (.bool (decide (1 ≤ i ∧ 65 ≤ bat s ((i : Int) - 1) ∧ bat s ((i : Int) - 1) ≤ 90 ∧ (i = 1 ∨ bat s ((i : Int) - 2) = 32)))) ∧ Below W.heap.size W W') [] [] W (.bool b) := fun b hb => finPure (by rw [hb])
  refine initB_vc s (i : Int) (Mem.start [] W) ⟨fun h1 => leaf _ (decide_eq_false (by omega)).symm, fun h1 => ?_⟩
  rw [wi64 (by omega), wi64 (by omega)]
  refine ⟨by omega, fun h2 => leaf _ (decide_eq_false (by omega)).symm, fun h2 => ⟨by omega, fun h3 => leaf _ (decide_eq_false (by omega)).symm, fun h3 => ⟨fun h4 => leaf _ (decide_eq_true (by omega)).symm, fun h4 => ⟨by omega, leaf _ ?_⟩⟩⟩⟩
  rw [decide_eq_decide]; omega
theorem getD_get {l : List UInt8} {i : Nat} (h : i < l.length) : l.getD i 0 = l[i] := by simp [h]
theorem nxt_spec {s : ByteArray} {i : Nat} : nxt ((bts s).drop i) = decide ((i : Int) < s.size → bat s (i : Int) = 32) := by
  have hl := bts_len s
  by_cases h : i < (bts s).length
  · rw [List.drop_eq_getElem_cons h, nxt, isSp, decide_eq_decide, bat_nat h]; omega
  · rw [List.drop_of_length_le (by omega), nxt]; exact (decide_eq_true (fun h0 => by omega)).symm
theorem end_spec {s : ByteArray} {i : Nat} (h : i < s.size) : endAt (bts s) i = (decide ((i : Int) + 1 < s.size → bat s ((i : Int) + 1) = 32) && ((decide (bat s (i : Int) = 46) && !initAt (bts s) i) || decide (bat s (i : Int) = 33) || decide (bat s (i : Int) = 63))) := by
  have hi : i < (bts s).length := h
  have e : (bts s).getD i 0 = (bts s)[i] := getD_get hi
  rw [endAt, endB, nxt_spec, e, bat_nat hi, initAt, show ((i + 1 : Nat) : Int) = (i : Int) + 1 by omega]
  simp only [show ∀ m : Nat, ((bts s)[i].toNat = m) = (((bts s)[i].toNat : Int) = (m : Int)) from fun m => by simp only [Int.ofNat_inj]]
  rfl
end Go.Eng
namespace Go.Eng
open Go Go.RowKit Go.Proofs
set_option linter.unusedVariables false
set_option maxRecDepth 100000
noncomputable abbrev EngB12s85 := sub (Eng.body Tryd.f85)
theorem appSeq_vc (Bt : Nat) {R : Ending → World → Prop} {w0 W : World} (hm : Mem [] [] w0 W)
  (H :
   ∀ B : Nat,
   ∀ (D l : Nat) (t : Array Value), Knows 13 [(2, .pointer (some ⟨B, 0, none⟩))] t →
   CallH Tryd.prog 86 ⟨.func (.yield l) #[] #[] :: [.pointer (some ⟨Bt, 0, none⟩)]⟩ [(B, .cells #[.slice none 0 0] 42), (D, .deferred (some [])), (l, loopO .ready none 85 t (EngB12s85 [1,0,1,0]) D)] [] w0 (fun v L' => (∃ (F : SHeap), L' = ((B, .cells #[.slice none 0 0] 42) :: (D, .deferred (some [])) :: (l, loopO .ready none 85 t (EngB12s85 [1,0,1,0]) D) :: F) ∧
    Fin R ((B, .cells #[.slice none 0 0] 42) :: (D, .deferred none) :: (l, loopO .exhausted none 85 t (EngB12s85 [1,0,1,0]) D) :: F) [] w0 (.slice none 0 0)) ∨
   (∃ (n : Nat) (cap : Nat) (cs : List Value) (Q : Nat) (F1 : SHeap), L' = ((B, .cells #[.slice (some ⟨Q, 0, none⟩) n cap] 42) :: (Q, .cells ⟨cs⟩ 9) :: (D, .deferred (some [])) :: (l, loopO .ready none 85 t (EngB12s85 [1,0,1,0]) D) :: F1) ∧
    Fin R ((B, .cells #[.slice (some ⟨Q, 0, none⟩) n cap] 42) :: (Q, .cells ⟨cs⟩ 9) :: (D, .deferred none) :: (l, loopO .exhausted none 85 t (EngB12s85 [1,0,1,0]) D) :: F1) [] w0 (.slice (some ⟨Q, 0, none⟩) n cap)))) :
  Calls Tryd.prog 85 ⟨[.slice none 0 0, .func (.func 86) #[] #[.pointer (some ⟨Bt, 0, none⟩)]]⟩ W R := by
 refine AtE.calls (nt := 13) Tryd.func85 (by kernel_rfl) hm ?_
 refine AtE.run 2 (fun W => by kernel_rfl) ?_
 refine AtE.new (fun B => .pointer (some ⟨B, 0, none⟩)) (.cells #[.slice none 0 0] 42) (fun W => by kernel_rfl) (by kernel_rfl) (fun B => ?_)
 replace H := H B
 refine AtE.run 8 (fun W => by kernel_rfl) ?_
 refine AtE.norm (k' := [.code (EngB12s85 [1,0,1,0]), .inBlock 0, .code (EngB12s85 [1,1])]) (e' := [(2, .pointer (some ⟨B, 0, none⟩)), (6, .func (.func 86) #[] #[.pointer (some ⟨Bt, 0, none⟩)])]) (L' := [(B, .cells #[.slice none 0 0] 42)]) ?_ (by kernel_rfl)
 refine AtE.rangeFunc (rf := EngB12s85 [1,0,1,0]) (k' := [.inBlock 0, .code (EngB12s85 [1,1])]) (L1 := [(B, .cells #[.slice none 0 0] 42)]) 86 [.pointer (some ⟨Bt, 0, none⟩)] (e' := [(2, .pointer (some ⟨B, 0, none⟩))]) (by kernel_rfl) (fun W l => by kernel_rfl) (fun D l t hT => ?_)
 refine CallH.mono (H D l t hT) ?_
 clear H
 rintro _ _ (⟨F, rfl, H⟩ | ⟨n, cap, cs, Q, F1, rfl, H⟩)
 ·skip
  refine ⟨2, .ready, none, rfl, by decide, ?_⟩
  refine AtE.norm (k' := [.inBlock 0, .code (EngB12s85 [1,1])]) (e' := [(2, .pointer (some ⟨B, 0, none⟩))]) (L' := ((B, .cells #[.slice none 0 0] 42) :: (D, .deferred (some [])) :: (l, loopO .exhausted none 85 t (EngB12s85 [1,0,1,0]) D) :: F)) ?_ (by kernel_rfl)
  refine AtE.run 3 (fun W => by kernel_rfl) ?_
  refine AtE.load 0 0 (T := 42) (v := .slice none 0 0) (by kernel_rfl) ?_
  refine AtE.run 2 (fun W => by kernel_rfl) ?_
  exact AtE.retM 1 (D := D) (v := (.slice none 0 0)) (L1 := ((B, .cells #[.slice none 0 0] 42) :: (D, .deferred (some [])) :: (l, loopO .exhausted none 85 t (EngB12s85 [1,0,1,0]) D) :: F)) Tryd.func85 (by kernel_rfl) (ResOk.tmps (v := (.slice none 0 0)) (by kernel_rfl)) H
 ·skip
  refine ⟨3, .ready, none, rfl, by decide, ?_⟩
  refine AtE.norm (k' := [.inBlock 0, .code (EngB12s85 [1,1])]) (e' := [(2, .pointer (some ⟨B, 0, none⟩))]) (L' := ((B, .cells #[.slice (some ⟨Q, 0, none⟩) n cap] 42) :: (Q, .cells ⟨cs⟩ 9) :: (D, .deferred (some [])) :: (l, loopO .exhausted none 85 t (EngB12s85 [1,0,1,0]) D) :: F1)) ?_ (by kernel_rfl)
  refine AtE.run 3 (fun W => by kernel_rfl) ?_
  refine AtE.load 0 0 (T := 42) (v := .slice (some ⟨Q, 0, none⟩) n cap) (by kernel_rfl) ?_
  refine AtE.run 2 (fun W => by kernel_rfl) ?_
  exact AtE.retM 2 (D := D) (v := (.slice (some ⟨Q, 0, none⟩) n cap)) (L1 := ((B, .cells #[.slice (some ⟨Q, 0, none⟩) n cap] 42) :: (Q, .cells ⟨cs⟩ 9) :: (D, .deferred (some [])) :: (l, loopO .exhausted none 85 t (EngB12s85 [1,0,1,0]) D) :: F1)) Tryd.func85 (by kernel_rfl) (ResOk.tmps (v := (.slice (some ⟨Q, 0, none⟩) n cap)) (by kernel_rfl)) H
theorem appSeq_r0_vc (Bt : Nat) (B : Nat) (F : SHeap) (x0 : ByteArray) (D l : Nat) (t : Array Value) {S : List Nat} {w0 : World} {K : Value → SHeap → Prop} (hT : Knows 13 [(2, .pointer (some ⟨B, 0, none⟩))] t)
  (H :
   ∀ B1 : Nat,
   ∀ (B2 cap1 : Nat) (r : List Value), 1 ≤ cap1 → (([.string x0] : List Value) ++ r).length = cap1 * 1 →
   K (.bool true) ((B2, .cells ⟨(([.string x0] : List Value) ++ r)⟩ 9) :: (B1, .cells #[.string x0] 9) :: (B, .cells #[.slice (some ⟨B2, 0, none⟩) 1 cap1] 42) :: (D, .deferred (some [])) :: (l, loopO .ready none 85 t (EngB12s85 [1,0,1,0]) D) :: F)) :
  YieldH Tryd.prog l ⟨[.string x0]⟩ ((B, .cells #[.slice none 0 0] 42) :: (D, .deferred (some [])) :: (l, loopO .ready none 85 t (EngB12s85 [1,0,1,0]) D) :: F) S w0 K := by
 refine YieldH.of (f := 85) (nt := 13) (l := l) (D := D) (t := t) (rf := EngB12s85 [1,0,1,0]) (e1 := [(7, .string x0), (2, .pointer (some ⟨B, 0, none⟩))]) (k1 := [.code (EngB12s85 [1,0,1,0,0]), .beginRound, .code (EngB12s85 [1,0,1,0,1])]) 2 hT (by kernel_rfl) (by kernel_rfl) ?_
 refine AtE.run 3 (fun W => by kernel_rfl) ?_
 refine AtE.begin 2 (l := l) (D := D) (f' := 85) (t := t) (rf := EngB12s85 [1,0,1,0]) (k' := [.code (EngB12s85 [1,0,1,0,1])]) (by kernel_rfl) ?_
 refine AtE.norm (k' := [.code (EngB12s85 [1,0,1,0,1])]) (e' := [(2, .pointer (some ⟨B, 0, none⟩)), (5, .string x0)]) (L' := ((B, .cells #[.slice none 0 0] 42) :: (D, .deferred (some [])) :: (l, loopO .busy none 85 t (EngB12s85 [1,0,1,0]) D) :: F)) ?_ (by kernel_rfl)
 refine AtE.run 2 (fun W => by kernel_rfl) ?_
 refine AtE.load 0 0 (T := 42) (v := .slice none 0 0) (by kernel_rfl) ?_
 refine AtE.run 1 (fun W => by kernel_rfl) ?_
 refine AtE.new (fun B => .slice (some ⟨B, 0, none⟩) 1 1) (.cells #[.string x0] 9) (fun W => by kernel_rfl) (by kernel_rfl) (fun B1 => ?_)
 replace H := H B1
 refine AtE.front ?_
 refine AtE.appendN (T := 42) (E := 9) (z := .string (⟨#[]⟩)) (sz := 1) (bytes := 16) (a := ⟨B1, 0, none⟩) (m := 1) (c := 1) ([.string x0] : List Value) (by kernel_rfl) (show Src _ _ _ _ ([.string x0] : List Value) from Src.own (j := 0) (o := 0) (n := 1) (c := ([.string x0] : List Value)) (by kernel_rfl)) (by simp) (by omega) (by omega) (fun B2 cap1 r h1 h2 => ?_)
 replace H := H B2 cap1 r h1 h2
 refine AtE.front ?_
 refine AtE.store 2 0 (T := 42) (v := .slice (some ⟨B2, 0, none⟩) 1 cap1) (by kernel_rfl) ?_
 refine AtE.run 2 (fun W => by kernel_rfl) ?_
 refine AtE.endRound 4 (l := l) (D := D) (f' := 85) (t := t) (rf := EngB12s85 [1,0,1,0]) (st := .busy) (L1 := ((B2, .cells ⟨(([.string x0] : List Value) ++ r)⟩ 9) :: (B1, .cells #[.string x0] 9) :: (B, .cells #[.slice (some ⟨B2, 0, none⟩) 1 cap1] 42) :: (D, .deferred (some [])) :: (l, loopO .busy none 85 t (EngB12s85 [1,0,1,0]) D) :: F)) (by kernel_rfl) ?_
 exact H
theorem appSeq_r1_vc (Bt : Nat) (B : Nat) (n : Nat) (cap : Nat) (cs : List Value) (Q : Nat) (F1 : SHeap) (x01 : ByteArray) (D l : Nat) (t : Array Value) {S : List Nat} {w0 : World} {K : Value → SHeap → Prop} (hT : Knows 13 [(2, .pointer (some ⟨B, 0, none⟩))] t)
  (H :
   ∀ B3 : Nat,
   (n ≤ cap ∧ (cs).length = cap * 1) ∧ ((n + 1) ≤ 9223372036854775807 ∧ (n + 1) * 16 ≤ 140737488355328) ∧
   ∀ (B4 cap2 : Nat) (r1 : List Value), (n + 1) ≤ cap2 → ((cs).take (n * 1) ++ ([.string x01] : List Value) ++ r1).length = cap2 * 1 →
   K (.bool true) ((B4, .cells ⟨((cs).take (n * 1) ++ ([.string x01] : List Value) ++ r1)⟩ 9) :: (B3, .cells #[.string x01] 9) :: (B, .cells #[.slice (some ⟨B4, 0, none⟩) (n + 1) cap2] 42) :: (D, .deferred (some [])) :: (l, loopO .ready none 85 t (EngB12s85 [1,0,1,0]) D) :: F1)) :
  YieldH Tryd.prog l ⟨[.string x01]⟩ ((B, .cells #[.slice (some ⟨Q, 0, none⟩) n cap] 42) :: (Q, .cells ⟨cs⟩ 9) :: (D, .deferred (some [])) :: (l, loopO .ready none 85 t (EngB12s85 [1,0,1,0]) D) :: F1) S w0 K := by
 refine YieldH.of (f := 85) (nt := 13) (l := l) (D := D) (t := t) (rf := EngB12s85 [1,0,1,0]) (e1 := [(7, .string x01), (2, .pointer (some ⟨B, 0, none⟩))]) (k1 := [.code (EngB12s85 [1,0,1,0,0]), .beginRound, .code (EngB12s85 [1,0,1,0,1])]) 3 hT (by kernel_rfl) (by kernel_rfl) ?_
 refine AtE.run 3 (fun W => by kernel_rfl) ?_
 refine AtE.begin 3 (l := l) (D := D) (f' := 85) (t := t) (rf := EngB12s85 [1,0,1,0]) (k' := [.code (EngB12s85 [1,0,1,0,1])]) (by kernel_rfl) ?_
 refine AtE.norm (k' := [.code (EngB12s85 [1,0,1,0,1])]) (e' := [(2, .pointer (some ⟨B, 0, none⟩)), (5, .string x01)]) (L' := ((B, .cells #[.slice (some ⟨Q, 0, none⟩) n cap] 42) :: (Q, .cells ⟨cs⟩ 9) :: (D, .deferred (some [])) :: (l, loopO .busy none 85 t (EngB12s85 [1,0,1,0]) D) :: F1)) ?_ (by kernel_rfl)
 refine AtE.run 2 (fun W => by kernel_rfl) ?_
 refine AtE.load 0 0 (T := 42) (v := .slice (some ⟨Q, 0, none⟩) n cap) (by kernel_rfl) ?_
 refine AtE.run 1 (fun W => by kernel_rfl) ?_
 refine AtE.new (fun B => .slice (some ⟨B, 0, none⟩) 1 1) (.cells #[.string x01] 9) (fun W => by kernel_rfl) (by kernel_rfl) (fun B3 => ?_)
 replace H := H B3
 refine AtE.front ?_
 refine AtE.appendO 2 (T := 42) (E := 9) (z := .string (⟨#[]⟩)) (sz := 1) (bytes := 16) (n := n) (cap := cap) (a := ⟨B3, 0, none⟩) (m := 1) (c := 1) (cs := cs) ([.string x01] : List Value) (by kernel_rfl) (show Src _ _ _ _ ([.string x01] : List Value) from Src.own (j := 0) (o := 0) (n := 1) (c := ([.string x01] : List Value)) (by kernel_rfl)) (by simp) (by simp [Value.oneCell']) H.1 H.2.1 (fun B4 cap2 r1 h1 h2 => ?_)
 replace H := H.2.2 B4 cap2 r1 h1 h2
 refine AtE.front ?_
 refine AtE.store 2 0 (T := 42) (v := .slice (some ⟨B4, 0, none⟩) (n + 1) cap2) (by kernel_rfl) ?_
 refine AtE.run 2 (fun W => by kernel_rfl) ?_
 refine AtE.endRound 4 (l := l) (D := D) (f' := 85) (t := t) (rf := EngB12s85 [1,0,1,0]) (st := .busy) (L1 := ((B4, .cells ⟨((cs).take (n * 1) ++ ([.string x01] : List Value) ++ r1)⟩ 9) :: (B3, .cells #[.string x01] 9) :: (B, .cells #[.slice (some ⟨B4, 0, none⟩) (n + 1) cap2] 42) :: (D, .deferred (some [])) :: (l, loopO .busy none 85 t (EngB12s85 [1,0,1,0]) D) :: F1)) (by kernel_rfl) ?_
 exact H
end Go.Eng
namespace Go.Eng
open Go Go.RowKit Go.Proofs
set_option linter.unusedVariables false
set_option maxRecDepth 100000
noncomputable abbrev EngB13s18 := sub (Eng.body Tryd.f18)
theorem collect_vc (Bt : Nat) {R : Ending → World → Prop} {w0 W : World} (hm : Mem [] [] w0 W)
  (H :
   CallH Tryd.prog 85 ⟨[.slice none 0 0, .func (.func 86) #[] #[.pointer (some ⟨Bt, 0, none⟩)]]⟩ [] [] w0 (fun v L' => ∃ (r1_p : Option Addr) (r1_l : Nat) (r1_c : Nat) (F : SHeap), v = (.slice r1_p r1_l r1_c) ∧ L' = (F) ∧
    Fin R (F) [] w0 (.slice r1_p r1_l r1_c))) :
  Calls Tryd.prog 58 ⟨[.func (.func 86) #[] #[.pointer (some ⟨Bt, 0, none⟩)]]⟩ W R := by
 refine AtE.calls (nt := 5) Tryd.func58 (by kernel_rfl) hm ?_
 refine AtE.run 7 (fun W => by kernel_rfl) ?_
 refine AtE.call 85 ⟨[.slice none 0 0, .func (.func 86) #[] #[.pointer (some ⟨Bt, 0, none⟩)]]⟩ (fun W => by kernel_rfl) (by kernel_rfl) H ?_
 clear H
 rintro _ F ⟨r1_p, r1_l, r1_c, _, rfl, rfl, H⟩
 refine AtE.run 2 (fun W => by kernel_rfl) ?_
 exact AtE.ret Tryd.func58 (by kernel_rfl) H
theorem sents_vc (text : ByteArray) {R : Ending → World → Prop} {w0 W : World} (hm : Mem [] [] w0 W)
  (H :
   ∀ B : Nat,
   Fin R [(B, .cells #[.string text] 9)] [] w0 (.func (.func 86) #[] #[.pointer (some ⟨B, 0, none⟩)])) :
  Calls Tryd.prog 59 ⟨[.string text]⟩ W R := by
 refine AtE.calls (nt := 4) Tryd.func59 (by kernel_rfl) hm ?_
 refine AtE.run 2 (fun W => by kernel_rfl) ?_
 refine AtE.new (fun B => .pointer (some ⟨B, 0, none⟩)) (.cells #[.string text] 9) (fun W => by kernel_rfl) (by kernel_rfl) (fun B => ?_)
 replace H := H B
 refine AtE.run 7 (fun W => by kernel_rfl) ?_
 exact AtE.ret Tryd.func59 (by kernel_rfl) H
theorem sentences_vc (text : ByteArray) {R : Ending → World → Prop} {w0 W : World} (hm : Mem [] [] w0 W)
  (H :
   CallH Tryd.prog 59 ⟨[.string text]⟩ [] [] w0 (fun v L' => ∃ (Bt : Nat), v = (.func (.func 86) #[] #[.pointer (some ⟨Bt, 0, none⟩)]) ∧ L' = [(Bt, .cells #[.string text] 9)] ∧
    CallH Tryd.prog 58 ⟨[.func (.func 86) #[] #[.pointer (some ⟨Bt, 0, none⟩)]]⟩ [(Bt, .cells #[.string text] 9)] [] w0 (fun v L' => ∃ (r21_p : Option Addr) (r21_l : Nat) (r21_c : Nat) (F : SHeap), v = (.slice r21_p r21_l r21_c) ∧ L' = ((Bt, .cells #[.string text] 9) :: F) ∧
     Fin R ((Bt, .cells #[.string text] 9) :: F) [] w0 (.slice r21_p r21_l r21_c)))) :
  Calls Tryd.prog 32 ⟨[.string text]⟩ W R := by
 refine AtE.calls (nt := 6) Tryd.func32 (by kernel_rfl) hm ?_
 refine AtE.run 7 (fun W => by kernel_rfl) ?_
 refine AtE.call 59 ⟨[.string text]⟩ (fun W => by kernel_rfl) (by kernel_rfl) H ?_
 clear H
 rintro _ _ ⟨Bt, rfl, rfl, H⟩
 refine AtE.call 58 ⟨[.func (.func 86) #[] #[.pointer (some ⟨Bt, 0, none⟩)]]⟩ (fun W => by kernel_rfl) (by kernel_rfl) H ?_
 clear H
 rintro _ _ ⟨r21_p, r21_l, r21_c, F, rfl, rfl, H⟩
 refine AtE.run 2 (fun W => by kernel_rfl) ?_
 exact AtE.ret Tryd.func32 (by kernel_rfl) H
theorem rul3_vc (s : ByteArray) {R : Ending → World → Prop} {w0 W : World} (hm : Mem [] [] w0 W)
  (H :
   CallH Tryd.prog 32 ⟨[.string s]⟩ [] [] w0 (fun v L' => ∃ (r1_p : Option Addr) (r1_l : Nat) (r1_c : Nat) (F : SHeap), v = (.slice r1_p r1_l r1_c) ∧ L' = (F) ∧
    CallH Tryd.prog 68 ⟨[.slice r1_p r1_l r1_c, .string (⟨#[32]⟩)]⟩ (F) [] w0 (fun v L' => ∃ (r21 : ByteArray), v = (.string r21) ∧ L' = (F) ∧
     Fin R (F) [] w0 (.string r21)))) :
  Calls Tryd.prog 67 ⟨[.string s]⟩ W R := by
 refine AtE.calls (nt := 6) Tryd.func67 (by kernel_rfl) hm ?_
 refine AtE.run 7 (fun W => by kernel_rfl) ?_
 refine AtE.call 32 ⟨[.string s]⟩ (fun W => by kernel_rfl) (by kernel_rfl) H ?_
 clear H
 rintro _ F ⟨r1_p, r1_l, r1_c, _, rfl, rfl, H⟩
 refine AtE.call 68 ⟨[.slice r1_p r1_l r1_c, .string (⟨#[32]⟩)]⟩ (fun W => by kernel_rfl) (by kernel_rfl) H ?_
 clear H
 rintro _ F ⟨r21, rfl, rfl, H⟩
 refine AtE.run 2 (fun W => by kernel_rfl) ?_
 exact AtE.ret Tryd.func67 (by kernel_rfl) H
def short_c0 (l1_p : Option Addr) (l1_l : Nat) (l1_c : Nat) (i : Int) (w0 : World) (R : Ending → World → Prop) : Prop :=
 AtE Tryd.prog 18 33 [.code (EngB13s18 [1,1,0,1,0,0]), .inLoop (EngB13s18 [1,1,0,1,0,0]), .inBlock 0, .code (EngB13s18 [1,1,1])] [(0, .slice l1_p l1_l l1_c), (3, .slice none 0 0), (4, .int .i64 i)] [] [] w0 (nrm R)
def short_c1 (B3 : Nat) (l2_p : Option Addr) (l2_l : Nat) (l2_c : Nat) (out_l : Nat) (out_c : Nat) (i2 : Int) (cs : List Value) (w0 : World) (R : Ending → World → Prop) : Prop :=
 AtE Tryd.prog 18 33 [.code (EngB13s18 [1,1,0,1,0,0]), .inLoop (EngB13s18 [1,1,0,1,0,0]), .inBlock 0, .code (EngB13s18 [1,1,1])] [(0, .slice l2_p l2_l l2_c), (3, .slice (some ⟨B3, 0, none⟩) out_l out_c), (4, .int .i64 i2)] [(B3, .cells ⟨cs⟩ 26)] [] w0 (nrm R)
theorem short_c0_vc (l1_p : Option Addr) (l1_l : Nat) (l1_c : Nat) (i : Int) {R : Ending → World → Prop} {w0 : World}
  (H :
   ((i < (l1_l : Int)) →
    ((i < (30 : Int)) →
     ∃ l1_pb l1_po : Nat, l1_p = some ⟨l1_pb, l1_po, none⟩ ∧
     (0 ≤ i ∧ i < l1_l) ∧
     ∃ (cw : List Value) (m_0 : Int) (m_1 : Int) (m_2 : ByteArray) (m_3 : Int) (m_4 : Int) (m_5 : Int) (m_6_p : Option Addr) (m_6_l : Nat) (m_6_c : Nat) (m_7 : Int) (m_8 : Int), blkW w0 l1_pb = some cw ∧ ((cw.drop (l1_po + ((Int.toNat i) * 9))).take 9 = [.int .i64 m_0, .int .i64 m_1, .string m_2, .int .i64 m_3, .int .i64 m_4, .int .i64 m_5, .slice m_6_p m_6_l m_6_c, .int .i64 m_7, .int .i64 m_8] ∧ (l1_po + ((Int.toNat i) * 9)) + 9 ≤ cw.length) ∧
     ∀ B : Nat,
     (0 ≤ (0 : Int) ∧ (0 : Int) ≤ (if (1000 : Int) < (m_2.size : Int) then (1000 : Int) else (m_2.size : Int)) ∧ (if (1000 : Int) < (m_2.size : Int) then (1000 : Int) else (m_2.size : Int)) ≤ m_2.size) ∧
     ∀ B1 : Nat,
     ∀ (B2 cap : Nat) (r : List Value), 1 ≤ cap → (([.int .i64 m_0, .int .i64 m_1, .string (m_2.extract 0 (Int.toNat (if (1000 : Int) < (m_2.size : Int) then (1000 : Int) else (m_2.size : Int)))), .int .i64 m_3, .int .i64 m_4, .int .i64 m_5, .slice m_6_p m_6_l m_6_c, .int .i64 m_7, .int .i64 m_8] : List Value) ++ r).length = cap * 9 →
     ∀ i1 : Int, i1 = (IntKind.i64.wrap (i + (1 : Int))) →
     short_c1 B2 (some ⟨l1_pb, l1_po, none⟩) l1_l l1_c 1 cap i1 (([.int .i64 m_0, .int .i64 m_1, .string (m_2.extract 0 (Int.toNat (if (1000 : Int) < (m_2.size : Int) then (1000 : Int) else (m_2.size : Int)))), .int .i64 m_3, .int .i64 m_4, .int .i64 m_5, .slice m_6_p m_6_l m_6_c, .int .i64 m_7, .int .i64 m_8] : List Value) ++ r) w0 R) ∧
     ((¬ (i < (30 : Int))) →
     Fin R [] [] w0 (.slice none 0 0))) ∧
    ((¬ (i < (l1_l : Int))) →
    Fin R [] [] w0 (.slice none 0 0))) :
  short_c0 l1_p l1_l l1_c i w0 R := by
 unfold short_c0
 refine AtE.run 8 (fun W => by kernel_rfl) ?_
 refine AtE.splitP 10 (p := i < (l1_l : Int)) (by kernel_rfl) (fun h1' => ?_) (fun h1' => ?_)
 ·replace H := H.1 h1'
  refine AtE.run 4 (fun W => by kernel_rfl) ?_
  refine AtE.splitP 13 (p := i < (30 : Int)) (by kernel_rfl) (fun h2' => ?_) (fun h2' => ?_)
  ·replace H := H.1 h2'
   refine AtE.run 8 (fun W => by kernel_rfl) ?_
   obtain ⟨l1_pb, l1_po, rfl, H⟩ := H
   refine AtE.indexAddrL (E := 26) (b := l1_pb) (o := l1_po) (len := l1_l) (cap := l1_c) (sz := 9) (o' := (l1_po + ((Int.toNat i) * 9))) (kd := .i64) (i := i) (by kernel_rfl) H.1 (by omega) ?_
   replace H := H.2
   obtain ⟨cw, m_0, m_1, m_2, m_3, m_4, m_5, m_6_p, m_6_l, m_6_c, m_7, m_8, hw, hx, H⟩ := H
   refine AtE.loadW (b := l1_pb) (off := (l1_po + ((Int.toNat i) * 9))) (T := 26) (v := .agg #[.int .i64 m_0, .int .i64 m_1, .string m_2, .int .i64 m_3, .int .i64 m_4, .int .i64 m_5, .slice m_6_p m_6_l m_6_c, .int .i64 m_7, .int .i64 m_8]) (by kernel_rfl) List.not_mem_nil hw (valAt_agg hx.1 hx.2 (by kernel_rfl) (by kernel_rfl)) ?_
   refine AtE.new (fun B => .pointer (some ⟨B, 0, none⟩)) (.cells #[.int .i64 (0 : Int), .int .i64 (0 : Int), .string (⟨#[]⟩), .int .i64 (0 : Int), .int .i64 (0 : Int), .int .i64 (0 : Int), .slice none 0 0, .int .i64 (0 : Int), .int .i64 (0 : Int)] 26) (fun W => by kernel_rfl) (by kernel_rfl) (fun B => ?_)
   replace H := H B
   refine AtE.store 0 0 (T := 26) (v := .agg #[.int .i64 m_0, .int .i64 m_1, .string m_2, .int .i64 m_3, .int .i64 m_4, .int .i64 m_5, .slice m_6_p m_6_l m_6_c, .int .i64 m_7, .int .i64 m_8]) (by kernel_rfl) ?_
   refine AtE.norm (k' := [.inRegion (regOps [.code (EngB13s18 [1,1,0,1,0,0,1,0,0,0])]) [], .code (EngB13s18 [1,1,0,1,0,0,1,0,0,1]), .inBlock 1, .code (EngB13s18 [1,1,0,1,0,0,1,1]), .inLoop (EngB13s18 [1,1,0,1,0,0]), .inBlock 0, .code (EngB13s18 [1,1,1])]) (e' := [(0, .slice (some ⟨l1_pb, l1_po, none⟩) l1_l l1_c), (3, .slice none 0 0), (4, .int .i64 i), (5, .pointer (some ⟨B, 0, none⟩))]) (L' := [(B, .cells #[.int .i64 m_0, .int .i64 m_1, .string m_2, .int .i64 m_3, .int .i64 m_4, .int .i64 m_5, .slice m_6_p m_6_l m_6_c, .int .i64 m_7, .int .i64 m_8] 26)]) ?_ (by kernel_rfl)
   refine AtE.run 4 (fun W => by kernel_rfl) ?_
   refine AtE.load 0 2 (T := 9) (v := .string m_2) (by kernel_rfl) ?_
   refine AtE.run 1 (fun W => by kernel_rfl) ?_
   refine AtE.load 0 2 (T := 9) (v := .string m_2) (by kernel_rfl) ?_
   refine AtE.run 2 (fun W => by kernel_rfl) ?_
   refine AtE.sliceS (s := m_2) (lo := none) (hi := some (.int .i64 (if (1000 : Int) < (m_2.size : Int) then (1000 : Int) else (m_2.size : Int)))) (a := (0 : Int)) (b := (if (1000 : Int) < (m_2.size : Int) then (1000 : Int) else (m_2.size : Int))) (by kernel_rfl) (.inr ⟨rfl, rfl⟩) (.inl ⟨.i64, rfl⟩) H.1 ?_
   replace H := H.2
   refine AtE.run 1 (fun W => by kernel_rfl) ?_
   refine AtE.store 0 2 (T := 9) (v := .string (m_2.extract 0 (Int.toNat (if (1000 : Int) < (m_2.size : Int) then (1000 : Int) else (m_2.size : Int))))) (by kernel_rfl) ?_
   refine AtE.run 3 (fun W => by kernel_rfl) ?_
   refine AtE.load 0 0 (T := 26) (v := .agg #[.int .i64 m_0, .int .i64 m_1, .string (m_2.extract 0 (Int.toNat (if (1000 : Int) < (m_2.size : Int) then (1000 : Int) else (m_2.size : Int)))), .int .i64 m_3, .int .i64 m_4, .int .i64 m_5, .slice m_6_p m_6_l m_6_c, .int .i64 m_7, .int .i64 m_8]) (by kernel_rfl) ?_
   refine AtE.new (fun B => .slice (some ⟨B, 0, none⟩) 1 1) (.cells #[.int .i64 m_0, .int .i64 m_1, .string (m_2.extract 0 (Int.toNat (if (1000 : Int) < (m_2.size : Int) then (1000 : Int) else (m_2.size : Int)))), .int .i64 m_3, .int .i64 m_4, .int .i64 m_5, .slice m_6_p m_6_l m_6_c, .int .i64 m_7, .int .i64 m_8] 26) (fun W => by kernel_rfl) (by kernel_rfl) (fun B1 => ?_)
   replace H := H B1
   refine AtE.appendN (T := 27) (E := 26) (z := .agg #[.int .i64 (0 : Int), .int .i64 (0 : Int), .string (⟨#[]⟩), .int .i64 (0 : Int), .int .i64 (0 : Int), .int .i64 (0 : Int), .slice none 0 0, .int .i64 (0 : Int), .int .i64 (0 : Int)]) (sz := 9) (bytes := 96) (a := ⟨B1, 0, none⟩) (m := 1) (c := 1) ([.int .i64 m_0, .int .i64 m_1, .string (m_2.extract 0 (Int.toNat (if (1000 : Int) < (m_2.size : Int) then (1000 : Int) else (m_2.size : Int)))), .int .i64 m_3, .int .i64 m_4, .int .i64 m_5, .slice m_6_p m_6_l m_6_c, .int .i64 m_7, .int .i64 m_8] : List Value) (by kernel_rfl) (show Src _ _ _ _ ([.int .i64 m_0, .int .i64 m_1, .string (m_2.extract 0 (Int.toNat (if (1000 : Int) < (m_2.size : Int) then (1000 : Int) else (m_2.size : Int)))), .int .i64 m_3, .int .i64 m_4, .int .i64 m_5, .slice m_6_p m_6_l m_6_c, .int .i64 m_7, .int .i64 m_8] : List Value) from Src.own (j := 1) (o := 0) (n := 9) (c := ([.int .i64 m_0, .int .i64 m_1, .string (m_2.extract 0 (Int.toNat (if (1000 : Int) < (m_2.size : Int) then (1000 : Int) else (m_2.size : Int)))), .int .i64 m_3, .int .i64 m_4, .int .i64 m_5, .slice m_6_p m_6_l m_6_c, .int .i64 m_7, .int .i64 m_8] : List Value)) (by kernel_rfl)) (by simp) (by omega) (by omega) (fun B2 cap r h1 h2 => ?_)
   replace H := H B2 cap r h1 h2
   refine AtE.norm (k' := [.inRegion (regOps [.code (EngB13s18 [1,1,0,1,0,0,1,0,0,1,1])]) [4], .inBlock 1, .code (EngB13s18 [1,1,0,1,0,0,1,1]), .inLoop (EngB13s18 [1,1,0,1,0,0]), .inBlock 0, .code (EngB13s18 [1,1,1])]) (e' := [(0, .slice (some ⟨l1_pb, l1_po, none⟩) l1_l l1_c), (4, .int .i64 i), (31, .slice (some ⟨B2, 0, none⟩) 1 cap)]) (L' := [(B, .cells #[.int .i64 m_0, .int .i64 m_1, .string (m_2.extract 0 (Int.toNat (if (1000 : Int) < (m_2.size : Int) then (1000 : Int) else (m_2.size : Int)))), .int .i64 m_3, .int .i64 m_4, .int .i64 m_5, .slice m_6_p m_6_l m_6_c, .int .i64 m_7, .int .i64 m_8] 26), (B1, .cells #[.int .i64 m_0, .int .i64 m_1, .string (m_2.extract 0 (Int.toNat (if (1000 : Int) < (m_2.size : Int) then (1000 : Int) else (m_2.size : Int)))), .int .i64 m_3, .int .i64 m_4, .int .i64 m_5, .slice m_6_p m_6_l m_6_c, .int .i64 m_7, .int .i64 m_8] 26), (B2, .cells ⟨(([.int .i64 m_0, .int .i64 m_1, .string (m_2.extract 0 (Int.toNat (if (1000 : Int) < (m_2.size : Int) then (1000 : Int) else (m_2.size : Int)))), .int .i64 m_3, .int .i64 m_4, .int .i64 m_5, .slice m_6_p m_6_l m_6_c, .int .i64 m_7, .int .i64 m_8] : List Value) ++ r)⟩ 26)]) ?_ (by kernel_rfl)
   refine AtE.run 7 (fun W => by kernel_rfl) ?_
   refine AtE.letI 4 (kd := .i64) (n := (IntKind.i64.wrap (i + (1 : Int)))) (by kernel_rfl) (fun i1 hi1 => ?_)
   replace H := H i1 hi1
   refine AtE.run 2 (fun W => by kernel_rfl) ?_
   exact AtE.cut [2] H (by kernel_rfl)
  ·replace H := H.2 h2'
   refine AtE.run 7 (fun W => by kernel_rfl) ?_
   exact AtE.ret Tryd.func18 (by kernel_rfl) H
 ·replace H := H.2 h1'
  refine AtE.run 11 (fun W => by kernel_rfl) ?_
  exact AtE.ret Tryd.func18 (by kernel_rfl) H
theorem short_c1_vc (B3 : Nat) (l2_p : Option Addr) (l2_l : Nat) (l2_c : Nat) (out_l : Nat) (out_c : Nat) (i2 : Int) (cs : List Value) {R : Ending → World → Prop} {w0 : World}
  (H :
   ((i2 < (l2_l : Int)) →
    ((i2 < (30 : Int)) →
     ∃ l2_pb l2_po : Nat, l2_p = some ⟨l2_pb, l2_po, none⟩ ∧
     (0 ≤ i2 ∧ i2 < l2_l) ∧
     ∃ (cw1 : List Value) (m1_0 : Int) (m1_1 : Int) (m1_2 : ByteArray) (m1_3 : Int) (m1_4 : Int) (m1_5 : Int) (m1_6_p : Option Addr) (m1_6_l : Nat) (m1_6_c : Nat) (m1_7 : Int) (m1_8 : Int), blkW w0 l2_pb = some cw1 ∧ ((cw1.drop (l2_po + ((Int.toNat i2) * 9))).take 9 = [.int .i64 m1_0, .int .i64 m1_1, .string m1_2, .int .i64 m1_3, .int .i64 m1_4, .int .i64 m1_5, .slice m1_6_p m1_6_l m1_6_c, .int .i64 m1_7, .int .i64 m1_8] ∧ (l2_po + ((Int.toNat i2) * 9)) + 9 ≤ cw1.length) ∧
     ∀ B4 : Nat,
     (0 ≤ (0 : Int) ∧ (0 : Int) ≤ (if (1000 : Int) < (m1_2.size : Int) then (1000 : Int) else (m1_2.size : Int)) ∧ (if (1000 : Int) < (m1_2.size : Int) then (1000 : Int) else (m1_2.size : Int)) ≤ m1_2.size) ∧
     ∀ B5 : Nat,
     (out_l ≤ out_c ∧ (cs).length = out_c * 9) ∧ ((out_l + 1) ≤ 9223372036854775807 ∧ (out_l + 1) * 96 ≤ 140737488355328) ∧
     ∀ (B6 cap1 : Nat) (r1 : List Value), (out_l + 1) ≤ cap1 → ((cs).take (out_l * 9) ++ ([.int .i64 m1_0, .int .i64 m1_1, .string (m1_2.extract 0 (Int.toNat (if (1000 : Int) < (m1_2.size : Int) then (1000 : Int) else (m1_2.size : Int)))), .int .i64 m1_3, .int .i64 m1_4, .int .i64 m1_5, .slice m1_6_p m1_6_l m1_6_c, .int .i64 m1_7, .int .i64 m1_8] : List Value) ++ r1).length = cap1 * 9 →
     ∀ i3 : Int, i3 = (IntKind.i64.wrap (i2 + (1 : Int))) →
     short_c1 B6 (some ⟨l2_pb, l2_po, none⟩) l2_l l2_c (out_l + 1) cap1 i3 ((cs).take (out_l * 9) ++ ([.int .i64 m1_0, .int .i64 m1_1, .string (m1_2.extract 0 (Int.toNat (if (1000 : Int) < (m1_2.size : Int) then (1000 : Int) else (m1_2.size : Int)))), .int .i64 m1_3, .int .i64 m1_4, .int .i64 m1_5, .slice m1_6_p m1_6_l m1_6_c, .int .i64 m1_7, .int .i64 m1_8] : List Value) ++ r1) w0 R) ∧
     ((¬ (i2 < (30 : Int))) →
     Fin R [(B3, .cells ⟨cs⟩ 26)] [] w0 (.slice (some ⟨B3, 0, none⟩) out_l out_c))) ∧
    ((¬ (i2 < (l2_l : Int))) →
    Fin R [(B3, .cells ⟨cs⟩ 26)] [] w0 (.slice (some ⟨B3, 0, none⟩) out_l out_c))) :
  short_c1 B3 l2_p l2_l l2_c out_l out_c i2 cs w0 R := by
 unfold short_c1
 refine AtE.run 8 (fun W => by kernel_rfl) ?_
 refine AtE.splitP 10 (p := i2 < (l2_l : Int)) (by kernel_rfl) (fun h3' => ?_) (fun h3' => ?_)
 ·replace H := H.1 h3'
  refine AtE.run 4 (fun W => by kernel_rfl) ?_
  refine AtE.splitP 13 (p := i2 < (30 : Int)) (by kernel_rfl) (fun h4' => ?_) (fun h4' => ?_)
  ·replace H := H.1 h4'
   refine AtE.run 8 (fun W => by kernel_rfl) ?_
   obtain ⟨l2_pb, l2_po, rfl, H⟩ := H
   refine AtE.indexAddrL (E := 26) (b := l2_pb) (o := l2_po) (len := l2_l) (cap := l2_c) (sz := 9) (o' := (l2_po + ((Int.toNat i2) * 9))) (kd := .i64) (i := i2) (by kernel_rfl) H.1 (by omega) ?_
   replace H := H.2
   obtain ⟨cw1, m1_0, m1_1, m1_2, m1_3, m1_4, m1_5, m1_6_p, m1_6_l, m1_6_c, m1_7, m1_8, hw, hx, H⟩ := H
   refine AtE.loadW (b := l2_pb) (off := (l2_po + ((Int.toNat i2) * 9))) (T := 26) (v := .agg #[.int .i64 m1_0, .int .i64 m1_1, .string m1_2, .int .i64 m1_3, .int .i64 m1_4, .int .i64 m1_5, .slice m1_6_p m1_6_l m1_6_c, .int .i64 m1_7, .int .i64 m1_8]) (by kernel_rfl) List.not_mem_nil hw (valAt_agg hx.1 hx.2 (by kernel_rfl) (by kernel_rfl)) ?_
   refine AtE.new (fun B => .pointer (some ⟨B, 0, none⟩)) (.cells #[.int .i64 (0 : Int), .int .i64 (0 : Int), .string (⟨#[]⟩), .int .i64 (0 : Int), .int .i64 (0 : Int), .int .i64 (0 : Int), .slice none 0 0, .int .i64 (0 : Int), .int .i64 (0 : Int)] 26) (fun W => by kernel_rfl) (by kernel_rfl) (fun B4 => ?_)
   replace H := H B4
   refine AtE.store 1 0 (T := 26) (v := .agg #[.int .i64 m1_0, .int .i64 m1_1, .string m1_2, .int .i64 m1_3, .int .i64 m1_4, .int .i64 m1_5, .slice m1_6_p m1_6_l m1_6_c, .int .i64 m1_7, .int .i64 m1_8]) (by kernel_rfl) ?_
   refine AtE.norm (k' := [.inRegion (regOps [.code (EngB13s18 [1,1,0,1,0,0,1,0,0,0])]) [], .code (EngB13s18 [1,1,0,1,0,0,1,0,0,1]), .inBlock 1, .code (EngB13s18 [1,1,0,1,0,0,1,1]), .inLoop (EngB13s18 [1,1,0,1,0,0]), .inBlock 0, .code (EngB13s18 [1,1,1])]) (e' := [(0, .slice (some ⟨l2_pb, l2_po, none⟩) l2_l l2_c), (3, .slice (some ⟨B3, 0, none⟩) out_l out_c), (4, .int .i64 i2), (5, .pointer (some ⟨B4, 0, none⟩))]) (L' := [(B3, .cells ⟨cs⟩ 26), (B4, .cells #[.int .i64 m1_0, .int .i64 m1_1, .string m1_2, .int .i64 m1_3, .int .i64 m1_4, .int .i64 m1_5, .slice m1_6_p m1_6_l m1_6_c, .int .i64 m1_7, .int .i64 m1_8] 26)]) ?_ (by kernel_rfl)
   refine AtE.run 4 (fun W => by kernel_rfl) ?_
   refine AtE.load 1 2 (T := 9) (v := .string m1_2) (by kernel_rfl) ?_
   refine AtE.run 1 (fun W => by kernel_rfl) ?_
   refine AtE.load 1 2 (T := 9) (v := .string m1_2) (by kernel_rfl) ?_
   refine AtE.run 2 (fun W => by kernel_rfl) ?_
   refine AtE.sliceS (s := m1_2) (lo := none) (hi := some (.int .i64 (if (1000 : Int) < (m1_2.size : Int) then (1000 : Int) else (m1_2.size : Int)))) (a := (0 : Int)) (b := (if (1000 : Int) < (m1_2.size : Int) then (1000 : Int) else (m1_2.size : Int))) (by kernel_rfl) (.inr ⟨rfl, rfl⟩) (.inl ⟨.i64, rfl⟩) H.1 ?_
   replace H := H.2
   refine AtE.run 1 (fun W => by kernel_rfl) ?_
   refine AtE.store 1 2 (T := 9) (v := .string (m1_2.extract 0 (Int.toNat (if (1000 : Int) < (m1_2.size : Int) then (1000 : Int) else (m1_2.size : Int))))) (by kernel_rfl) ?_
   refine AtE.run 3 (fun W => by kernel_rfl) ?_
   refine AtE.load 1 0 (T := 26) (v := .agg #[.int .i64 m1_0, .int .i64 m1_1, .string (m1_2.extract 0 (Int.toNat (if (1000 : Int) < (m1_2.size : Int) then (1000 : Int) else (m1_2.size : Int)))), .int .i64 m1_3, .int .i64 m1_4, .int .i64 m1_5, .slice m1_6_p m1_6_l m1_6_c, .int .i64 m1_7, .int .i64 m1_8]) (by kernel_rfl) ?_
   refine AtE.new (fun B => .slice (some ⟨B, 0, none⟩) 1 1) (.cells #[.int .i64 m1_0, .int .i64 m1_1, .string (m1_2.extract 0 (Int.toNat (if (1000 : Int) < (m1_2.size : Int) then (1000 : Int) else (m1_2.size : Int)))), .int .i64 m1_3, .int .i64 m1_4, .int .i64 m1_5, .slice m1_6_p m1_6_l m1_6_c, .int .i64 m1_7, .int .i64 m1_8] 26) (fun W => by kernel_rfl) (by kernel_rfl) (fun B5 => ?_)
   replace H := H B5
   refine AtE.appendO 0 (T := 27) (E := 26) (z := .agg #[.int .i64 (0 : Int), .int .i64 (0 : Int), .string (⟨#[]⟩), .int .i64 (0 : Int), .int .i64 (0 : Int), .int .i64 (0 : Int), .slice none 0 0, .int .i64 (0 : Int), .int .i64 (0 : Int)]) (sz := 9) (bytes := 96) (n := out_l) (cap := out_c) (a := ⟨B5, 0, none⟩) (m := 1) (c := 1) (cs := cs) ([.int .i64 m1_0, .int .i64 m1_1, .string (m1_2.extract 0 (Int.toNat (if (1000 : Int) < (m1_2.size : Int) then (1000 : Int) else (m1_2.size : Int)))), .int .i64 m1_3, .int .i64 m1_4, .int .i64 m1_5, .slice m1_6_p m1_6_l m1_6_c, .int .i64 m1_7, .int .i64 m1_8] : List Value) (by kernel_rfl) (show Src _ _ _ _ ([.int .i64 m1_0, .int .i64 m1_1, .string (m1_2.extract 0 (Int.toNat (if (1000 : Int) < (m1_2.size : Int) then (1000 : Int) else (m1_2.size : Int)))), .int .i64 m1_3, .int .i64 m1_4, .int .i64 m1_5, .slice m1_6_p m1_6_l m1_6_c, .int .i64 m1_7, .int .i64 m1_8] : List Value) from Src.own (j := 2) (o := 0) (n := 9) (c := ([.int .i64 m1_0, .int .i64 m1_1, .string (m1_2.extract 0 (Int.toNat (if (1000 : Int) < (m1_2.size : Int) then (1000 : Int) else (m1_2.size : Int)))), .int .i64 m1_3, .int .i64 m1_4, .int .i64 m1_5, .slice m1_6_p m1_6_l m1_6_c, .int .i64 m1_7, .int .i64 m1_8] : List Value)) (by kernel_rfl)) (by simp) (by simp [Value.oneCell']) H.1 H.2.1 (fun B6 cap1 r1 h1 h2 => ?_)
   replace H := H.2.2 B6 cap1 r1 h1 h2
   refine AtE.norm (k' := [.inRegion (regOps [.code (EngB13s18 [1,1,0,1,0,0,1,0,0,1,1])]) [4], .inBlock 1, .code (EngB13s18 [1,1,0,1,0,0,1,1]), .inLoop (EngB13s18 [1,1,0,1,0,0]), .inBlock 0, .code (EngB13s18 [1,1,1])]) (e' := [(0, .slice (some ⟨l2_pb, l2_po, none⟩) l2_l l2_c), (4, .int .i64 i2), (31, .slice (some ⟨B6, 0, none⟩) (out_l + 1) cap1)]) (L' := [(B4, .cells #[.int .i64 m1_0, .int .i64 m1_1, .string (m1_2.extract 0 (Int.toNat (if (1000 : Int) < (m1_2.size : Int) then (1000 : Int) else (m1_2.size : Int)))), .int .i64 m1_3, .int .i64 m1_4, .int .i64 m1_5, .slice m1_6_p m1_6_l m1_6_c, .int .i64 m1_7, .int .i64 m1_8] 26), (B5, .cells #[.int .i64 m1_0, .int .i64 m1_1, .string (m1_2.extract 0 (Int.toNat (if (1000 : Int) < (m1_2.size : Int) then (1000 : Int) else (m1_2.size : Int)))), .int .i64 m1_3, .int .i64 m1_4, .int .i64 m1_5, .slice m1_6_p m1_6_l m1_6_c, .int .i64 m1_7, .int .i64 m1_8] 26), (B6, .cells ⟨((cs).take (out_l * 9) ++ ([.int .i64 m1_0, .int .i64 m1_1, .string (m1_2.extract 0 (Int.toNat (if (1000 : Int) < (m1_2.size : Int) then (1000 : Int) else (m1_2.size : Int)))), .int .i64 m1_3, .int .i64 m1_4, .int .i64 m1_5, .slice m1_6_p m1_6_l m1_6_c, .int .i64 m1_7, .int .i64 m1_8] : List Value) ++ r1)⟩ 26)]) ?_ (by kernel_rfl)
   refine AtE.run 7 (fun W => by kernel_rfl) ?_
   refine AtE.letI 4 (kd := .i64) (n := (IntKind.i64.wrap (i2 + (1 : Int)))) (by kernel_rfl) (fun i3 hi3 => ?_)
   replace H := H i3 hi3
   refine AtE.run 2 (fun W => by kernel_rfl) ?_
   exact AtE.cut [2] H (by kernel_rfl)
  ·replace H := H.2 h4'
   refine AtE.run 7 (fun W => by kernel_rfl) ?_
   exact AtE.ret Tryd.func18 (by kernel_rfl) H
 ·replace H := H.2 h3'
  refine AtE.run 11 (fun W => by kernel_rfl) ?_
  exact AtE.ret Tryd.func18 (by kernel_rfl) H
theorem short_vc (l_p : Option Addr) (l_l : Nat) (l_c : Nat) {R : Ending → World → Prop} {w0 W : World} (hm : Mem [] [] w0 W)
  (H :
   short_c0 l_p l_l l_c (0 : Int) w0 R) :
  Calls Tryd.prog 18 ⟨[.slice l_p l_l l_c]⟩ W R := by
 refine AtE.calls (nt := 33) Tryd.func18 (by kernel_rfl) hm ?_
 refine AtE.run 15 (fun W => by kernel_rfl) ?_
 exact AtE.cut [] H (by kernel_rfl)
end Go.Eng
namespace Go.Eng
open Go Go.RowKit Go.Proofs Wire
set_option linter.unusedVariables false
abbrev tBlk (B : Nat) (s : ByteArray) : Nat × Obj := (B, .cells #[.string s] 9)
theorem iter_loop {B yl : Nat} {s : ByteArray} (hs : s.size < 4611686018427387904) {S : List Nat} {w0 : World} {R : Ending → World → Prop} {I : List (List UInt8) → SHeap → Prop}
    (hy : ∀ l F x, l.length ≤ s.size → I l F → YieldH Tryd.prog yl ⟨[.string (ba x)]⟩ (tBlk B s :: F) S w0 (fun v L' => ∃ F', v = .bool true ∧ L' = tBlk B s :: F' ∧ I (l ++ [x]) F'))
    (hR : ∀ F, I (senOf (bts s)) F → Fin R (tBlk B s :: F) S w0 (.tuple #[])) :
    ∀ (g i a : Nat) (l : List (List UInt8)) (F : SHeap), g + i = s.size → a ≤ i → l.length ≤ i → I l F → l ++ senAt (bts s) a i = senOf (bts s) → iter_c0 B yl (a : Int) (i : Int) s F S w0 R
  | 0, i, a, l, F, hg, ha, hl, hI, he => by
    apply iter_c0_vc
    have hlen := bts_len s
    have hx : bts (s.extract (Int.toNat (a : Int)) s.size) = (bts s).drop a := by
      rw [bts_ext, seg, Int.toNat_natCast, List.take_of_length_le (by simp only [List.length_drop]; omega)]
    rw [senAt_end ha (by omega)] at he
    refine no (by omega) ⟨by omega, CallH.pure (trim_c _ (by rw [← bts_len, hx]; simp only [List.length_drop]; omega)) ⟨_, rfl, rfl, ?_⟩⟩
    rw [hx]
    refine ⟨fun h => ?_, fun h => ?_⟩
    · refine (hy l F _ (by omega) hI).mono ?_
      rintro v L' ⟨F', rfl, rfl, hI'⟩
      refine ⟨true, F', rfl, rfl, hR F' ?_⟩
      rw [if_neg (fun h0 => h (by rw [h0]))] at he
      rw [← he]; exact hI'
    · have h0 : trimS ((bts s).drop a) = [] := by
        have := congrArg bts h
        rw [bts_mk] at this; exact this
      rw [if_pos h0, List.append_nil] at he
      exact hR F (by rw [← he]; exact hI)
  | g + 1, i, a, l, F, hg, ha, hl, hI, he => by
    apply iter_c0_vc
    have hlen := bts_len s
    have hi : i < (bts s).length := by omega
    have w1 : IntKind.i64.wrap ((i : Int) + 1) = ((i + 1 : Nat) : Int) := by rw [wi64 (by omega)]; omega
    simp only [w1, Int.toNat_natCast]
    have hend := end_spec (s := s) (i := i) (by omega)
    have hx : bts (s.extract a (i + 1)) = seg (bts s) a (i + 1) := bts_ext s a (i + 1)
    have skip : endAt (bts s) i = false → ∀ x : Int, x = ((i + 1 : Nat) : Int) → iter_c0 B yl (a : Int) x s F S w0 R := by
      rintro hf _ rfl
      exact iter_loop hs hy hR g (i + 1) a l F (by omega) (by omega) (by omega) hI (by rw [← he, senAt_no ha hi hf])
    have emit : endAt (bts s) i = true → CallH Tryd.prog 88 ⟨[.string (s.extract a (i + 1)), .string (⟨#[32]⟩)]⟩ (tBlk B s :: F) S w0 (fun v L' => ∃ (r21 : ByteArray), v = (.string r21) ∧ L' = (tBlk B s :: F) ∧
        YieldH Tryd.prog yl ⟨[.string r21]⟩ (tBlk B s :: F) S w0 (fun v L' => ∃ (go : Bool) (F2 : SHeap), v = .bool go ∧ L' = (tBlk B s :: F2) ∧
          ((go = true) → ∀ start1 : Int, start1 = ((i + 1 : Nat) : Int) → ∀ atv3 : Int, atv3 = ((i + 1 : Nat) : Int) → iter_c0 B yl start1 atv3 s F2 S w0 R) ∧
          ((go = false) → Fin R (tBlk B s :: F2) S w0 (.tuple #[])))) := by
      intro ht
      refine CallH.pure (trim_c _ (by rw [← bts_len, hx, seg, List.length_take, List.length_drop]; omega)) ⟨_, rfl, rfl, ?_⟩
      rw [hx]
      refine (hy l F _ (by omega) hI).mono ?_
      rintro v L' ⟨F', rfl, rfl, hI'⟩
      refine ⟨true, F', rfl, rfl, fun _ => ?_, fun h => Bool.noConfusion h⟩
      rintro _ rfl _ rfl
      refine iter_loop hs hy hR g (i + 1) (i + 1) _ F' (by omega) (by omega) (by simp; omega) hI' ?_
      rw [← he, senAt_yes ha hi ht, List.append_assoc]; rfl
    have sk : ∀ {p : Prop} [Decidable p], (endAt (bts s) i = decide p) → ¬ p → endAt (bts s) i = false := fun h hp => by rw [h]; exact decide_eq_false hp
    have yT : decide ((i : Int) + 1 < s.size → bat s ((i : Int) + 1) = 32) = true → bat s (i : Int) = 33 ∨ bat s (i : Int) = 63 ∨ (bat s (i : Int) = 46 ∧ initAt (bts s) i = false) → endAt (bts s) i = true := by
      intro h1 h2
      rw [hend, h1, Bool.true_and]
      rcases h2 with h | h | ⟨h, h'⟩
      · simp [h]
      · simp [h]
      · simp [h, h']
    have yF : decide ((i : Int) + 1 < s.size → bat s ((i : Int) + 1) = 32) = false → endAt (bts s) i = false := fun h => by rw [hend, h, Bool.false_and]
    have c1 : ((i + 1 : Nat) : Int) = (i : Int) + 1 := by omega
    refine yes (by omega) ⟨by omega, fun h46 => ?_, fun h46 => ⟨fun h33 => ?_, fun h33 => ⟨fun h63 => ?_, fun h63 => ?_⟩⟩⟩
    · refine CallH.pure (initB_c s hs (by omega)) ⟨_, rfl, rfl, fun hin => ?_, fun hin => ?_⟩
      · exact skip (by rw [hend]; simp [h46, hin])
      · refine ⟨fun hlt => ⟨by omega, fun hn => skip (yF (decide_eq_false (by rw [← c1]; omega))), fun hn => ⟨by omega, emit (yT (decide_eq_true (by rw [← c1]; omega)) (.inr (.inr ⟨h46, hin⟩)))⟩⟩, fun hlt => ⟨by omega, emit (yT (decide_eq_true (by rw [← c1]; omega)) (.inr (.inr ⟨h46, hin⟩)))⟩⟩
    · refine ⟨fun hlt => ⟨by omega, fun hn => skip (yF (decide_eq_false (by rw [← c1]; omega))), fun hn => ⟨by omega, emit (yT (decide_eq_true (by rw [← c1]; omega)) (.inl h33))⟩⟩, fun hlt => ⟨by omega, emit (yT (decide_eq_true (by rw [← c1]; omega)) (.inl h33))⟩⟩
    · refine ⟨fun hlt => ⟨by omega, fun hn => skip (yF (decide_eq_false (by rw [← c1]; omega))), fun hn => ⟨by omega, emit (yT (decide_eq_true (by rw [← c1]; omega)) (.inr (.inl h63)))⟩⟩, fun hlt => ⟨by omega, emit (yT (decide_eq_true (by rw [← c1]; omega)) (.inr (.inl h63)))⟩⟩
    · exact skip (by rw [hend]; simp [h46, h33, h63])
theorem iter_h {B yl : Nat} {s : ByteArray} (hs : s.size < 4611686018427387904) {S : List Nat} {w0 : World} {F : SHeap} {K : Value → SHeap → Prop} (I : List (List UInt8) → SHeap → Prop) (h0 : I [] F)
    (hy : ∀ l F x, l.length ≤ s.size → I l F → YieldH Tryd.prog yl ⟨[.string (ba x)]⟩ (tBlk B s :: F) S w0 (fun v L' => ∃ F', v = .bool true ∧ L' = tBlk B s :: F' ∧ I (l ++ [x]) F'))
    (hK : ∀ F, I (senOf (bts s)) F → K (.tuple #[]) (tBlk B s :: F)) : CallH Tryd.prog 86 ⟨[.func (.yield yl) #[] #[], .pointer (some ⟨B, 0, none⟩)]⟩ (tBlk B s :: F) S w0 K :=
  fun W hm => iter_vc yl B s F hm (iter_loop hs hy (fun F' hI => dkFin (hK F' hI)) s.size 0 0 [] F (by omega) (Nat.le_refl _) (Nat.zero_le _) h0 (senOf_at _).symm)
theorem CallH.old {P : Program} {g : FuncId} {args : Array Value} {L : SHeap} {w0 : World} {K : Value → SHeap → Prop} {B : Nat} {X : Obj} (hX : w0.heap[B]? = some X)
    (h : CallH P g args ((B, X) :: L) [B] w0 (fun v L' => ∃ F', L' = (B, X) :: F' ∧ K v F')) : CallH P g args L [] w0 K := by
  intro W hm
  have hB : B < w0.heap.size := (Array.getElem?_eq_some_iff.1 hX).1
  have hlt : ∀ p ∈ L, w0.heap.size ≤ p.1 := fun p hp => (hm.own p hp).resolve_right (by simp)
  refine (h W ⟨?_, ?_, ?_, ?_⟩).mono ?_
  · rw [List.map_cons, List.nodup_cons]
    refine ⟨fun h0 => ?_, hm.nodup⟩
    obtain ⟨q, hq, hqe⟩ := List.mem_map.1 h0
    have := hlt q hq
    omega
  · intro p hp
    rcases List.mem_cons.1 hp with rfl | hp
    · rw [hm.kept.block B hB (by simp)]; exact hX
    · exact hm.here p hp
  · intro p hp
    rcases List.mem_cons.1 hp with rfl | hp
    · exact .inr (by simp)
    · exact .inl (hlt p hp)
  · exact ⟨hm.kept.os, hm.kept.tape, hm.kept.output, hm.kept.size, fun i hi _ => hm.kept.block i hi (by simp)⟩
  · rintro e W' ⟨v, L', rfl, hm', F', rfl, hk⟩
    have hnd := hm'.nodup
    rw [List.map_cons, List.nodup_cons] at hnd
    refine ⟨v, F', rfl, ⟨hnd.2, fun p hp => hm'.here p (List.mem_cons_of_mem _ hp), fun p hp => ?_, ?_⟩, hk⟩
    · rcases hm'.own p (List.mem_cons_of_mem _ hp) with h1 | h1
      · exact .inl h1
      · exact absurd (List.mem_map_of_mem (f := fun x : Nat × Obj => x.1) hp) (by rw [List.mem_singleton.1 h1]; exact hnd.1)
    · refine ⟨hm'.kept.os, hm'.kept.tape, hm'.kept.output, hm'.kept.size, fun i hi _ => ?_⟩
      by_cases h1 : i = B
      · subst h1
        rw [hm'.here (i, X) List.mem_cons_self, hX]
      · exact hm'.kept.block i hi (by simp [h1])
def senB (s : ByteArray) : List ByteArray := (senOf (bts s)).map ba
def SRow (cs : List Value) (l : List (List UInt8)) : Prop := ∀ i (h : i < l.length), cs[i]? = some (.string (ba l[i]))
theorem SRow.app {cs r : List Value} {l : List (List UInt8)} {x : List UInt8} {cap : Nat} (h : SRow cs l) (h1 : l.length ≤ cap) (h2 : cs.length = cap * 1) : SRow (cs.take (l.length * 1) ++ [.string (ba x)] ++ r) (l ++ [x]) := by
  intro i hi
  rw [List.length_append, List.length_singleton] at hi
  rw [Nat.mul_one] at *
  rcases Nat.lt_or_ge i l.length with hlt | hge
  · rw [at_old hlt (by omega), List.getElem_append_left hlt]
    exact h i hlt
  · obtain rfl : i = l.length := by omega
    rw [at_new (by omega)]
    simp
theorem SRow.one {r : List Value} {x : List UInt8} : SRow ([.string (ba x)] ++ r) [x] := by
  intro i hi
  obtain rfl : i = 0 := by simp at hi; omega
  rfl
theorem SRow.sl {F : SHeap} {cs : List Value} {l : List (List UInt8)} {Q t : Nat} {fz : Nat × Nat} (h : SRow cs l) (hm : (Q, Obj.cells ⟨cs⟩ t fz) ∈ F) : StrsL (lkF F) (some ⟨Q, 0, none⟩) (l.map ba) :=
  fun _ => ⟨Q, 0, cs, rfl, ⟨t, fz, hm⟩, fun i hi => by
    rw [Nat.zero_add, h i (by simpa using hi)]; simp⟩
theorem StrsL.nil {lk : Lk} {p : Option Addr} : StrsL lk p [] := fun h => absurd h (by simp)
theorem permX (a b c d e x : Nat × Obj) (F : SHeap) : (a :: b :: c :: d :: e :: F ++ [x]).Perm (x :: c :: a :: d :: e :: b :: F) := by
  haveI : DecidableEq (Nat × Obj) := fun a b => Classical.propDecidable _
  refine List.perm_iff_count.2 fun y => ?_
  simp only [List.count_append, List.count_cons, List.cons_append, List.count_nil]
  omega
def SenOut (s : ByteArray) (v : Value) (F : SHeap) : Prop := ∃ p c, v = .slice p (senB s).length c ∧ (senB s).length ≤ c ∧ StrsL (lkF F) p (senB s)
theorem SenOut.mono {s : ByteArray} {v : Value} {F F' : SHeap} (h : SenOut s v F) (hl : ∀ x ∈ F, x ∈ F') : SenOut s v F' := by
  obtain ⟨p, c, h1, h2, h3⟩ := h
  exact ⟨p, c, h1, h2, h3.mono (lkF_mono hl)⟩
def AppI (B D l : Nat) (X : Obj) (q : List (List UInt8)) (F : SHeap) : Prop :=
  (q = [] ∧ F = [(B, .cells #[.slice none 0 0] 42), (D, .deferred (some [])), (l, X)]) ∨
  (∃ Q cap cs F1, q ≠ [] ∧ F = (B, .cells #[.slice (some ⟨Q, 0, none⟩) q.length cap] 42) :: (Q, .cells ⟨cs⟩ 9) :: (D, .deferred (some [])) :: (l, X) :: F1 ∧ q.length ≤ cap ∧ cs.length = cap * 1 ∧ SRow cs q)
theorem appSeq_e {Bt : Nat} {s : ByteArray} (hs : s.size ≤ 1099511627776) : EffW Tryd.prog 85 ⟨[.slice none 0 0, .func (.func 86) #[] #[.pointer (some ⟨Bt, 0, none⟩)]]⟩ [] (fun W => W.heap[Bt]? = some (.cells #[.string s] 9)) (SenOut s) := by
  intro W hm hX
  refine appSeq_vc Bt hm fun B D l t hT => ?_
  refine CallH.old hX (iter_h (by omega) (AppI B D l (loopO .ready none 85 t (sub (Eng.body Tryd.f85) [1, 0, 1, 0]) D)) (.inl ⟨rfl, rfl⟩) (fun q F x hq hI => ?_) fun F hI => ?_)
  · rcases hI with ⟨rfl, rfl⟩ | ⟨Q, cap, cs, F1, hne, rfl, h1, h2, h3⟩
    · refine YieldH.eff (L1 := [tBlk Bt s]) (K := fun v L' => ∃ B2 B1 cap1 r, 1 ≤ cap1 ∧ (([.string (ba x)] : List Value) ++ r).length = cap1 * 1 ∧ v = .bool true ∧ L' = (B2, .cells ⟨(([.string (ba x)] : List Value) ++ r)⟩ 9) :: (B1, .cells #[.string (ba x)] 9) :: (B, .cells #[.slice (some ⟨B2, 0, none⟩) 1 cap1] 42) :: (D, .deferred (some [])) :: (l, loopO .ready none 85 t (sub (Eng.body Tryd.f85) [1, 0, 1, 0]) D) :: []) (fun W' hm' => ?_) List.perm_append_comm ?_
      · exact appSeq_r0_vc Bt B [] (ba x) D l t hT fun B1 B2 cap1 r q1 q2 => ⟨B2, B1, cap1, r, q1, q2, rfl, rfl⟩
      · rintro v L' ⟨B2, B1, cap1, r, q1, q2, rfl, rfl⟩
        refine ⟨tBlk Bt s :: (B, .cells #[.slice (some ⟨B2, 0, none⟩) 1 cap1] 42) :: (B2, .cells ⟨(([.string (ba x)] : List Value) ++ r)⟩ 9) :: (D, .deferred (some [])) :: (l, loopO .ready none 85 t (sub (Eng.body Tryd.f85) [1, 0, 1, 0]) D) :: [(B1, .cells #[.string (ba x)] 9)], ?_, _, rfl, rfl, .inr ⟨B2, cap1, _, _, by simp, rfl, q1, q2, SRow.one⟩⟩
        exact permX _ _ _ _ _ _ []
    · refine YieldH.eff (L1 := [tBlk Bt s]) (K := fun v L' => ∃ B4 B3 cap2 r1, q.length + 1 ≤ cap2 ∧ ((cs).take (q.length * 1) ++ ([.string (ba x)] : List Value) ++ r1).length = cap2 * 1 ∧ v = .bool true ∧ L' = (B4, .cells ⟨((cs).take (q.length * 1) ++ ([.string (ba x)] : List Value) ++ r1)⟩ 9) :: (B3, .cells #[.string (ba x)] 9) :: (B, .cells #[.slice (some ⟨B4, 0, none⟩) (q.length + 1) cap2] 42) :: (D, .deferred (some [])) :: (l, loopO .ready none 85 t (sub (Eng.body Tryd.f85) [1, 0, 1, 0]) D) :: F1) (fun W' hm' => ?_) List.perm_append_comm ?_
      · exact appSeq_r1_vc Bt B q.length cap cs Q F1 (ba x) D l t hT fun B3 => ⟨⟨h1, h2⟩, by omega, fun B4 cap2 r1 q1 q2 => ⟨B4, B3, cap2, r1, q1, q2, rfl, rfl⟩⟩
      · rintro v L' ⟨B4, B3, cap2, r1, q1, q2, rfl, rfl⟩
        refine ⟨tBlk Bt s :: (B, .cells #[.slice (some ⟨B4, 0, none⟩) (q.length + 1) cap2] 42) :: (B4, .cells ⟨((cs).take (q.length * 1) ++ ([.string (ba x)] : List Value) ++ r1)⟩ 9) :: (D, .deferred (some [])) :: (l, loopO .ready none 85 t (sub (Eng.body Tryd.f85) [1, 0, 1, 0]) D) :: (B3, .cells #[.string (ba x)] 9) :: F1, ?_, _, rfl, rfl, .inr ⟨B4, cap2, _, (B3, .cells #[.string (ba x)] 9) :: F1, by simp, by simp, by simpa using q1, q2, SRow.app h3 h1 h2⟩⟩
        exact permX _ _ _ _ _ _ F1
  · refine ⟨F, rfl, ?_⟩
    have hlen : (senB s).length = (senOf (bts s)).length := by simp [senB]
    rcases hI with ⟨h, rfl⟩ | ⟨Q, cap, cs, F1, hne, rfl, h1, h2, h3⟩
    · refine .inl ⟨[], rfl, dkFin ⟨none, 0, ?_, ?_, ?_⟩⟩
      · rw [hlen, h]; rfl
      · rw [hlen, h]; exact Nat.le_refl _
      · rw [senB, h]; exact StrsL.nil
    · refine .inr ⟨_, cap, cs, Q, F1, rfl, dkFin ⟨_, cap, by rw [hlen], by rw [hlen]; exact h1, h3.sl (List.mem_cons_of_mem _ List.mem_cons_self)⟩⟩
end Go.Eng
namespace Go.Eng
open Go Go.RowKit Go.Proofs Wire
set_option linter.unusedVariables false
theorem Mem.old {L : SHeap} {w0 W : World} {B : Nat} {X : Obj} (hm : Mem L [] w0 W) (hX : w0.heap[B]? = some X) : W.heap[B]? = some X := by
  rw [hm.kept.block B (Array.getElem?_eq_some_iff.1 hX).1 (by simp)]; exact hX
theorem collect_e {Bt : Nat} {s : ByteArray} (hs : s.size ≤ 1099511627776) : EffW Tryd.prog 58 ⟨[.func (.func 86) #[] #[.pointer (some ⟨Bt, 0, none⟩)]]⟩ [] (fun W => W.heap[Bt]? = some (.cells #[.string s] 9)) (SenOut s) := by
  intro W hm hX
  refine collect_vc Bt hm (CallH.effWT [] (appSeq_e hs) (fun W' hm' => hm'.old hX) fun v F ⟨p, c, hv, hc, hF⟩ => ⟨p, _, c, F, hv, rfl, dkFin ⟨p, c, rfl, hc, hF⟩⟩)
theorem sentences_e {s : ByteArray} (hs : s.size ≤ 1099511627776) : EffC Tryd.prog 32 ⟨[.string s]⟩ [] (SenOut s) := by
  intro W hm
  refine sentences_vc s hm (CallH.effF (K := fun v L' => ∃ Bt, v = .func (.func 86) #[] #[.pointer (some ⟨Bt, 0, none⟩)] ∧ L' = [tBlk Bt s]) (fun W' hm' => sents_vc s hm' fun B => dkFin ⟨B, rfl, rfl⟩) ?_)
  rintro v L' ⟨Bt, rfl, rfl⟩
  refine ⟨Bt, rfl, rfl, CallH.effWT [tBlk Bt s] (collect_e hs) (fun W' hm' => hm'.here _ List.mem_cons_self) fun v F ⟨p, c, hv, hc, hF⟩ => ⟨p, _, c, F, hv, rfl, dkFin ⟨p, c, rfl, hc, hF.mono (lkF_mono fun x hx => List.mem_cons_of_mem _ hx)⟩⟩⟩
theorem SenOut.row {s : ByteArray} {Q cap t : Nat} {fz : Nat × Nat} {cs : List Value} {q : List (List UInt8)} {F : SHeap} (h : q = senOf (bts s)) (h1 : q.length ≤ cap) (h3 : SRow cs q) (hm : (Q, Obj.cells ⟨cs⟩ t fz) ∈ F) : SenOut s (.slice (some ⟨Q, 0, none⟩) q.length cap) F := by
  have hlen : (senB s).length = q.length := by simp [senB, h]
  refine ⟨_, cap, by rw [hlen], by rw [hlen]; exact h1, ?_⟩
  rw [senB, ← h]; exact h3.sl hm
theorem SenOut.none {s : ByteArray} {F : SHeap} (h : [] = senOf (bts s)) : SenOut s (.slice none 0 0) F := by
  refine ⟨Option.none, 0, ?_, ?_, ?_⟩
  · rw [senB, ← h]; rfl
  · rw [senB, ← h]; exact Nat.le_refl _
  · rw [senB, ← h]; exact StrsL.nil
def joinS : List (List UInt8) → List UInt8
  | [] => []
  | x :: r => x ++ r.flatMap (32 :: ·)
def joinL (l : List ByteArray) : List UInt8 := joinS (l.map bts)
theorem StrsL.lk {lk : Lk} {p : Option Addr} {l : List ByteArray} (h : StrsL lk p l) : True := trivial
end Go.Eng
