/- A part of the proof: the engine by which functions are walked, verification conditions that a program of the prover wrote, contracts and plain laws; no claim of its own. -/
import Derived.Test.YtombejccmojjbaaGreatDoorChecked
import Derived.Test.YtombejccmojjbaaGreatDoorRedF
namespace Go.Eng
open Go Go.RowKit Go.Proofs
set_option linter.unusedVariables false
set_option maxRecDepth 100000
abbrev few5A0 : Array Value := #[.int .i64 (0 : Int), .int .i64 (0 : Int), .int .i64 (0 : Int), .int .i64 (0 : Int), .string (⟨#[]⟩), .int .i64 (0 : Int), .int .i64 (0 : Int), .string (⟨#[]⟩), .string (⟨#[]⟩), .slice none 0 0, .slice none 0 0, .int .i64 (0 : Int), .slice none 0 0, .int .i64 (0 : Int), .int .i64 (0 : Int), .int .i64 (0 : Int), .int .i64 (0 : Int), .int .i64 (0 : Int), .string (⟨#[]⟩), .string (⟨#[]⟩), .int .i64 (0 : Int), .int .i64 (0 : Int), .int .i64 (0 : Int)]
abbrev few5A1 (f : Fct) (m91_p : Option Addr) (m91_l : Nat) (m91_c : Nat) (B9 : Nat) (l_l : Nat) (l_c : Nat) (m121_p : Option Addr) (m121_l : Nat) (m121_c : Nat) : Array Value := #[.int .i64 f.n, .int .i64 f.time, .int .i64 f.kind, .int .i64 f.story, .string f.lang, .int .i64 f.rev, .int .i64 f.base, .string (f.title.extract 0 (Int.toNat (if (400 : Int) < (f.title.size : Int) then (400 : Int) else (f.title.size : Int)))), .string f.author, .slice m91_p m91_l m91_c, .slice (some ⟨B9, 0, none⟩) l_l l_c, .int .i64 f.lab.unt, .slice m121_p m121_l m121_c, .int .i64 f.lab.appr, .int .i64 f.lab.den, .int .i64 f.editor, .int .i64 f.block, .int .i64 f.sentence, .string (f.text.extract 0 (Int.toNat (if (1200 : Int) < (f.text.size : Int) then (1200 : Int) else (f.text.size : Int)))), .string f.name, .int .i64 f.partner, .int .i64 f.cls, .int .i64 f.unt]
abbrev few5A2 (f : Fct) (m9_p : Option Addr) (m9_l : Nat) (m9_c : Nat) (m12_p : Option Addr) (m12_l : Nat) (m12_c : Nat) : Array Value := #[.int .i64 f.n, .int .i64 f.time, .int .i64 f.kind, .int .i64 f.story, .string f.lang, .int .i64 f.rev, .int .i64 f.base, .string (f.title.extract 0 (Int.toNat (if (400 : Int) < (f.title.size : Int) then (400 : Int) else (f.title.size : Int)))), .string f.author, .slice m9_p m9_l m9_c, .slice none 0 0, .int .i64 f.lab.unt, .slice m12_p m12_l m12_c, .int .i64 f.lab.appr, .int .i64 f.lab.den, .int .i64 f.editor, .int .i64 f.block, .int .i64 f.sentence, .string (f.text.extract 0 (Int.toNat (if (1200 : Int) < (f.text.size : Int) then (1200 : Int) else (f.text.size : Int)))), .string f.name, .int .i64 f.partner, .int .i64 f.cls, .int .i64 f.unt]
abbrev few5A3 (f : Fct) (m9_p : Option Addr) (m9_l : Nat) (m9_c : Nat) (m10_p : Option Addr) (m10_l : Nat) (m10_c : Nat) (m12_p : Option Addr) (m12_l : Nat) (m12_c : Nat) : Array Value := #[.int .i64 f.n, .int .i64 f.time, .int .i64 f.kind, .int .i64 f.story, .string f.lang, .int .i64 f.rev, .int .i64 f.base, .string f.title, .string f.author, .slice m9_p m9_l m9_c, .slice m10_p m10_l m10_c, .int .i64 f.lab.unt, .slice m12_p m12_l m12_c, .int .i64 f.lab.appr, .int .i64 f.lab.den, .int .i64 f.editor, .int .i64 f.block, .int .i64 f.sentence, .string f.text, .string f.name, .int .i64 f.partner, .int .i64 f.cls, .int .i64 f.unt]
abbrev few5A4 (f : Fct) (m91_p : Option Addr) (m91_l : Nat) (m91_c : Nat) (m101_p : Option Addr) (m101_l : Nat) (m101_c : Nat) (m121_p : Option Addr) (m121_l : Nat) (m121_c : Nat) : Array Value := #[.int .i64 f.n, .int .i64 f.time, .int .i64 f.kind, .int .i64 f.story, .string f.lang, .int .i64 f.rev, .int .i64 f.base, .string f.title, .string f.author, .slice m91_p m91_l m91_c, .slice m101_p m101_l m101_c, .int .i64 f.lab.unt, .slice m121_p m121_l m121_c, .int .i64 f.lab.appr, .int .i64 f.lab.den, .int .i64 f.editor, .int .i64 f.block, .int .i64 f.sentence, .string f.text, .string f.name, .int .i64 f.partner, .int .i64 f.cls, .int .i64 f.unt]
abbrev few5A5 : Array Value := #[.int .i64 (0 : Int), .int .i64 (0 : Int), .string (⟨#[]⟩), .int .i64 (0 : Int), .int .i64 (0 : Int), .int .i64 (0 : Int), .slice none 0 0, .int .i64 (0 : Int), .int .i64 (0 : Int)]
abbrev few5A6 (f : Fct) (ftp : Option Addr) (ftc : Nat) (fbp : Option Addr) (fbc : Nat) (fap : Option Addr) (fac : Nat) : Array Value := #[.int .i64 f.n, .int .i64 f.time, .int .i64 f.kind, .int .i64 f.story, .string f.lang, .int .i64 f.rev, .int .i64 f.base, .string f.title, .string f.author, .slice ftp f.topics.length ftc, .slice fbp f.blocks.length fbc, .int .i64 f.lab.unt, .slice fap f.lab.after.length fac, .int .i64 f.lab.appr, .int .i64 f.lab.den, .int .i64 f.editor, .int .i64 f.block, .int .i64 f.sentence, .string f.text, .string f.name, .int .i64 f.partner, .int .i64 f.cls, .int .i64 f.unt]
abbrev few5A7 (m21 : Blk) (m21p : Option Addr) (m21c : Nat) : Array Value := #[.int .i64 m21.id, .int .i64 m21.kind, .string (m21.text.extract 0 (Int.toNat (if (400 : Int) < (m21.text.size : Int) then (400 : Int) else (m21.text.size : Int)))), .int .i64 m21.story, .int .i64 m21.ref, .int .i64 m21.lab.unt, .slice m21p (Int.toNat (if (70 : Int) < (m21.lab.after.length : Int) then (70 : Int) else (m21.lab.after.length : Int))) m21c, .int .i64 m21.lab.appr, .int .i64 m21.lab.den]
abbrev few5A8 (m1 : Blk) (m1p : Option Addr) (m1c : Nat) : Array Value := #[.int .i64 m1.id, .int .i64 m1.kind, .string (m1.text.extract 0 (Int.toNat (if (400 : Int) < (m1.text.size : Int) then (400 : Int) else (m1.text.size : Int)))), .int .i64 m1.story, .int .i64 m1.ref, .int .i64 m1.lab.unt, .slice m1p (Int.toNat (if (70 : Int) < (m1.lab.after.length : Int) then (70 : Int) else (m1.lab.after.length : Int))) m1c, .int .i64 m1.lab.appr, .int .i64 m1.lab.den]
abbrev few5A9 (m21 : Blk) (m21p : Option Addr) (m21c : Nat) : Array Value := #[.int .i64 m21.id, .int .i64 m21.kind, .string m21.text, .int .i64 m21.story, .int .i64 m21.ref, .int .i64 m21.lab.unt, .slice m21p m21.lab.after.length m21c, .int .i64 m21.lab.appr, .int .i64 m21.lab.den]
abbrev few5A10 (m1 : Blk) (m1p : Option Addr) (m1c : Nat) : Array Value := #[.int .i64 m1.id, .int .i64 m1.kind, .string m1.text, .int .i64 m1.story, .int .i64 m1.ref, .int .i64 m1.lab.unt, .slice m1p m1.lab.after.length m1c, .int .i64 m1.lab.appr, .int .i64 m1.lab.den]
def few5_c0 (f : Fct) (ftp : Option Addr) (ftc : Nat) (fbp : Option Addr) (fbc : Nat) (fap : Option Addr) (fac : Nat) (B2 : Nat) (B3 : Nat) (i : Int) (m9_p : Option Addr) (m9_l : Nat) (m9_c : Nat) (m10_p : Option Addr) (m10_l : Nat) (m10_c : Nat) (m12_p : Option Addr) (m12_l : Nat) (m12_c : Nat) (w0 : World) (R : Ending → World → Prop) : Prop :=
 AtE Tryz.prog 18 87 [.code (sub (Eng.body Tryz.f18) [1,1,1,1,1,0,1,0,0]), .inLoop (sub (Eng.body Tryz.f18) [1,1,1,1,1,0,1,0,0]), .inBlock 0, .code (sub (Eng.body Tryz.f18) [1,1,1,1,1,1])] [(1, .pointer (some ⟨B2, 0, none⟩)), (2, .pointer (some ⟨B3, 0, none⟩)), (3, .slice none 0 0), (4, .int .i64 i)] [(B2, .cells (few5A3 f m9_p m9_l m9_c m10_p m10_l m10_c m12_p m12_l m12_c) 28), (B3, .cells few5A0 28)] [] w0 (nrm R)
def few5_c1 (f : Fct) (ftp : Option Addr) (ftc : Nat) (fbp : Option Addr) (fbc : Nat) (fap : Option Addr) (fac : Nat) (B7 : Nat) (B8 : Nat) (B9 : Nat) (l_l : Nat) (l_c : Nat) (i2 : Int) (m91_p : Option Addr) (m91_l : Nat) (m91_c : Nat) (m101_p : Option Addr) (m101_l : Nat) (m101_c : Nat) (m121_p : Option Addr) (m121_l : Nat) (m121_c : Nat) (cs : List Value) (w0 : World) (R : Ending → World → Prop) : Prop :=
 AtE Tryz.prog 18 87 [.code (sub (Eng.body Tryz.f18) [1,1,1,1,1,0,1,0,0]), .inLoop (sub (Eng.body Tryz.f18) [1,1,1,1,1,0,1,0,0]), .inBlock 0, .code (sub (Eng.body Tryz.f18) [1,1,1,1,1,1])] [(1, .pointer (some ⟨B7, 0, none⟩)), (2, .pointer (some ⟨B8, 0, none⟩)), (3, .slice (some ⟨B9, 0, none⟩) l_l l_c), (4, .int .i64 i2)] [(B7, .cells (few5A4 f m91_p m91_l m91_c m101_p m101_l m101_c m121_p m121_l m121_c) 28), (B8, .cells few5A0 28), (B9, .cells ⟨cs⟩ 89)] [] w0 (nrm R)
theorem few5_c0_vc (f : Fct) (ftp : Option Addr) (ftc : Nat) (fbp : Option Addr) (fbc : Nat) (fap : Option Addr) (fac : Nat) (B2 : Nat) (B3 : Nat) (i : Int) (m9_p : Option Addr) (m9_l : Nat) (m9_c : Nat) (m10_p : Option Addr) (m10_l : Nat) (m10_c : Nat) (m12_p : Option Addr) (m12_l : Nat) (m12_c : Nat) {R : Ending → World → Prop} {w0 : World}
  (H :
   ((i < (m10_l : Int)) →
    ∃ m10_pb m10_po : Nat, m10_p = some ⟨m10_pb, m10_po, none⟩ ∧ (0 ≤ i ∧ i < m10_l) ∧
    ∃ (cw : List Value) (m1 : Blk) (m1p : Option Addr) (m1c : Nat), blkW w0 m10_pb = some cw ∧ ((cw.drop (m10_po + ((Int.toNat i) * 9))).take 9 = [.int .i64 m1.id, .int .i64 m1.kind, .string m1.text, .int .i64 m1.story, .int .i64 m1.ref, .int .i64 m1.lab.unt, .slice m1p m1.lab.after.length m1c, .int .i64 m1.lab.appr, .int .i64 m1.lab.den] ∧ (m10_po + ((Int.toNat i) * 9)) + 9 ≤ cw.length) ∧
    ∀ B4 : Nat,
    (0 ≤ (0 : Int) ∧ (0 : Int) ≤ (if (400 : Int) < (m1.text.size : Int) then (400 : Int) else (m1.text.size : Int)) ∧ (if (400 : Int) < (m1.text.size : Int) then (400 : Int) else (m1.text.size : Int)) ≤ m1.text.size) ∧
    (0 ≤ (if (70 : Int) < (m1.lab.after.length : Int) then (70 : Int) else (m1.lab.after.length : Int)) ∧ (if (70 : Int) < (m1.lab.after.length : Int) then (70 : Int) else (m1.lab.after.length : Int)) ≤ (m1c : Int)) ∧
    ∀ B5 : Nat,
    ∀ (B6 cap : Nat) (r : List Value), 1 ≤ cap → (([.int .i64 m1.id, .int .i64 m1.kind, .string (m1.text.extract 0 (Int.toNat (if (400 : Int) < (m1.text.size : Int) then (400 : Int) else (m1.text.size : Int)))), .int .i64 m1.story, .int .i64 m1.ref, .int .i64 m1.lab.unt, .slice m1p (Int.toNat (if (70 : Int) < (m1.lab.after.length : Int) then (70 : Int) else (m1.lab.after.length : Int))) m1c, .int .i64 m1.lab.appr, .int .i64 m1.lab.den] : List Value) ++ r).length = cap * 9 →
    ∀ i1 : Int, i1 = (IntKind.i64.wrap (i + (1 : Int))) →
    few5_c1 f ftp ftc fbp fbc fap fac B2 B3 B6 1 cap i1 m9_p m9_l m9_c m10_p m10_l m10_c m12_p m12_l m12_c (([.int .i64 m1.id, .int .i64 m1.kind, .string (m1.text.extract 0 (Int.toNat (if (400 : Int) < (m1.text.size : Int) then (400 : Int) else (m1.text.size : Int)))), .int .i64 m1.story, .int .i64 m1.ref, .int .i64 m1.lab.unt, .slice m1p (Int.toNat (if (70 : Int) < (m1.lab.after.length : Int) then (70 : Int) else (m1.lab.after.length : Int))) m1c, .int .i64 m1.lab.appr, .int .i64 m1.lab.den] : List Value) ++ r) w0 R) ∧
    ((¬ (i < (m10_l : Int))) →
    (0 ≤ (0 : Int) ∧ (0 : Int) ≤ (if (400 : Int) < (f.title.size : Int) then (400 : Int) else (f.title.size : Int)) ∧ (if (400 : Int) < (f.title.size : Int) then (400 : Int) else (f.title.size : Int)) ≤ f.title.size) ∧
    (0 ≤ (0 : Int) ∧ (0 : Int) ≤ (if (1200 : Int) < (f.text.size : Int) then (1200 : Int) else (f.text.size : Int)) ∧ (if (1200 : Int) < (f.text.size : Int) then (1200 : Int) else (f.text.size : Int)) ≤ f.text.size) ∧
    Fin R [(B2, .cells (few5A2 f m9_p m9_l m9_c m12_p m12_l m12_c) 28), (B3, .cells (few5A2 f m9_p m9_l m9_c m12_p m12_l m12_c) 28)] [] w0 (.agg (few5A2 f m9_p m9_l m9_c m12_p m12_l m12_c)))) :
  few5_c0 f ftp ftc fbp fbc fap fac B2 B3 i m9_p m9_l m9_c m10_p m10_l m10_c m12_p m12_l m12_c w0 R := by
 unfold few5_c0
 refine AtE.ru 5 ?_
 refine AtE.load 0 10 (T := 23) (v := .slice m10_p m10_l m10_c) (by kernel_rfl) ?_
 refine AtE.ru 3 ?_
 refine AtE.splitP 37 (p := i < (m10_l : Int)) (by kernel_rfl) (fun h1' => ?_) (fun h1' => ?_)
 ·replace H := H.1 h1'
  refine AtE.ru 7 ?_
  refine AtE.load 0 10 (T := 23) (v := .slice m10_p m10_l m10_c) (by kernel_rfl) ?_
  refine AtE.ru 1 ?_
  obtain ⟨m10_pb, m10_po, hp, H⟩ := H
  refine AtE.indexAddrP (E := 89) (p := m10_p) (b := m10_pb) (o := m10_po) (len := m10_l) (cap := m10_c) (sz := 9) (o' := (m10_po + ((Int.toNat i) * 9))) (kd := .i64) (i := i) hp (by kernel_rfl) H.1 (by omega) ?_
  replace H := H.2
  obtain ⟨cw, m1, m1p, m1c, hw, hx, H⟩ := H
  refine AtE.loadW (b := m10_pb) (off := (m10_po + ((Int.toNat i) * 9))) (T := 89) (v := .agg (few5A10 m1 m1p m1c)) (by kernel_rfl) List.not_mem_nil hw (valAt_agg hx.1 hx.2 (by kernel_rfl) (by kernel_rfl)) ?_
  refine AtE.new (fun B => .pointer (some ⟨B, 0, none⟩)) (.cells few5A5 89) (fun W => by kernel_rfl) (by kernel_rfl) (fun B4 => ?_)
  replace H := H B4
  refine AtE.store 2 0 (T := 89) (v := .agg (few5A10 m1 m1p m1c)) (by kernel_rfl) ?_
  refine AtE.norm (k' := [.inRegion (regOps [.code (sub (Eng.body Tryz.f18) [1,1,1,1,1,0,1,0,0,1,0,0,0])]) [], .code (sub (Eng.body Tryz.f18) [1,1,1,1,1,0,1,0,0,1,0,0,1]), .inBlock 1, .code (sub (Eng.body Tryz.f18) [1,1,1,1,1,0,1,0,0,1,1]), .inLoop (sub (Eng.body Tryz.f18) [1,1,1,1,1,0,1,0,0]), .inBlock 0, .code (sub (Eng.body Tryz.f18) [1,1,1,1,1,1])]) (e' := [(1, .pointer (some ⟨B2, 0, none⟩)), (2, .pointer (some ⟨B3, 0, none⟩)), (3, .slice none 0 0), (4, .int .i64 i), (5, .pointer (some ⟨B4, 0, none⟩))]) (L' := [(B2, .cells (few5A3 f m9_p m9_l m9_c m10_p m10_l m10_c m12_p m12_l m12_c) 28), (B3, .cells few5A0 28), (B4, .cells (few5A10 m1 m1p m1c) 89)]) ?_ (by kernel_rfl)
  refine AtE.ru 4 ?_
  refine AtE.load 2 2 (T := 9) (v := .string m1.text) (by kernel_rfl) ?_
  refine AtE.ru 1 ?_
  refine AtE.load 2 2 (T := 9) (v := .string m1.text) (by kernel_rfl) ?_
  refine AtE.ru 2 ?_
  refine AtE.sliceS (s := m1.text) (lo := none) (hi := some (.int .i64 (if (400 : Int) < (m1.text.size : Int) then (400 : Int) else (m1.text.size : Int)))) (a := (0 : Int)) (b := (if (400 : Int) < (m1.text.size : Int) then (400 : Int) else (m1.text.size : Int))) (by kernel_rfl) (.inr ⟨rfl, rfl⟩) (.inl ⟨.i64, rfl⟩) H.1 ?_
  replace H := H.2
  refine AtE.ru 1 ?_
  refine AtE.store 2 2 (T := 9) (v := .string (m1.text.extract 0 (Int.toNat (if (400 : Int) < (m1.text.size : Int) then (400 : Int) else (m1.text.size : Int))))) (by kernel_rfl) ?_
  refine AtE.ru 5 ?_
  refine AtE.load 2 6 (T := 24) (v := .slice m1p m1.lab.after.length m1c) (by kernel_rfl) ?_
  refine AtE.ru 2 ?_
  refine AtE.load 2 6 (T := 24) (v := .slice m1p m1.lab.after.length m1c) (by kernel_rfl) ?_
  refine AtE.ru 2 ?_
  refine AtE.sliceU (E := 3) (p := m1p) (len := m1.lab.after.length) (cap := m1c) (sz := 1) (lo := none) (hi := some (.int .i64 (if (70 : Int) < (m1.lab.after.length : Int) then (70 : Int) else (m1.lab.after.length : Int)))) (y := (if (70 : Int) < (m1.lab.after.length : Int) then (70 : Int) else (m1.lab.after.length : Int))) (by kernel_rfl) (.inr rfl) (.inl ⟨.i64, rfl⟩) H.1 ?_
  replace H := H.2
  refine AtE.norm (k' := [.inRegion (regOps [.code (sub (Eng.body Tryz.f18) [1,1,1,1,1,0,1,0,0,1,0,0,1,1,0])]) [9,10,11], .code (sub (Eng.body Tryz.f18) [1,1,1,1,1,0,1,0,0,1,0,0,1,1,1]), .inBlock 1, .code (sub (Eng.body Tryz.f18) [1,1,1,1,1,0,1,0,0,1,1]), .inLoop (sub (Eng.body Tryz.f18) [1,1,1,1,1,0,1,0,0]), .inBlock 0, .code (sub (Eng.body Tryz.f18) [1,1,1,1,1,1])]) (e' := [(1, .pointer (some ⟨B2, 0, none⟩)), (2, .pointer (some ⟨B3, 0, none⟩)), (3, .slice none 0 0), (4, .int .i64 i), (5, .pointer (some ⟨B4, 0, none⟩)), (61, .slice m1p (Int.toNat (if (70 : Int) < (m1.lab.after.length : Int) then (70 : Int) else (m1.lab.after.length : Int))) m1c)]) (L' := [(B2, .cells (few5A3 f m9_p m9_l m9_c m10_p m10_l m10_c m12_p m12_l m12_c) 28), (B3, .cells few5A0 28), (B4, .cells #[.int .i64 m1.id, .int .i64 m1.kind, .string (m1.text.extract 0 (Int.toNat (if (400 : Int) < (m1.text.size : Int) then (400 : Int) else (m1.text.size : Int)))), .int .i64 m1.story, .int .i64 m1.ref, .int .i64 m1.lab.unt, .slice m1p m1.lab.after.length m1c, .int .i64 m1.lab.appr, .int .i64 m1.lab.den] 89)]) ?_ (by kernel_rfl)
  refine AtE.ru 2 ?_
  refine AtE.store 2 6 (T := 24) (v := .slice m1p (Int.toNat (if (70 : Int) < (m1.lab.after.length : Int) then (70 : Int) else (m1.lab.after.length : Int))) m1c) (by kernel_rfl) ?_
  refine AtE.ru 3 ?_
  refine AtE.load 2 0 (T := 89) (v := .agg (few5A8 m1 m1p m1c)) (by kernel_rfl) ?_
  refine AtE.new (fun B => .slice (some ⟨B, 0, none⟩) 1 1) (.cells (few5A8 m1 m1p m1c) 89) (fun W => by kernel_rfl) (by kernel_rfl) (fun B5 => ?_)
  replace H := H B5
  refine AtE.appendN (T := 23) (E := 89) (z := .agg few5A5) (sz := 9) (bytes := 96) (a := ⟨B5, 0, none⟩) (m := 1) (c := 1) ([.int .i64 m1.id, .int .i64 m1.kind, .string (m1.text.extract 0 (Int.toNat (if (400 : Int) < (m1.text.size : Int) then (400 : Int) else (m1.text.size : Int)))), .int .i64 m1.story, .int .i64 m1.ref, .int .i64 m1.lab.unt, .slice m1p (Int.toNat (if (70 : Int) < (m1.lab.after.length : Int) then (70 : Int) else (m1.lab.after.length : Int))) m1c, .int .i64 m1.lab.appr, .int .i64 m1.lab.den] : List Value) (by kernel_rfl) (show Src _ _ _ _ ([.int .i64 m1.id, .int .i64 m1.kind, .string (m1.text.extract 0 (Int.toNat (if (400 : Int) < (m1.text.size : Int) then (400 : Int) else (m1.text.size : Int)))), .int .i64 m1.story, .int .i64 m1.ref, .int .i64 m1.lab.unt, .slice m1p (Int.toNat (if (70 : Int) < (m1.lab.after.length : Int) then (70 : Int) else (m1.lab.after.length : Int))) m1c, .int .i64 m1.lab.appr, .int .i64 m1.lab.den] : List Value) from Src.own (j := 3) (o := 0) (n := 9) (c := ([.int .i64 m1.id, .int .i64 m1.kind, .string (m1.text.extract 0 (Int.toNat (if (400 : Int) < (m1.text.size : Int) then (400 : Int) else (m1.text.size : Int)))), .int .i64 m1.story, .int .i64 m1.ref, .int .i64 m1.lab.unt, .slice m1p (Int.toNat (if (70 : Int) < (m1.lab.after.length : Int) then (70 : Int) else (m1.lab.after.length : Int))) m1c, .int .i64 m1.lab.appr, .int .i64 m1.lab.den] : List Value)) (by kernel_rfl)) (by simp) (by omega) (by omega) (fun B6 cap r h1 h2 => ?_)
  replace H := H B6 cap r h1 h2
  refine AtE.ru 7 ?_
  refine AtE.letI 4 (kd := .i64) (n := (IntKind.i64.wrap (i + (1 : Int)))) (by kernel_rfl) (fun i1 hi1 => ?_)
  replace H := H i1 hi1
  refine AtE.ru 2 ?_
  exact AtE.cut [0,1,4] H (by kernel_rfl)
 ·replace H := H.2 h1'
  refine AtE.ru 6 ?_
  refine AtE.store 0 10 (T := 23) (v := .slice none 0 0) (by kernel_rfl) ?_
  refine AtE.ru 4 ?_
  refine AtE.load 0 7 (T := 9) (v := .string f.title) (by kernel_rfl) ?_
  refine AtE.ru 1 ?_
  refine AtE.load 0 7 (T := 9) (v := .string f.title) (by kernel_rfl) ?_
  refine AtE.ru 2 ?_
  refine AtE.sliceS (s := f.title) (lo := none) (hi := some (.int .i64 (if (400 : Int) < (f.title.size : Int) then (400 : Int) else (f.title.size : Int)))) (a := (0 : Int)) (b := (if (400 : Int) < (f.title.size : Int) then (400 : Int) else (f.title.size : Int))) (by kernel_rfl) (.inr ⟨rfl, rfl⟩) (.inl ⟨.i64, rfl⟩) H.1 ?_
  replace H := H.2
  refine AtE.ru 1 ?_
  refine AtE.store 0 7 (T := 9) (v := .string (f.title.extract 0 (Int.toNat (if (400 : Int) < (f.title.size : Int) then (400 : Int) else (f.title.size : Int))))) (by kernel_rfl) ?_
  refine AtE.norm (k' := [.inRegion (regOps [.code (sub (Eng.body Tryz.f18) [1,1,1,1,1,1,1,0])]) [], .code (sub (Eng.body Tryz.f18) [1,1,1,1,1,1,1,1])]) (e' := [(1, .pointer (some ⟨B2, 0, none⟩)), (2, .pointer (some ⟨B3, 0, none⟩))]) (L' := [(B2, .cells #[.int .i64 f.n, .int .i64 f.time, .int .i64 f.kind, .int .i64 f.story, .string f.lang, .int .i64 f.rev, .int .i64 f.base, .string (f.title.extract 0 (Int.toNat (if (400 : Int) < (f.title.size : Int) then (400 : Int) else (f.title.size : Int)))), .string f.author, .slice m9_p m9_l m9_c, .slice none 0 0, .int .i64 f.lab.unt, .slice m12_p m12_l m12_c, .int .i64 f.lab.appr, .int .i64 f.lab.den, .int .i64 f.editor, .int .i64 f.block, .int .i64 f.sentence, .string f.text, .string f.name, .int .i64 f.partner, .int .i64 f.cls, .int .i64 f.unt] 28), (B3, .cells few5A0 28)]) ?_ (by kernel_rfl)
  refine AtE.ru 4 ?_
  refine AtE.load 0 18 (T := 9) (v := .string f.text) (by kernel_rfl) ?_
  refine AtE.ru 1 ?_
  refine AtE.load 0 18 (T := 9) (v := .string f.text) (by kernel_rfl) ?_
  refine AtE.ru 2 ?_
  refine AtE.sliceS (s := f.text) (lo := none) (hi := some (.int .i64 (if (1200 : Int) < (f.text.size : Int) then (1200 : Int) else (f.text.size : Int)))) (a := (0 : Int)) (b := (if (1200 : Int) < (f.text.size : Int) then (1200 : Int) else (f.text.size : Int))) (by kernel_rfl) (.inr ⟨rfl, rfl⟩) (.inl ⟨.i64, rfl⟩) H.1 ?_
  replace H := H.2
  refine AtE.ru 1 ?_
  refine AtE.store 0 18 (T := 9) (v := .string (f.text.extract 0 (Int.toNat (if (1200 : Int) < (f.text.size : Int) then (1200 : Int) else (f.text.size : Int))))) (by kernel_rfl) ?_
  refine AtE.ru 3 ?_
  refine AtE.load 0 0 (T := 28) (v := .agg (few5A2 f m9_p m9_l m9_c m12_p m12_l m12_c)) (by kernel_rfl) ?_
  refine AtE.store 1 0 (T := 28) (v := .agg (few5A2 f m9_p m9_l m9_c m12_p m12_l m12_c)) (by kernel_rfl) ?_
  refine AtE.ru 1 ?_
  exact AtE.retC 1 0 (a := 2) (T := 28) (v := .agg (few5A2 f m9_p m9_l m9_c m12_p m12_l m12_c)) Tryz.func18 (by kernel_rfl) (by kernel_rfl) H
theorem few5_c1_vc (f : Fct) (ftp : Option Addr) (ftc : Nat) (fbp : Option Addr) (fbc : Nat) (fap : Option Addr) (fac : Nat) (B7 : Nat) (B8 : Nat) (B9 : Nat) (l_l : Nat) (l_c : Nat) (i2 : Int) (m91_p : Option Addr) (m91_l : Nat) (m91_c : Nat) (m101_p : Option Addr) (m101_l : Nat) (m101_c : Nat) (m121_p : Option Addr) (m121_l : Nat) (m121_c : Nat) (cs : List Value) {R : Ending → World → Prop} {w0 : World}
  (H :
   ((i2 < (m101_l : Int)) →
    ∃ m101_pb m101_po : Nat, m101_p = some ⟨m101_pb, m101_po, none⟩ ∧ (0 ≤ i2 ∧ i2 < m101_l) ∧
    ∃ (cw1 : List Value) (m21 : Blk) (m21p : Option Addr) (m21c : Nat), blkW w0 m101_pb = some cw1 ∧ ((cw1.drop (m101_po + ((Int.toNat i2) * 9))).take 9 = [.int .i64 m21.id, .int .i64 m21.kind, .string m21.text, .int .i64 m21.story, .int .i64 m21.ref, .int .i64 m21.lab.unt, .slice m21p m21.lab.after.length m21c, .int .i64 m21.lab.appr, .int .i64 m21.lab.den] ∧ (m101_po + ((Int.toNat i2) * 9)) + 9 ≤ cw1.length) ∧
    ∀ B10 : Nat,
    (0 ≤ (0 : Int) ∧ (0 : Int) ≤ (if (400 : Int) < (m21.text.size : Int) then (400 : Int) else (m21.text.size : Int)) ∧ (if (400 : Int) < (m21.text.size : Int) then (400 : Int) else (m21.text.size : Int)) ≤ m21.text.size) ∧
    (0 ≤ (if (70 : Int) < (m21.lab.after.length : Int) then (70 : Int) else (m21.lab.after.length : Int)) ∧ (if (70 : Int) < (m21.lab.after.length : Int) then (70 : Int) else (m21.lab.after.length : Int)) ≤ (m21c : Int)) ∧
    ∀ B11 : Nat,
    (l_l ≤ l_c ∧ (cs).length = l_c * 9) ∧ ((l_l + 1) ≤ 9223372036854775807 ∧ (l_l + 1) * 96 ≤ 140737488355328) ∧
    ∀ (B12 cap1 : Nat) (r1 : List Value), (l_l + 1) ≤ cap1 → ((cs).take (l_l * 9) ++ ([.int .i64 m21.id, .int .i64 m21.kind, .string (m21.text.extract 0 (Int.toNat (if (400 : Int) < (m21.text.size : Int) then (400 : Int) else (m21.text.size : Int)))), .int .i64 m21.story, .int .i64 m21.ref, .int .i64 m21.lab.unt, .slice m21p (Int.toNat (if (70 : Int) < (m21.lab.after.length : Int) then (70 : Int) else (m21.lab.after.length : Int))) m21c, .int .i64 m21.lab.appr, .int .i64 m21.lab.den] : List Value) ++ r1).length = cap1 * 9 →
    ∀ i3 : Int, i3 = (IntKind.i64.wrap (i2 + (1 : Int))) →
    few5_c1 f ftp ftc fbp fbc fap fac B7 B8 B12 (l_l + 1) cap1 i3 m91_p m91_l m91_c m101_p m101_l m101_c m121_p m121_l m121_c ((cs).take (l_l * 9) ++ ([.int .i64 m21.id, .int .i64 m21.kind, .string (m21.text.extract 0 (Int.toNat (if (400 : Int) < (m21.text.size : Int) then (400 : Int) else (m21.text.size : Int)))), .int .i64 m21.story, .int .i64 m21.ref, .int .i64 m21.lab.unt, .slice m21p (Int.toNat (if (70 : Int) < (m21.lab.after.length : Int) then (70 : Int) else (m21.lab.after.length : Int))) m21c, .int .i64 m21.lab.appr, .int .i64 m21.lab.den] : List Value) ++ r1) w0 R) ∧
    ((¬ (i2 < (m101_l : Int))) →
    (0 ≤ (0 : Int) ∧ (0 : Int) ≤ (if (400 : Int) < (f.title.size : Int) then (400 : Int) else (f.title.size : Int)) ∧ (if (400 : Int) < (f.title.size : Int) then (400 : Int) else (f.title.size : Int)) ≤ f.title.size) ∧
    (0 ≤ (0 : Int) ∧ (0 : Int) ≤ (if (1200 : Int) < (f.text.size : Int) then (1200 : Int) else (f.text.size : Int)) ∧ (if (1200 : Int) < (f.text.size : Int) then (1200 : Int) else (f.text.size : Int)) ≤ f.text.size) ∧
    Fin R [(B7, .cells (few5A1 f m91_p m91_l m91_c B9 l_l l_c m121_p m121_l m121_c) 28), (B8, .cells (few5A1 f m91_p m91_l m91_c B9 l_l l_c m121_p m121_l m121_c) 28), (B9, .cells ⟨cs⟩ 89)] [] w0 (.agg (few5A1 f m91_p m91_l m91_c B9 l_l l_c m121_p m121_l m121_c)))) :
  few5_c1 f ftp ftc fbp fbc fap fac B7 B8 B9 l_l l_c i2 m91_p m91_l m91_c m101_p m101_l m101_c m121_p m121_l m121_c cs w0 R := by
 unfold few5_c1
 refine AtE.ru 5 ?_
 refine AtE.load 0 10 (T := 23) (v := .slice m101_p m101_l m101_c) (by kernel_rfl) ?_
 refine AtE.ru 3 ?_
 refine AtE.splitP 37 (p := i2 < (m101_l : Int)) (by kernel_rfl) (fun h2' => ?_) (fun h2' => ?_)
 ·replace H := H.1 h2'
  refine AtE.ru 7 ?_
  refine AtE.load 0 10 (T := 23) (v := .slice m101_p m101_l m101_c) (by kernel_rfl) ?_
  refine AtE.ru 1 ?_
  obtain ⟨m101_pb, m101_po, hp, H⟩ := H
  refine AtE.indexAddrP (E := 89) (p := m101_p) (b := m101_pb) (o := m101_po) (len := m101_l) (cap := m101_c) (sz := 9) (o' := (m101_po + ((Int.toNat i2) * 9))) (kd := .i64) (i := i2) hp (by kernel_rfl) H.1 (by omega) ?_
  replace H := H.2
  obtain ⟨cw1, m21, m21p, m21c, hw, hx, H⟩ := H
  refine AtE.loadW (b := m101_pb) (off := (m101_po + ((Int.toNat i2) * 9))) (T := 89) (v := .agg (few5A9 m21 m21p m21c)) (by kernel_rfl) List.not_mem_nil hw (valAt_agg hx.1 hx.2 (by kernel_rfl) (by kernel_rfl)) ?_
  refine AtE.new (fun B => .pointer (some ⟨B, 0, none⟩)) (.cells few5A5 89) (fun W => by kernel_rfl) (by kernel_rfl) (fun B10 => ?_)
  replace H := H B10
  refine AtE.store 3 0 (T := 89) (v := .agg (few5A9 m21 m21p m21c)) (by kernel_rfl) ?_
  refine AtE.norm (k' := [.inRegion (regOps [.code (sub (Eng.body Tryz.f18) [1,1,1,1,1,0,1,0,0,1,0,0,0])]) [], .code (sub (Eng.body Tryz.f18) [1,1,1,1,1,0,1,0,0,1,0,0,1]), .inBlock 1, .code (sub (Eng.body Tryz.f18) [1,1,1,1,1,0,1,0,0,1,1]), .inLoop (sub (Eng.body Tryz.f18) [1,1,1,1,1,0,1,0,0]), .inBlock 0, .code (sub (Eng.body Tryz.f18) [1,1,1,1,1,1])]) (e' := [(1, .pointer (some ⟨B7, 0, none⟩)), (2, .pointer (some ⟨B8, 0, none⟩)), (3, .slice (some ⟨B9, 0, none⟩) l_l l_c), (4, .int .i64 i2), (5, .pointer (some ⟨B10, 0, none⟩))]) (L' := [(B7, .cells (few5A4 f m91_p m91_l m91_c m101_p m101_l m101_c m121_p m121_l m121_c) 28), (B8, .cells few5A0 28), (B9, .cells ⟨cs⟩ 89), (B10, .cells (few5A9 m21 m21p m21c) 89)]) ?_ (by kernel_rfl)
  refine AtE.ru 4 ?_
  refine AtE.load 3 2 (T := 9) (v := .string m21.text) (by kernel_rfl) ?_
  refine AtE.ru 1 ?_
  refine AtE.load 3 2 (T := 9) (v := .string m21.text) (by kernel_rfl) ?_
  refine AtE.ru 2 ?_
  refine AtE.sliceS (s := m21.text) (lo := none) (hi := some (.int .i64 (if (400 : Int) < (m21.text.size : Int) then (400 : Int) else (m21.text.size : Int)))) (a := (0 : Int)) (b := (if (400 : Int) < (m21.text.size : Int) then (400 : Int) else (m21.text.size : Int))) (by kernel_rfl) (.inr ⟨rfl, rfl⟩) (.inl ⟨.i64, rfl⟩) H.1 ?_
  replace H := H.2
  refine AtE.ru 1 ?_
  refine AtE.store 3 2 (T := 9) (v := .string (m21.text.extract 0 (Int.toNat (if (400 : Int) < (m21.text.size : Int) then (400 : Int) else (m21.text.size : Int))))) (by kernel_rfl) ?_
  refine AtE.ru 5 ?_
  refine AtE.load 3 6 (T := 24) (v := .slice m21p m21.lab.after.length m21c) (by kernel_rfl) ?_
  refine AtE.ru 2 ?_
  refine AtE.load 3 6 (T := 24) (v := .slice m21p m21.lab.after.length m21c) (by kernel_rfl) ?_
  refine AtE.ru 2 ?_
  refine AtE.sliceU (E := 3) (p := m21p) (len := m21.lab.after.length) (cap := m21c) (sz := 1) (lo := none) (hi := some (.int .i64 (if (70 : Int) < (m21.lab.after.length : Int) then (70 : Int) else (m21.lab.after.length : Int)))) (y := (if (70 : Int) < (m21.lab.after.length : Int) then (70 : Int) else (m21.lab.after.length : Int))) (by kernel_rfl) (.inr rfl) (.inl ⟨.i64, rfl⟩) H.1 ?_
  replace H := H.2
  refine AtE.norm (k' := [.inRegion (regOps [.code (sub (Eng.body Tryz.f18) [1,1,1,1,1,0,1,0,0,1,0,0,1,1,0])]) [9,10,11], .code (sub (Eng.body Tryz.f18) [1,1,1,1,1,0,1,0,0,1,0,0,1,1,1]), .inBlock 1, .code (sub (Eng.body Tryz.f18) [1,1,1,1,1,0,1,0,0,1,1]), .inLoop (sub (Eng.body Tryz.f18) [1,1,1,1,1,0,1,0,0]), .inBlock 0, .code (sub (Eng.body Tryz.f18) [1,1,1,1,1,1])]) (e' := [(1, .pointer (some ⟨B7, 0, none⟩)), (2, .pointer (some ⟨B8, 0, none⟩)), (3, .slice (some ⟨B9, 0, none⟩) l_l l_c), (4, .int .i64 i2), (5, .pointer (some ⟨B10, 0, none⟩)), (61, .slice m21p (Int.toNat (if (70 : Int) < (m21.lab.after.length : Int) then (70 : Int) else (m21.lab.after.length : Int))) m21c)]) (L' := [(B7, .cells (few5A4 f m91_p m91_l m91_c m101_p m101_l m101_c m121_p m121_l m121_c) 28), (B8, .cells few5A0 28), (B9, .cells ⟨cs⟩ 89), (B10, .cells #[.int .i64 m21.id, .int .i64 m21.kind, .string (m21.text.extract 0 (Int.toNat (if (400 : Int) < (m21.text.size : Int) then (400 : Int) else (m21.text.size : Int)))), .int .i64 m21.story, .int .i64 m21.ref, .int .i64 m21.lab.unt, .slice m21p m21.lab.after.length m21c, .int .i64 m21.lab.appr, .int .i64 m21.lab.den] 89)]) ?_ (by kernel_rfl)
  refine AtE.ru 2 ?_
  refine AtE.store 3 6 (T := 24) (v := .slice m21p (Int.toNat (if (70 : Int) < (m21.lab.after.length : Int) then (70 : Int) else (m21.lab.after.length : Int))) m21c) (by kernel_rfl) ?_
  refine AtE.ru 3 ?_
  refine AtE.load 3 0 (T := 89) (v := .agg (few5A7 m21 m21p m21c)) (by kernel_rfl) ?_
  refine AtE.new (fun B => .slice (some ⟨B, 0, none⟩) 1 1) (.cells (few5A7 m21 m21p m21c) 89) (fun W => by kernel_rfl) (by kernel_rfl) (fun B11 => ?_)
  replace H := H B11
  refine AtE.appendO 2 (T := 23) (E := 89) (z := .agg few5A5) (sz := 9) (bytes := 96) (n := l_l) (cap := l_c) (a := ⟨B11, 0, none⟩) (m := 1) (c := 1) (cs := cs) ([.int .i64 m21.id, .int .i64 m21.kind, .string (m21.text.extract 0 (Int.toNat (if (400 : Int) < (m21.text.size : Int) then (400 : Int) else (m21.text.size : Int)))), .int .i64 m21.story, .int .i64 m21.ref, .int .i64 m21.lab.unt, .slice m21p (Int.toNat (if (70 : Int) < (m21.lab.after.length : Int) then (70 : Int) else (m21.lab.after.length : Int))) m21c, .int .i64 m21.lab.appr, .int .i64 m21.lab.den] : List Value) (by kernel_rfl) (show Src _ _ _ _ ([.int .i64 m21.id, .int .i64 m21.kind, .string (m21.text.extract 0 (Int.toNat (if (400 : Int) < (m21.text.size : Int) then (400 : Int) else (m21.text.size : Int)))), .int .i64 m21.story, .int .i64 m21.ref, .int .i64 m21.lab.unt, .slice m21p (Int.toNat (if (70 : Int) < (m21.lab.after.length : Int) then (70 : Int) else (m21.lab.after.length : Int))) m21c, .int .i64 m21.lab.appr, .int .i64 m21.lab.den] : List Value) from Src.own (j := 4) (o := 0) (n := 9) (c := ([.int .i64 m21.id, .int .i64 m21.kind, .string (m21.text.extract 0 (Int.toNat (if (400 : Int) < (m21.text.size : Int) then (400 : Int) else (m21.text.size : Int)))), .int .i64 m21.story, .int .i64 m21.ref, .int .i64 m21.lab.unt, .slice m21p (Int.toNat (if (70 : Int) < (m21.lab.after.length : Int) then (70 : Int) else (m21.lab.after.length : Int))) m21c, .int .i64 m21.lab.appr, .int .i64 m21.lab.den] : List Value)) (by kernel_rfl)) (by simp) (by simp [Value.oneCell']) H.1 H.2.1 (fun B12 cap1 r1 h1 h2 => ?_)
  replace H := H.2.2 B12 cap1 r1 h1 h2
  refine AtE.ru 7 ?_
  refine AtE.letI 4 (kd := .i64) (n := (IntKind.i64.wrap (i2 + (1 : Int)))) (by kernel_rfl) (fun i3 hi3 => ?_)
  replace H := H i3 hi3
  refine AtE.ru 2 ?_
  exact AtE.cut [0,1,4] H (by kernel_rfl)
 ·replace H := H.2 h2'
  refine AtE.ru 6 ?_
  refine AtE.store 0 10 (T := 23) (v := .slice (some ⟨B9, 0, none⟩) l_l l_c) (by kernel_rfl) ?_
  refine AtE.ru 4 ?_
  refine AtE.load 0 7 (T := 9) (v := .string f.title) (by kernel_rfl) ?_
  refine AtE.ru 1 ?_
  refine AtE.load 0 7 (T := 9) (v := .string f.title) (by kernel_rfl) ?_
  refine AtE.ru 2 ?_
  refine AtE.sliceS (s := f.title) (lo := none) (hi := some (.int .i64 (if (400 : Int) < (f.title.size : Int) then (400 : Int) else (f.title.size : Int)))) (a := (0 : Int)) (b := (if (400 : Int) < (f.title.size : Int) then (400 : Int) else (f.title.size : Int))) (by kernel_rfl) (.inr ⟨rfl, rfl⟩) (.inl ⟨.i64, rfl⟩) H.1 ?_
  replace H := H.2
  refine AtE.ru 1 ?_
  refine AtE.store 0 7 (T := 9) (v := .string (f.title.extract 0 (Int.toNat (if (400 : Int) < (f.title.size : Int) then (400 : Int) else (f.title.size : Int))))) (by kernel_rfl) ?_
  refine AtE.norm (k' := [.inRegion (regOps [.code (sub (Eng.body Tryz.f18) [1,1,1,1,1,1,1,0])]) [], .code (sub (Eng.body Tryz.f18) [1,1,1,1,1,1,1,1])]) (e' := [(1, .pointer (some ⟨B7, 0, none⟩)), (2, .pointer (some ⟨B8, 0, none⟩))]) (L' := [(B7, .cells #[.int .i64 f.n, .int .i64 f.time, .int .i64 f.kind, .int .i64 f.story, .string f.lang, .int .i64 f.rev, .int .i64 f.base, .string (f.title.extract 0 (Int.toNat (if (400 : Int) < (f.title.size : Int) then (400 : Int) else (f.title.size : Int)))), .string f.author, .slice m91_p m91_l m91_c, .slice (some ⟨B9, 0, none⟩) l_l l_c, .int .i64 f.lab.unt, .slice m121_p m121_l m121_c, .int .i64 f.lab.appr, .int .i64 f.lab.den, .int .i64 f.editor, .int .i64 f.block, .int .i64 f.sentence, .string f.text, .string f.name, .int .i64 f.partner, .int .i64 f.cls, .int .i64 f.unt] 28), (B8, .cells few5A0 28), (B9, .cells ⟨cs⟩ 89)]) ?_ (by kernel_rfl)
  refine AtE.ru 4 ?_
  refine AtE.load 0 18 (T := 9) (v := .string f.text) (by kernel_rfl) ?_
  refine AtE.ru 1 ?_
  refine AtE.load 0 18 (T := 9) (v := .string f.text) (by kernel_rfl) ?_
  refine AtE.ru 2 ?_
  refine AtE.sliceS (s := f.text) (lo := none) (hi := some (.int .i64 (if (1200 : Int) < (f.text.size : Int) then (1200 : Int) else (f.text.size : Int)))) (a := (0 : Int)) (b := (if (1200 : Int) < (f.text.size : Int) then (1200 : Int) else (f.text.size : Int))) (by kernel_rfl) (.inr ⟨rfl, rfl⟩) (.inl ⟨.i64, rfl⟩) H.1 ?_
  replace H := H.2
  refine AtE.ru 1 ?_
  refine AtE.store 0 18 (T := 9) (v := .string (f.text.extract 0 (Int.toNat (if (1200 : Int) < (f.text.size : Int) then (1200 : Int) else (f.text.size : Int))))) (by kernel_rfl) ?_
  refine AtE.ru 3 ?_
  refine AtE.load 0 0 (T := 28) (v := .agg (few5A1 f m91_p m91_l m91_c B9 l_l l_c m121_p m121_l m121_c)) (by kernel_rfl) ?_
  refine AtE.store 1 0 (T := 28) (v := .agg (few5A1 f m91_p m91_l m91_c B9 l_l l_c m121_p m121_l m121_c)) (by kernel_rfl) ?_
  refine AtE.ru 1 ?_
  exact AtE.retC 1 0 (a := 2) (T := 28) (v := .agg (few5A1 f m91_p m91_l m91_c B9 l_l l_c m121_p m121_l m121_c)) Tryz.func18 (by kernel_rfl) (by kernel_rfl) H
theorem few5_vc (f : Fct) (ftp : Option Addr) (ftc : Nat) (fbp : Option Addr) (fbc : Nat) (fap : Option Addr) (fac : Nat) {R : Ending → World → Prop} {w0 W : World} (hm : Mem [] [] w0 W)
  (H :
   ∀ B : Nat,
   ∀ B1 : Nat,
   (0 ≤ (if (6 : Int) < (f.topics.length : Int) then (6 : Int) else (f.topics.length : Int)) ∧ (if (6 : Int) < (f.topics.length : Int) then (6 : Int) else (f.topics.length : Int)) ≤ (ftc : Int)) ∧
   (0 ≤ (if (26 : Int) < (f.blocks.length : Int) then (26 : Int) else (f.blocks.length : Int)) ∧ (if (26 : Int) < (f.blocks.length : Int) then (26 : Int) else (f.blocks.length : Int)) ≤ (fbc : Int)) ∧
   (0 ≤ (if (70 : Int) < (f.lab.after.length : Int) then (70 : Int) else (f.lab.after.length : Int)) ∧ (if (70 : Int) < (f.lab.after.length : Int) then (70 : Int) else (f.lab.after.length : Int)) ≤ (fac : Int)) ∧
   few5_c0 f ftp ftc fbp fbc fap fac B B1 (0 : Int) ftp (Int.toNat (if (6 : Int) < (f.topics.length : Int) then (6 : Int) else (f.topics.length : Int))) ftc fbp (Int.toNat (if (26 : Int) < (f.blocks.length : Int) then (26 : Int) else (f.blocks.length : Int))) fbc fap (Int.toNat (if (70 : Int) < (f.lab.after.length : Int) then (70 : Int) else (f.lab.after.length : Int))) fac w0 R) :
  Calls Tryz.prog 18 ⟨[.agg (few5A6 f ftp ftc fbp fbc fap fac)]⟩ W R := by
 refine AtE.calls (nt := 87) Tryz.func18 (by kernel_rfl) hm ?_
 refine AtE.ru 2 ?_
 refine AtE.new (fun B => .pointer (some ⟨B, 0, none⟩)) (.cells (few5A6 f ftp ftc fbp fbc fap fac) 28) (fun W => by kernel_rfl) (by kernel_rfl) (fun B => ?_)
 replace H := H B
 refine AtE.new (fun B => .pointer (some ⟨B, 0, none⟩)) (.cells few5A0 28) (fun W => by kernel_rfl) (by kernel_rfl) (fun B1 => ?_)
 replace H := H B1
 refine AtE.ru 4 ?_
 refine AtE.load 0 9 (T := 22) (v := .slice ftp f.topics.length ftc) (by kernel_rfl) ?_
 refine AtE.ru 1 ?_
 refine AtE.load 0 9 (T := 22) (v := .slice ftp f.topics.length ftc) (by kernel_rfl) ?_
 refine AtE.ru 2 ?_
 refine AtE.sliceU (E := 9) (p := ftp) (len := f.topics.length) (cap := ftc) (sz := 1) (lo := none) (hi := some (.int .i64 (if (6 : Int) < (f.topics.length : Int) then (6 : Int) else (f.topics.length : Int)))) (y := (if (6 : Int) < (f.topics.length : Int) then (6 : Int) else (f.topics.length : Int))) (by kernel_rfl) (.inr rfl) (.inl ⟨.i64, rfl⟩) H.1 ?_
 replace H := H.2
 refine AtE.ru 1 ?_
 refine AtE.store 0 9 (T := 22) (v := .slice ftp (Int.toNat (if (6 : Int) < (f.topics.length : Int) then (6 : Int) else (f.topics.length : Int))) ftc) (by kernel_rfl) ?_
 refine AtE.ru 4 ?_
 refine AtE.load 0 10 (T := 23) (v := .slice fbp f.blocks.length fbc) (by kernel_rfl) ?_
 refine AtE.norm (k' := [.inRegion (regOps [.code (sub (Eng.body Tryz.f18) [1,1,0])]) [2,3,4,5,6,7,8], .code (sub (Eng.body Tryz.f18) [1,1,1])]) (e' := [(1, .pointer (some ⟨B, 0, none⟩)), (2, .pointer (some ⟨B1, 0, none⟩)), (15, .slice fbp f.blocks.length fbc)]) (L' := [(B, .cells #[.int .i64 f.n, .int .i64 f.time, .int .i64 f.kind, .int .i64 f.story, .string f.lang, .int .i64 f.rev, .int .i64 f.base, .string f.title, .string f.author, .slice ftp (Int.toNat (if (6 : Int) < (f.topics.length : Int) then (6 : Int) else (f.topics.length : Int))) ftc, .slice fbp f.blocks.length fbc, .int .i64 f.lab.unt, .slice fap f.lab.after.length fac, .int .i64 f.lab.appr, .int .i64 f.lab.den, .int .i64 f.editor, .int .i64 f.block, .int .i64 f.sentence, .string f.text, .string f.name, .int .i64 f.partner, .int .i64 f.cls, .int .i64 f.unt] 28), (B1, .cells few5A0 28)]) ?_ (by kernel_rfl)
 refine AtE.ru 1 ?_
 refine AtE.load 0 10 (T := 23) (v := .slice fbp f.blocks.length fbc) (by kernel_rfl) ?_
 refine AtE.ru 2 ?_
 refine AtE.sliceU (E := 89) (p := fbp) (len := f.blocks.length) (cap := fbc) (sz := 9) (lo := none) (hi := some (.int .i64 (if (26 : Int) < (f.blocks.length : Int) then (26 : Int) else (f.blocks.length : Int)))) (y := (if (26 : Int) < (f.blocks.length : Int) then (26 : Int) else (f.blocks.length : Int))) (by kernel_rfl) (.inr rfl) (.inl ⟨.i64, rfl⟩) H.1 ?_
 replace H := H.2
 refine AtE.ru 1 ?_
 refine AtE.store 0 10 (T := 23) (v := .slice fbp (Int.toNat (if (26 : Int) < (f.blocks.length : Int) then (26 : Int) else (f.blocks.length : Int))) fbc) (by kernel_rfl) ?_
 refine AtE.ru 5 ?_
 refine AtE.load 0 12 (T := 24) (v := .slice fap f.lab.after.length fac) (by kernel_rfl) ?_
 refine AtE.ru 2 ?_
 refine AtE.load 0 12 (T := 24) (v := .slice fap f.lab.after.length fac) (by kernel_rfl) ?_
 refine AtE.ru 2 ?_
 refine AtE.sliceU (E := 3) (p := fap) (len := f.lab.after.length) (cap := fac) (sz := 1) (lo := none) (hi := some (.int .i64 (if (70 : Int) < (f.lab.after.length : Int) then (70 : Int) else (f.lab.after.length : Int)))) (y := (if (70 : Int) < (f.lab.after.length : Int) then (70 : Int) else (f.lab.after.length : Int))) (by kernel_rfl) (.inr rfl) (.inl ⟨.i64, rfl⟩) H.1 ?_
 replace H := H.2
 refine AtE.ru 2 ?_
 refine AtE.store 0 12 (T := 24) (v := .slice fap (Int.toNat (if (70 : Int) < (f.lab.after.length : Int) then (70 : Int) else (f.lab.after.length : Int))) fac) (by kernel_rfl) ?_
 refine AtE.norm (k' := [.inRegion (regOps [.code (sub (Eng.body Tryz.f18) [1,1,1,0])]) [], .code (sub (Eng.body Tryz.f18) [1,1,1,1])]) (e' := [(1, .pointer (some ⟨B, 0, none⟩)), (2, .pointer (some ⟨B1, 0, none⟩))]) (L' := [(B, .cells #[.int .i64 f.n, .int .i64 f.time, .int .i64 f.kind, .int .i64 f.story, .string f.lang, .int .i64 f.rev, .int .i64 f.base, .string f.title, .string f.author, .slice ftp (Int.toNat (if (6 : Int) < (f.topics.length : Int) then (6 : Int) else (f.topics.length : Int))) ftc, .slice fbp (Int.toNat (if (26 : Int) < (f.blocks.length : Int) then (26 : Int) else (f.blocks.length : Int))) fbc, .int .i64 f.lab.unt, .slice fap (Int.toNat (if (70 : Int) < (f.lab.after.length : Int) then (70 : Int) else (f.lab.after.length : Int))) fac, .int .i64 f.lab.appr, .int .i64 f.lab.den, .int .i64 f.editor, .int .i64 f.block, .int .i64 f.sentence, .string f.text, .string f.name, .int .i64 f.partner, .int .i64 f.cls, .int .i64 f.unt] 28), (B1, .cells few5A0 28)]) ?_ (by kernel_rfl)
 refine AtE.ru 12 ?_
 exact AtE.cut [0,1] H (by kernel_rfl)
abbrev fRedactH0 (B6 : Nat) (f : Fct) (m92_p : Option Addr) (m92_l : Nat) (m92_c : Nat) (B7 : Nat) (m10_l : Nat) (m10_c : Nat) (fap : Option Addr) (fac : Nat) (cs : List Value) (B8 : Nat) (m93_p : Option Addr) (m93_l : Nat) (m93_c : Nat) (m121_p : Option Addr) (m121_l : Nat) (m121_c : Nat) (F2 : SHeap) : SHeap := ((B6, .cells #[.int .i64 f.n, .int .i64 f.time, .int .i64 f.kind, .int .i64 f.story, .string f.lang, .int .i64 f.rev, .int .i64 f.base, .string f.title, .string f.author, .slice m92_p m92_l m92_c, .slice (some ⟨B7, 0, none⟩) m10_l m10_c, .int .i64 f.lab.unt, .slice fap f.lab.after.length fac, .int .i64 f.lab.appr, .int .i64 f.lab.den, .int .i64 f.editor, .int .i64 f.block, .int .i64 f.sentence, .string f.text, .string f.name, .int .i64 f.partner, .int .i64 f.cls, .int .i64 f.unt] 28) :: (B7, .cells ⟨cs⟩ 89) :: (B8, .cells #[.int .i64 (0 : Int), .int .i64 (0 : Int), .int .i64 (0 : Int), .int .i64 (0 : Int), .string (⟨#[]⟩), .int .i64 (0 : Int), .int .i64 (0 : Int), .string (⟨#[]⟩), .string (⟨#[]⟩), .slice m93_p m93_l m93_c, .slice none 0 0, .int .i64 (0 : Int), .slice m121_p m121_l m121_c, .int .i64 (0 : Int), .int .i64 (0 : Int), .int .i64 (0 : Int), .int .i64 (0 : Int), .int .i64 (0 : Int), .string (⟨#[]⟩), .string (⟨#[]⟩), .int .i64 (0 : Int), .int .i64 (0 : Int), .int .i64 (0 : Int)] 28) :: F2)
abbrev fRedactH1 (B1 : Nat) (B : Nat) (f : Fct) (ftp : Option Addr) (ftc : Nat) (fbp : Option Addr) (fbc : Nat) (fap : Option Addr) (fac : Nat) (F : SHeap) : SHeap := ((B1, .cells #[.int .i64 (0 : Int), .int .i64 (0 : Int), .int .i64 (0 : Int), .int .i64 (0 : Int), .string (⟨#[]⟩), .int .i64 (0 : Int), .int .i64 (0 : Int), .string (⟨#[]⟩), .string (⟨#[]⟩), .slice none 0 0, .slice none 0 0, .int .i64 (0 : Int), .slice none 0 0, .int .i64 (0 : Int), .int .i64 (0 : Int), .int .i64 (0 : Int), .int .i64 (0 : Int), .int .i64 (0 : Int), .string (⟨#[]⟩), .string (⟨#[]⟩), .int .i64 (0 : Int), .int .i64 (0 : Int), .int .i64 (0 : Int)] 28) :: (B, .cells #[.int .i64 f.n, .int .i64 f.time, .int .i64 f.kind, .int .i64 f.story, .string f.lang, .int .i64 f.rev, .int .i64 f.base, .string f.title, .string f.author, .slice ftp f.topics.length ftc, .slice fbp f.blocks.length fbc, .int .i64 f.lab.unt, .slice fap f.lab.after.length fac, .int .i64 f.lab.appr, .int .i64 f.lab.den, .int .i64 f.editor, .int .i64 f.block, .int .i64 f.sentence, .string f.text, .string f.name, .int .i64 f.partner, .int .i64 f.cls, .int .i64 f.unt] 28) :: F)
abbrev fRedactH2 (B4 : Nat) (f : Fct) (m9_p : Option Addr) (m9_l : Nat) (m9_c : Nat) (fap : Option Addr) (fac : Nat) (B5 : Nat) (m91_p : Option Addr) (m91_l : Nat) (m91_c : Nat) (m12_p : Option Addr) (m12_l : Nat) (m12_c : Nat) (F1 : SHeap) : SHeap := ((B4, .cells #[.int .i64 f.n, .int .i64 f.time, .int .i64 f.kind, .int .i64 f.story, .string f.lang, .int .i64 f.rev, .int .i64 f.base, .string f.title, .string f.author, .slice m9_p m9_l m9_c, .slice none 0 0, .int .i64 f.lab.unt, .slice fap f.lab.after.length fac, .int .i64 f.lab.appr, .int .i64 f.lab.den, .int .i64 f.editor, .int .i64 f.block, .int .i64 f.sentence, .string f.text, .string f.name, .int .i64 f.partner, .int .i64 f.cls, .int .i64 f.unt] 28) :: (B5, .cells #[.int .i64 (0 : Int), .int .i64 (0 : Int), .int .i64 (0 : Int), .int .i64 (0 : Int), .string (⟨#[]⟩), .int .i64 (0 : Int), .int .i64 (0 : Int), .string (⟨#[]⟩), .string (⟨#[]⟩), .slice m91_p m91_l m91_c, .slice none 0 0, .int .i64 (0 : Int), .slice m12_p m12_l m12_c, .int .i64 (0 : Int), .int .i64 (0 : Int), .int .i64 (0 : Int), .int .i64 (0 : Int), .int .i64 (0 : Int), .string (⟨#[]⟩), .string (⟨#[]⟩), .int .i64 (0 : Int), .int .i64 (0 : Int), .int .i64 (0 : Int)] 28) :: F1)
abbrev fRedactH3 (B1 : Nat) (f : Fct) (B : Nat) (ftp : Option Addr) (ftc : Nat) (fbp : Option Addr) (fbc : Nat) (fap : Option Addr) (fac : Nat) (F : SHeap) : SHeap := ((B1, .cells #[.int .i64 f.n, .int .i64 f.time, .int .i64 (10 : Int), .int .i64 f.story, .string (⟨#[]⟩), .int .i64 (0 : Int), .int .i64 (0 : Int), .string (⟨#[]⟩), .string (⟨#[]⟩), .slice none 0 0, .slice none 0 0, .int .i64 (0 : Int), .slice none 0 0, .int .i64 (0 : Int), .int .i64 (0 : Int), .int .i64 (0 : Int), .int .i64 (0 : Int), .int .i64 (0 : Int), .string (⟨#[]⟩), .string (⟨#[]⟩), .int .i64 (0 : Int), .int .i64 (0 : Int), .int .i64 (0 : Int)] 28) :: (B, .cells #[.int .i64 f.n, .int .i64 f.time, .int .i64 f.kind, .int .i64 f.story, .string f.lang, .int .i64 f.rev, .int .i64 f.base, .string f.title, .string f.author, .slice ftp f.topics.length ftc, .slice fbp f.blocks.length fbc, .int .i64 f.lab.unt, .slice fap f.lab.after.length fac, .int .i64 f.lab.appr, .int .i64 f.lab.den, .int .i64 f.editor, .int .i64 f.block, .int .i64 f.sentence, .string f.text, .string f.name, .int .i64 f.partner, .int .i64 f.cls, .int .i64 f.unt] 28) :: F)
abbrev fRedactA0 (f : Fct) : Array Value := #[.int .i64 f.n, .int .i64 f.time, .int .i64 (10 : Int), .int .i64 f.story, .string (⟨#[]⟩), .int .i64 (0 : Int), .int .i64 (0 : Int), .string (⟨#[]⟩), .string (⟨#[]⟩), .slice none 0 0, .slice none 0 0, .int .i64 (0 : Int), .slice none 0 0, .int .i64 (0 : Int), .int .i64 (0 : Int), .int .i64 (0 : Int), .int .i64 (0 : Int), .int .i64 (0 : Int), .string (⟨#[]⟩), .string (⟨#[]⟩), .int .i64 (0 : Int), .int .i64 (0 : Int), .int .i64 (0 : Int)]
abbrev fRedactA1 (f : Fct) (m92_p : Option Addr) (m92_l : Nat) (m92_c : Nat) (B7 : Nat) (m10_l : Nat) (m10_c : Nat) (B12 : Nat) (cap5 : Nat) : Array Value := #[.int .i64 f.n, .int .i64 f.time, .int .i64 f.kind, .int .i64 f.story, .string f.lang, .int .i64 f.rev, .int .i64 f.base, .string f.title, .string f.author, .slice m92_p m92_l m92_c, .slice (some ⟨B7, 0, none⟩) m10_l m10_c, .int .i64 f.lab.unt, .slice (some ⟨B12, 0, none⟩) f.lab.after.length cap5, .int .i64 f.lab.appr, .int .i64 f.lab.den, .int .i64 f.editor, .int .i64 f.block, .int .i64 f.sentence, .string f.text, .string f.name, .int .i64 f.partner, .int .i64 f.cls, .int .i64 f.unt]
abbrev fRedactA2 (f : Fct) (m9_p : Option Addr) (m9_l : Nat) (m9_c : Nat) (B10 : Nat) (cap3 : Nat) : Array Value := #[.int .i64 f.n, .int .i64 f.time, .int .i64 f.kind, .int .i64 f.story, .string f.lang, .int .i64 f.rev, .int .i64 f.base, .string f.title, .string f.author, .slice m9_p m9_l m9_c, .slice none 0 0, .int .i64 f.lab.unt, .slice (some ⟨B10, 0, none⟩) f.lab.after.length cap3, .int .i64 f.lab.appr, .int .i64 f.lab.den, .int .i64 f.editor, .int .i64 f.block, .int .i64 f.sentence, .string f.text, .string f.name, .int .i64 f.partner, .int .i64 f.cls, .int .i64 f.unt]
abbrev fRedactA3 (f : Fct) (m92_p : Option Addr) (m92_l : Nat) (m92_c : Nat) (B7 : Nat) (m10_l : Nat) (m10_c : Nat) : Array Value := #[.int .i64 f.n, .int .i64 f.time, .int .i64 f.kind, .int .i64 f.story, .string f.lang, .int .i64 f.rev, .int .i64 f.base, .string f.title, .string f.author, .slice m92_p m92_l m92_c, .slice (some ⟨B7, 0, none⟩) m10_l m10_c, .int .i64 f.lab.unt, .slice none 0 0, .int .i64 f.lab.appr, .int .i64 f.lab.den, .int .i64 f.editor, .int .i64 f.block, .int .i64 f.sentence, .string f.text, .string f.name, .int .i64 f.partner, .int .i64 f.cls, .int .i64 f.unt]
abbrev fRedactA4 (f : Fct) (m9_p : Option Addr) (m9_l : Nat) (m9_c : Nat) : Array Value := #[.int .i64 f.n, .int .i64 f.time, .int .i64 f.kind, .int .i64 f.story, .string f.lang, .int .i64 f.rev, .int .i64 f.base, .string f.title, .string f.author, .slice m9_p m9_l m9_c, .slice none 0 0, .int .i64 f.lab.unt, .slice none 0 0, .int .i64 f.lab.appr, .int .i64 f.lab.den, .int .i64 f.editor, .int .i64 f.block, .int .i64 f.sentence, .string f.text, .string f.name, .int .i64 f.partner, .int .i64 f.cls, .int .i64 f.unt]
abbrev fRedactA5 : Array Value := #[.int .i64 (0 : Int), .int .i64 (0 : Int), .int .i64 (0 : Int), .int .i64 (0 : Int), .string (⟨#[]⟩), .int .i64 (0 : Int), .int .i64 (0 : Int), .string (⟨#[]⟩), .string (⟨#[]⟩), .slice none 0 0, .slice none 0 0, .int .i64 (0 : Int), .slice none 0 0, .int .i64 (0 : Int), .int .i64 (0 : Int), .int .i64 (0 : Int), .int .i64 (0 : Int), .int .i64 (0 : Int), .string (⟨#[]⟩), .string (⟨#[]⟩), .int .i64 (0 : Int), .int .i64 (0 : Int), .int .i64 (0 : Int)]
abbrev fRedactA6 (f : Fct) (ftp : Option Addr) (ftc : Nat) (fbp : Option Addr) (fbc : Nat) (fap : Option Addr) (fac : Nat) : Array Value := #[.int .i64 f.n, .int .i64 f.time, .int .i64 f.kind, .int .i64 f.story, .string f.lang, .int .i64 f.rev, .int .i64 f.base, .string f.title, .string f.author, .slice ftp f.topics.length ftc, .slice fbp f.blocks.length fbc, .int .i64 f.lab.unt, .slice fap f.lab.after.length fac, .int .i64 f.lab.appr, .int .i64 f.lab.den, .int .i64 f.editor, .int .i64 f.block, .int .i64 f.sentence, .string f.text, .string f.name, .int .i64 f.partner, .int .i64 f.cls, .int .i64 f.unt]
abbrev fRedactA7 (m93_p : Option Addr) (m93_l : Nat) (m93_c : Nat) (m121_p : Option Addr) (m121_l : Nat) (m121_c : Nat) : Array Value := #[.int .i64 (0 : Int), .int .i64 (0 : Int), .int .i64 (0 : Int), .int .i64 (0 : Int), .string (⟨#[]⟩), .int .i64 (0 : Int), .int .i64 (0 : Int), .string (⟨#[]⟩), .string (⟨#[]⟩), .slice m93_p m93_l m93_c, .slice none 0 0, .int .i64 (0 : Int), .slice m121_p m121_l m121_c, .int .i64 (0 : Int), .int .i64 (0 : Int), .int .i64 (0 : Int), .int .i64 (0 : Int), .int .i64 (0 : Int), .string (⟨#[]⟩), .string (⟨#[]⟩), .int .i64 (0 : Int), .int .i64 (0 : Int), .int .i64 (0 : Int)]
abbrev fRedactA8 (f : Fct) (m92_p : Option Addr) (m92_l : Nat) (m92_c : Nat) (B7 : Nat) (m10_l : Nat) (m10_c : Nat) (fap : Option Addr) (fac : Nat) : Array Value := #[.int .i64 f.n, .int .i64 f.time, .int .i64 f.kind, .int .i64 f.story, .string f.lang, .int .i64 f.rev, .int .i64 f.base, .string f.title, .string f.author, .slice m92_p m92_l m92_c, .slice (some ⟨B7, 0, none⟩) m10_l m10_c, .int .i64 f.lab.unt, .slice fap f.lab.after.length fac, .int .i64 f.lab.appr, .int .i64 f.lab.den, .int .i64 f.editor, .int .i64 f.block, .int .i64 f.sentence, .string f.text, .string f.name, .int .i64 f.partner, .int .i64 f.cls, .int .i64 f.unt]
def fRedact_c0 (f : Fct) (ftp : Option Addr) (ftc : Nat) (fbp : Option Addr) (fbc : Nat) (fap : Option Addr) (fac : Nat) (B4 : Nat) (B5 : Nat) (t27 : Int) (t28 : Int) (m9_p : Option Addr) (m9_l : Nat) (m9_c : Nat) (m91_p : Option Addr) (m91_l : Nat) (m91_c : Nat) (m12_p : Option Addr) (m12_l : Nat) (m12_c : Nat) (F1 : SHeap) (w0 : World) (R : Ending → World → Prop) : Prop :=
 AtE Tryz.prog 26 53 [.code (sub (Eng.body Tryz.f26) [1,1,1,1,0,1,0,0]), .inLoop (sub (Eng.body Tryz.f26) [1,1,1,1,0,1,0,0]), .inBlock 1, .code (sub (Eng.body Tryz.f26) [1,1,1,1,1])] [(1, .pointer (some ⟨B4, 0, none⟩)), (2, .pointer (some ⟨B5, 0, none⟩)), (27, .int .i64 t27), (28, .int .i64 t28)] (fRedactH2 B4 f m9_p m9_l m9_c fap fac B5 m91_p m91_l m91_c m12_p m12_l m12_c F1) [] w0 (nrm R)
def fRedact_c1 (f : Fct) (ftp : Option Addr) (ftc : Nat) (fbp : Option Addr) (fbc : Nat) (fap : Option Addr) (fac : Nat) (B6 : Nat) (B7 : Nat) (B8 : Nat) (t281 : Int) (m92_p : Option Addr) (m92_l : Nat) (m92_c : Nat) (m10_l : Nat) (m10_c : Nat) (cs : List Value) (m93_p : Option Addr) (m93_l : Nat) (m93_c : Nat) (m121_p : Option Addr) (m121_l : Nat) (m121_c : Nat) (F2 : SHeap) (w0 : World) (R : Ending → World → Prop) : Prop :=
 AtE Tryz.prog 26 53 [.code (sub (Eng.body Tryz.f26) [1,1,1,1,0,1,0,0]), .inLoop (sub (Eng.body Tryz.f26) [1,1,1,1,0,1,0,0]), .inBlock 1, .code (sub (Eng.body Tryz.f26) [1,1,1,1,1])] [(1, .pointer (some ⟨B6, 0, none⟩)), (2, .pointer (some ⟨B8, 0, none⟩)), (27, .int .i64 (f.blocks.length : Int)), (28, .int .i64 t281)] (fRedactH0 B6 f m92_p m92_l m92_c B7 m10_l m10_c fap fac cs B8 m93_p m93_l m93_c m121_p m121_l m121_c F2) [] w0 (nrm R)
theorem fRedact_c0_vc (f : Fct) (ftp : Option Addr) (ftc : Nat) (fbp : Option Addr) (fbc : Nat) (fap : Option Addr) (fac : Nat) (B4 : Nat) (B5 : Nat) (t27 : Int) (t28 : Int) (m9_p : Option Addr) (m9_l : Nat) (m9_c : Nat) (m91_p : Option Addr) (m91_l : Nat) (m91_c : Nat) (m12_p : Option Addr) (m12_l : Nat) (m12_c : Nat) (F1 : SHeap) {R : Ending → World → Prop} {w0 : World}
  (H :
   ((t28 < t27) →
    False) ∧
    ((¬ (t28 < t27)) →
    ∃ news3 : List Value, (∀ W, Mem (fRedactH2 B4 f m9_p m9_l m9_c fap fac B5 m91_p m91_l m91_c m12_p m12_l m12_c F1) [] w0 W → Go.Src Tryz.prog 1 24 (.slice fap f.lab.after.length fac) f.lab.after.length news3 W) ∧
    (f.lab.after.length ≤ 9223372036854775807 ∧ f.lab.after.length * 8 ≤ 140737488355328) ∧ ((f.lab.after.length = 0 →
     Fin R ((B4, .cells (fRedactA4 f m9_p m9_l m9_c) 28) :: (B5, .cells (fRedactA4 f m9_p m9_l m9_c) 28) :: F1) [] w0 (.agg (fRedactA4 f m9_p m9_l m9_c))) ∧
     (0 < f.lab.after.length → ∀ (B10 cap3 : Nat) (r3 : List Value), f.lab.after.length ≤ cap3 → (news3 ++ r3).length = cap3 * 1 →
     Fin R ((B10, .cells ⟨(news3 ++ r3)⟩ 3) :: (B4, .cells (fRedactA2 f m9_p m9_l m9_c B10 cap3) 28) :: (B5, .cells (fRedactA2 f m9_p m9_l m9_c B10 cap3) 28) :: F1) [] w0 (.agg (fRedactA2 f m9_p m9_l m9_c B10 cap3)))))) :
  fRedact_c0 f ftp ftc fbp fbc fap fac B4 B5 t27 t28 m9_p m9_l m9_c m91_p m91_l m91_c m12_p m12_l m12_c F1 w0 R := by
 unfold fRedact_c0
 refine AtE.ru 5 ?_
 refine AtE.splitP 29 (p := t28 < t27) (by kernel_rfl) (fun h4' => ?_) (fun h4' => ?_)
 ·replace H := H.1 h4'
  refine AtE.ru 9 ?_
  refine AtE.norm (k' := [.code (sub (Eng.body Tryz.f26) [1,1,1,1,0,1,0,0,1,1,0,0,1]), .inBlock 2, .code (sub (Eng.body Tryz.f26) [1,1,1,1,0,1,0,0,1,1,1]), .inLoop (sub (Eng.body Tryz.f26) [1,1,1,1,0,1,0,0]), .inBlock 1, .code (sub (Eng.body Tryz.f26) [1,1,1,1,1])]) (e' := [(1, .pointer (some ⟨B4, 0, none⟩)), (2, .pointer (some ⟨B5, 0, none⟩)), (3, .int .i64 t28), (27, .int .i64 t27), (28, .int .i64 t28)]) (L' := (fRedactH2 B4 f m9_p m9_l m9_c fap fac B5 m91_p m91_l m91_c m12_p m12_l m12_c F1)) ?_ (by kernel_rfl)
  refine AtE.drawD (by kernel_rfl) ?_
  refine AtD.norm (e' := [(1, .pointer (some ⟨B4, 0, none⟩)), (2, .pointer (some ⟨B5, 0, none⟩)), (3, .int .i64 t28), (27, .int .i64 t27), (28, .int .i64 t28)]) (L' := (fRedactH2 B4 f m9_p m9_l m9_c fap fac B5 m91_p m91_l m91_c m12_p m12_l m12_c F1)) ?_ (by kernel_rfl)
  refine AtD.phase 11 [0,1,2,3,4,5,6,7,8,9] [10] [(B4, .cells #[.int .i64 f.n, .int .i64 f.time, .int .i64 f.kind, .int .i64 f.story, .string f.lang, .int .i64 f.rev, .int .i64 f.base, .string f.title, .string f.author, .slice m9_p m9_l m9_c, .slice none 0 0, .int .i64 f.lab.unt, .slice fap f.lab.after.length fac, .int .i64 f.lab.appr, .int .i64 f.lab.den, .int .i64 f.editor, .int .i64 f.block, .int .i64 f.sentence, .string f.text, .string f.name, .int .i64 f.partner, .int .i64 f.cls, .int .i64 f.unt] 28), (B5, .cells #[.int .i64 (0 : Int), .int .i64 (0 : Int), .int .i64 (0 : Int), .int .i64 (0 : Int), .string (⟨#[]⟩), .int .i64 (0 : Int), .int .i64 (0 : Int), .string (⟨#[]⟩), .string (⟨#[]⟩), .slice m91_p m91_l m91_c, .slice none 0 0, .int .i64 (0 : Int), .slice m12_p m12_l m12_c, .int .i64 (0 : Int), .int .i64 (0 : Int), .int .i64 (0 : Int), .int .i64 (0 : Int), .int .i64 (0 : Int), .string (⟨#[]⟩), .string (⟨#[]⟩), .int .i64 (0 : Int), .int .i64 (0 : Int), .int .i64 (0 : Int)] 28)] (by kernel_rfl) rfl ?_
  refine AtF.pu ?_
  refine AtF.load 0 10 (T := 23) (v := .slice none 0 0) (by kernel_rfl) ?_
  refine AtF.pu ?_
  refine AtF.pu ?_
  refine AtF.load 0 10 (T := 23) (v := .slice none 0 0) (by kernel_rfl) ?_
  exact H.elim
 ·replace H := H.2 h4'
  refine AtE.ru 6 ?_
  refine AtE.load 0 12 (T := 24) (v := .slice fap f.lab.after.length fac) (by kernel_rfl) ?_
  obtain ⟨news3, hsrc, H⟩ := H
  refine AtE.appendS (T := 24) (U := 24) (E := 3) (z := .int .i64 (0 : Int)) (sz := 1) (bytes := 8) (x := .slice fap f.lab.after.length fac) f.lab.after.length news3 (by kernel_rfl) hsrc H.1 (fun h0 => ?_) (fun h0 B10 cap3 r3 h1 h2 => ?_)
  ·replace H := H.2.1 h0
   refine AtE.ru 2 ?_
   refine AtE.store 0 12 (T := 24) (v := .slice none 0 0) (by kernel_rfl) ?_
   refine AtE.ru 3 ?_
   refine AtE.load 0 0 (T := 28) (v := .agg (fRedactA4 f m9_p m9_l m9_c)) (by kernel_rfl) ?_
   refine AtE.store 1 0 (T := 28) (v := .agg (fRedactA4 f m9_p m9_l m9_c)) (by kernel_rfl) ?_
   refine AtE.ru 1 ?_
   exact AtE.retC 1 0 (a := 2) (T := 28) (v := .agg (fRedactA4 f m9_p m9_l m9_c)) Tryz.func26 (by kernel_rfl) (by kernel_rfl) H
  ·skip
   replace H := H.2.2 h0 B10 cap3 r3 h1 h2
   refine AtE.front ?_
   refine AtE.ru 2 ?_
   refine AtE.store 1 12 (T := 24) (v := .slice (some ⟨B10, 0, none⟩) f.lab.after.length cap3) (by kernel_rfl) ?_
   refine AtE.ru 3 ?_
   refine AtE.load 1 0 (T := 28) (v := .agg (fRedactA2 f m9_p m9_l m9_c B10 cap3)) (by kernel_rfl) ?_
   refine AtE.store 2 0 (T := 28) (v := .agg (fRedactA2 f m9_p m9_l m9_c B10 cap3)) (by kernel_rfl) ?_
   refine AtE.ru 1 ?_
   exact AtE.retC 2 0 (a := 2) (T := 28) (v := .agg (fRedactA2 f m9_p m9_l m9_c B10 cap3)) Tryz.func26 (by kernel_rfl) (by kernel_rfl) H
theorem fRedact_c1_vc (f : Fct) (ftp : Option Addr) (ftc : Nat) (fbp : Option Addr) (fbc : Nat) (fap : Option Addr) (fac : Nat) (B6 : Nat) (B7 : Nat) (B8 : Nat) (t281 : Int) (m92_p : Option Addr) (m92_l : Nat) (m92_c : Nat) (m10_l : Nat) (m10_c : Nat) (cs : List Value) (m93_p : Option Addr) (m93_l : Nat) (m93_c : Nat) (m121_p : Option Addr) (m121_l : Nat) (m121_c : Nat) (F2 : SHeap) {R : Ending → World → Prop} {w0 : World}
  (H :
   ((t281 < (f.blocks.length : Int)) →
    (0 ≤ t281 ∧ t281 < m10_l) ∧
    ∃ (m1_p : Option Addr) (m1_l : Nat) (m1_c : Nat), (cs)[((((Int.toNat t281) * 9) + 5) + 1)]? = some (.slice m1_p m1_l m1_c) ∧
    ∃ news4 : List Value, (∀ W, Mem (fRedactH0 B6 f m92_p m92_l m92_c B7 m10_l m10_c fap fac cs B8 m93_p m93_l m93_c m121_p m121_l m121_c F2) [] w0 W → Go.Src Tryz.prog 1 24 (.slice m1_p m1_l m1_c) m1_l news4 W) ∧
    (m1_l ≤ 9223372036854775807 ∧ m1_l * 8 ≤ 140737488355328) ∧ ((m1_l = 0 →
     (0 ≤ t281 ∧ t281 < m10_l) ∧
     (((((Int.toNat t281) * 9) + 5) + 1) < (cs).length) ∧
     fRedact_c1 f ftp ftc fbp fbc fap fac B6 B7 B8 (IntKind.i64.wrap (t281 + (1 : Int))) m92_p m92_l m92_c m10_l m10_c ((cs).set ((((Int.toNat t281) * 9) + 5) + 1) (.slice none 0 0)) m93_p m93_l m93_c m121_p m121_l m121_c F2 w0 R) ∧
     (0 < m1_l → ∀ (B11 cap4 : Nat) (r4 : List Value), m1_l ≤ cap4 → (news4 ++ r4).length = cap4 * 1 →
     (0 ≤ t281 ∧ t281 < m10_l) ∧
     (((((Int.toNat t281) * 9) + 5) + 1) < (cs).length) ∧
     fRedact_c1 f ftp ftc fbp fbc fap fac B6 B7 B8 (IntKind.i64.wrap (t281 + (1 : Int))) m92_p m92_l m92_c m10_l m10_c ((cs).set ((((Int.toNat t281) * 9) + 5) + 1) (.slice (some ⟨B11, 0, none⟩) m1_l cap4)) m93_p m93_l m93_c m121_p m121_l m121_c ((B11, .cells ⟨(news4 ++ r4)⟩ 3) :: F2) w0 R))) ∧
    ((¬ (t281 < (f.blocks.length : Int))) →
    ∃ news5 : List Value, (∀ W, Mem (fRedactH0 B6 f m92_p m92_l m92_c B7 m10_l m10_c fap fac cs B8 m93_p m93_l m93_c m121_p m121_l m121_c F2) [] w0 W → Go.Src Tryz.prog 1 24 (.slice fap f.lab.after.length fac) f.lab.after.length news5 W) ∧
    (f.lab.after.length ≤ 9223372036854775807 ∧ f.lab.after.length * 8 ≤ 140737488355328) ∧ ((f.lab.after.length = 0 →
     Fin R ((B6, .cells (fRedactA3 f m92_p m92_l m92_c B7 m10_l m10_c) 28) :: (B7, .cells ⟨cs⟩ 89) :: (B8, .cells (fRedactA3 f m92_p m92_l m92_c B7 m10_l m10_c) 28) :: F2) [] w0 (.agg (fRedactA3 f m92_p m92_l m92_c B7 m10_l m10_c))) ∧
     (0 < f.lab.after.length → ∀ (B12 cap5 : Nat) (r5 : List Value), f.lab.after.length ≤ cap5 → (news5 ++ r5).length = cap5 * 1 →
     Fin R ((B12, .cells ⟨(news5 ++ r5)⟩ 3) :: (B6, .cells (fRedactA1 f m92_p m92_l m92_c B7 m10_l m10_c B12 cap5) 28) :: (B7, .cells ⟨cs⟩ 89) :: (B8, .cells (fRedactA1 f m92_p m92_l m92_c B7 m10_l m10_c B12 cap5) 28) :: F2) [] w0 (.agg (fRedactA1 f m92_p m92_l m92_c B7 m10_l m10_c B12 cap5)))))) :
  fRedact_c1 f ftp ftc fbp fbc fap fac B6 B7 B8 t281 m92_p m92_l m92_c m10_l m10_c cs m93_p m93_l m93_c m121_p m121_l m121_c F2 w0 R := by
 unfold fRedact_c1
 refine AtE.ru 5 ?_
 refine AtE.splitP 29 (p := t281 < (f.blocks.length : Int)) (by kernel_rfl) (fun h5' => ?_) (fun h5' => ?_)
 ·replace H := H.1 h5'
  refine AtE.ru 9 ?_
  refine AtE.norm (k' := [.code (sub (Eng.body Tryz.f26) [1,1,1,1,0,1,0,0,1,1,0,0,1]), .inBlock 2, .code (sub (Eng.body Tryz.f26) [1,1,1,1,0,1,0,0,1,1,1]), .inLoop (sub (Eng.body Tryz.f26) [1,1,1,1,0,1,0,0]), .inBlock 1, .code (sub (Eng.body Tryz.f26) [1,1,1,1,1])]) (e' := [(1, .pointer (some ⟨B6, 0, none⟩)), (2, .pointer (some ⟨B8, 0, none⟩)), (3, .int .i64 t281), (27, .int .i64 (f.blocks.length : Int)), (28, .int .i64 t281)]) (L' := (fRedactH0 B6 f m92_p m92_l m92_c B7 m10_l m10_c fap fac cs B8 m93_p m93_l m93_c m121_p m121_l m121_c F2)) ?_ (by kernel_rfl)
  refine AtE.drawD (by kernel_rfl) ?_
  refine AtD.norm (e' := [(1, .pointer (some ⟨B6, 0, none⟩)), (2, .pointer (some ⟨B8, 0, none⟩)), (3, .int .i64 t281), (27, .int .i64 (f.blocks.length : Int)), (28, .int .i64 t281)]) (L' := (fRedactH0 B6 f m92_p m92_l m92_c B7 m10_l m10_c fap fac cs B8 m93_p m93_l m93_c m121_p m121_l m121_c F2)) ?_ (by kernel_rfl)
  refine AtD.phase 11 [0,1,2,3,4,5,6,7,8,9] [10] [(B6, .cells (fRedactA8 f m92_p m92_l m92_c B7 m10_l m10_c fap fac) 28), (B7, .cells ⟨cs⟩ 89), (B8, .cells (fRedactA7 m93_p m93_l m93_c m121_p m121_l m121_c) 28)] (by kernel_rfl) rfl ?_
  refine AtF.pu ?_
  refine AtF.load 0 10 (T := 23) (v := .slice (some ⟨B7, 0, none⟩) m10_l m10_c) (by kernel_rfl) ?_
  refine AtF.pu ?_
  refine AtF.pu ?_
  refine AtF.load 0 10 (T := 23) (v := .slice (some ⟨B7, 0, none⟩) m10_l m10_c) (by kernel_rfl) ?_
  refine AtF.pu ?_
  refine AtF.indexAddrL (E := 89) (b := B7) (o := 0) (len := m10_l) (cap := m10_c) (sz := 9) (o' := ((Int.toNat t281) * 9)) (kd := .i64) (i := t281) (by kernel_rfl) H.1 (by omega) ?_
  replace H := H.2
  refine AtF.pu ?_
  refine AtF.pu ?_
  obtain ⟨m1_p, m1_l, m1_c, hx, H⟩ := H
  refine AtF.loadS 1 (off := ((((Int.toNat t281) * 9) + 5) + 1)) (T := 24) (v := .slice m1_p m1_l m1_c) (by kernel_rfl) (valAt_one hx (by kernel_rfl)) ?_
  refine AtF.done (by kernel_rfl) ?_
  obtain ⟨news4, hsrc, H⟩ := H
  refine AtM.appendS _ (T := 24) (U := 24) (E := 3) (z := .int .i64 (0 : Int)) (sz := 1) (bytes := 8) (x := .slice m1_p m1_l m1_c) m1_l news4 rfl (by kernel_rfl) hsrc H.1 (fun h0 => ?_) (fun h0 B11 cap4 r4 h1 h2 => ?_)
  ·replace H := H.2.1 h0
   refine AtM.done _ (by kernel_rfl) rfl ?_
   refine AtD.norm (e' := [(1, .pointer (some ⟨B6, 0, none⟩)), (2, .pointer (some ⟨B8, 0, none⟩)), (27, .int .i64 (f.blocks.length : Int)), (28, .int .i64 t281), (32, .slice (some ⟨B7, 0, none⟩) m10_l m10_c), (33, .int .i64 t281), (41, .slice none 0 0)]) (L' := (fRedactH0 B6 f m92_p m92_l m92_c B7 m10_l m10_c fap fac cs B8 m93_p m93_l m93_c m121_p m121_l m121_c F2)) ?_ (by kernel_rfl)
   refine AtD.tail (by kernel_rfl) ?_
   refine AtE.indexAddrL (E := 89) (b := B7) (o := 0) (len := m10_l) (cap := m10_c) (sz := 9) (o' := ((Int.toNat t281) * 9)) (kd := .i64) (i := t281) (by kernel_rfl) H.1 (by omega) ?_
   replace H := H.2
   refine AtE.ru 2 ?_
   refine AtE.storeS 1 (off := ((((Int.toNat t281) * 9) + 5) + 1)) (lo := 0) (hi := 0) (T := 24) (v := .slice none 0 0) (c := cs) (by kernel_rfl) H.1 (.inr (Nat.zero_le _)) ?_
   replace H := H.2
   refine AtE.ru 7 ?_
   exact AtE.cutT [0,1,2] 3 H (by kernel_rfl)
  ·skip
   replace H := H.2.2 h0 B11 cap4 r4 h1 h2
   refine AtM.done _ (by kernel_rfl) rfl ?_
   refine AtD.front ?_
   refine AtD.norm (e' := [(1, .pointer (some ⟨B6, 0, none⟩)), (2, .pointer (some ⟨B8, 0, none⟩)), (27, .int .i64 (f.blocks.length : Int)), (28, .int .i64 t281), (32, .slice (some ⟨B7, 0, none⟩) m10_l m10_c), (33, .int .i64 t281), (41, .slice (some ⟨B11, 0, none⟩) m1_l cap4)]) (L' := ((B11, .cells ⟨(news4 ++ r4)⟩ 3) :: (B6, .cells (fRedactA8 f m92_p m92_l m92_c B7 m10_l m10_c fap fac) 28) :: (B7, .cells ⟨cs⟩ 89) :: (B8, .cells (fRedactA7 m93_p m93_l m93_c m121_p m121_l m121_c) 28) :: F2)) ?_ (by kernel_rfl)
   refine AtD.tail (by kernel_rfl) ?_
   refine AtE.indexAddrL (E := 89) (b := B7) (o := 0) (len := m10_l) (cap := m10_c) (sz := 9) (o' := ((Int.toNat t281) * 9)) (kd := .i64) (i := t281) (by kernel_rfl) H.1 (by omega) ?_
   replace H := H.2
   refine AtE.ru 2 ?_
   refine AtE.storeS 2 (off := ((((Int.toNat t281) * 9) + 5) + 1)) (lo := 0) (hi := 0) (T := 24) (v := .slice (some ⟨B11, 0, none⟩) m1_l cap4) (c := cs) (by kernel_rfl) H.1 (.inr (Nat.zero_le _)) ?_
   replace H := H.2
   refine AtE.ru 7 ?_
   exact AtE.cutT [1,2,3,0] 4 H (by kernel_rfl)
 ·replace H := H.2 h5'
  refine AtE.ru 6 ?_
  refine AtE.load 0 12 (T := 24) (v := .slice fap f.lab.after.length fac) (by kernel_rfl) ?_
  obtain ⟨news5, hsrc, H⟩ := H
  refine AtE.appendS (T := 24) (U := 24) (E := 3) (z := .int .i64 (0 : Int)) (sz := 1) (bytes := 8) (x := .slice fap f.lab.after.length fac) f.lab.after.length news5 (by kernel_rfl) hsrc H.1 (fun h0 => ?_) (fun h0 B12 cap5 r5 h1 h2 => ?_)
  ·replace H := H.2.1 h0
   refine AtE.ru 2 ?_
   refine AtE.store 0 12 (T := 24) (v := .slice none 0 0) (by kernel_rfl) ?_
   refine AtE.ru 3 ?_
   refine AtE.load 0 0 (T := 28) (v := .agg (fRedactA3 f m92_p m92_l m92_c B7 m10_l m10_c)) (by kernel_rfl) ?_
   refine AtE.store 2 0 (T := 28) (v := .agg (fRedactA3 f m92_p m92_l m92_c B7 m10_l m10_c)) (by kernel_rfl) ?_
   refine AtE.ru 1 ?_
   exact AtE.retC 2 0 (a := 2) (T := 28) (v := .agg (fRedactA3 f m92_p m92_l m92_c B7 m10_l m10_c)) Tryz.func26 (by kernel_rfl) (by kernel_rfl) H
  ·skip
   replace H := H.2.2 h0 B12 cap5 r5 h1 h2
   refine AtE.front ?_
   refine AtE.ru 2 ?_
   refine AtE.store 1 12 (T := 24) (v := .slice (some ⟨B12, 0, none⟩) f.lab.after.length cap5) (by kernel_rfl) ?_
   refine AtE.ru 3 ?_
   refine AtE.load 1 0 (T := 28) (v := .agg (fRedactA1 f m92_p m92_l m92_c B7 m10_l m10_c B12 cap5)) (by kernel_rfl) ?_
   refine AtE.store 3 0 (T := 28) (v := .agg (fRedactA1 f m92_p m92_l m92_c B7 m10_l m10_c B12 cap5)) (by kernel_rfl) ?_
   refine AtE.ru 1 ?_
   exact AtE.retC 3 0 (a := 2) (T := 28) (v := .agg (fRedactA1 f m92_p m92_l m92_c B7 m10_l m10_c B12 cap5)) Tryz.func26 (by kernel_rfl) (by kernel_rfl) H
theorem fRedact_vc (f : Fct) (ftp : Option Addr) (ftc : Nat) (fbp : Option Addr) (fbc : Nat) (fap : Option Addr) (fac : Nat) (F : SHeap) {R : Ending → World → Prop} {w0 W : World} (hm : Mem (F) [] w0 W)
  (H :
   ∀ B : Nat,
   ∀ B1 : Nat,
   ((f.kind = (1 : Int)) →
    Fin R (fRedactH3 B1 f B ftp ftc fbp fbc fap fac F) [] w0 (.agg (fRedactA0 f))) ∧
    ((¬ (f.kind = (1 : Int))) →
    ((f.kind = (4 : Int)) →
     Fin R (fRedactH3 B1 f B ftp ftc fbp fbc fap fac F) [] w0 (.agg (fRedactA0 f))) ∧
     ((¬ (f.kind = (4 : Int))) →
     ((f.kind = (5 : Int)) →
      Fin R (fRedactH3 B1 f B ftp ftc fbp fbc fap fac F) [] w0 (.agg (fRedactA0 f))) ∧
      ((¬ (f.kind = (5 : Int))) →
      ∃ news : List Value, (∀ W, Mem (fRedactH1 B1 B f ftp ftc fbp fbc fap fac F) [] w0 W → Go.Src Tryz.prog 1 22 (.slice ftp f.topics.length ftc) f.topics.length news W) ∧
      (f.topics.length ≤ 9223372036854775807 ∧ f.topics.length * 16 ≤ 140737488355328) ∧ ((f.topics.length = 0 →
       ∃ news1 : List Value, (∀ W, Mem ((B1, .cells fRedactA5 28) :: (B, .cells #[.int .i64 f.n, .int .i64 f.time, .int .i64 f.kind, .int .i64 f.story, .string f.lang, .int .i64 f.rev, .int .i64 f.base, .string f.title, .string f.author, .slice none 0 0, .slice fbp f.blocks.length fbc, .int .i64 f.lab.unt, .slice fap f.lab.after.length fac, .int .i64 f.lab.appr, .int .i64 f.lab.den, .int .i64 f.editor, .int .i64 f.block, .int .i64 f.sentence, .string f.text, .string f.name, .int .i64 f.partner, .int .i64 f.cls, .int .i64 f.unt] 28) :: F) [] w0 W → Go.Src Tryz.prog 9 23 (.slice fbp f.blocks.length fbc) f.blocks.length news1 W) ∧
       (f.blocks.length ≤ 9223372036854775807 ∧ f.blocks.length * 96 ≤ 140737488355328) ∧ ((f.blocks.length = 0 →
        fRedact_c0 f ftp ftc fbp fbc fap fac B B1 (0 : Int) (0 : Int) none 0 0 none 0 0 none 0 0 F w0 R) ∧
        (0 < f.blocks.length → ∀ (B3 cap1 : Nat) (r1 : List Value), f.blocks.length ≤ cap1 → (news1 ++ r1).length = cap1 * 9 →
        fRedact_c1 f ftp ftc fbp fbc fap fac B B3 B1 (0 : Int) none 0 0 f.blocks.length cap1 (news1 ++ r1) none 0 0 none 0 0 F w0 R))) ∧
       (0 < f.topics.length → ∀ (B2 cap : Nat) (r : List Value), f.topics.length ≤ cap → (news ++ r).length = cap * 1 →
       ∃ news2 : List Value, (∀ W, Mem ((B2, .cells ⟨(news ++ r)⟩ 9) :: (B1, .cells fRedactA5 28) :: (B, .cells #[.int .i64 f.n, .int .i64 f.time, .int .i64 f.kind, .int .i64 f.story, .string f.lang, .int .i64 f.rev, .int .i64 f.base, .string f.title, .string f.author, .slice (some ⟨B2, 0, none⟩) f.topics.length cap, .slice fbp f.blocks.length fbc, .int .i64 f.lab.unt, .slice fap f.lab.after.length fac, .int .i64 f.lab.appr, .int .i64 f.lab.den, .int .i64 f.editor, .int .i64 f.block, .int .i64 f.sentence, .string f.text, .string f.name, .int .i64 f.partner, .int .i64 f.cls, .int .i64 f.unt] 28) :: F) [] w0 W → Go.Src Tryz.prog 9 23 (.slice fbp f.blocks.length fbc) f.blocks.length news2 W) ∧
       (f.blocks.length ≤ 9223372036854775807 ∧ f.blocks.length * 96 ≤ 140737488355328) ∧ ((f.blocks.length = 0 →
        fRedact_c0 f ftp ftc fbp fbc fap fac B B1 (0 : Int) (0 : Int) (some ⟨B2, 0, none⟩) f.topics.length cap none 0 0 none 0 0 ((B2, .cells ⟨(news ++ r)⟩ 9) :: F) w0 R) ∧
        (0 < f.blocks.length → ∀ (B9 cap2 : Nat) (r2 : List Value), f.blocks.length ≤ cap2 → (news2 ++ r2).length = cap2 * 9 →
        fRedact_c1 f ftp ftc fbp fbc fap fac B B9 B1 (0 : Int) (some ⟨B2, 0, none⟩) f.topics.length cap f.blocks.length cap2 (news2 ++ r2) none 0 0 none 0 0 ((B2, .cells ⟨(news ++ r)⟩ 9) :: F) w0 R)))))))) :
  Calls Tryz.prog 26 ⟨[.agg (fRedactA6 f ftp ftc fbp fbc fap fac)]⟩ W R := by
 refine AtE.calls (nt := 53) Tryz.func26 (by kernel_rfl) hm ?_
 refine AtE.ru 2 ?_
 refine AtE.new (fun B => .pointer (some ⟨B, 0, none⟩)) (.cells (fRedactA6 f ftp ftc fbp fbc fap fac) 28) (fun W => by kernel_rfl) (by kernel_rfl) (fun B => ?_)
 replace H := H B
 refine AtE.front ?_
 refine AtE.new (fun B => .pointer (some ⟨B, 0, none⟩)) (.cells fRedactA5 28) (fun W => by kernel_rfl) (by kernel_rfl) (fun B1 => ?_)
 replace H := H B1
 refine AtE.front ?_
 refine AtE.ru 5 ?_
 refine AtE.load 1 2 (T := 3) (v := .int .i64 f.kind) (by kernel_rfl) ?_
 refine AtE.ru 8 ?_
 refine AtE.splitP 6 (p := f.kind = (1 : Int)) (by kernel_rfl) (fun h1' => ?_) (fun h1' => ?_)
 ·replace H := H.1 h1'
  refine AtE.ru 6 ?_
  refine AtE.load 1 0 (T := 3) (v := .int .i64 f.n) (by kernel_rfl) ?_
  refine AtE.ru 1 ?_
  refine AtE.load 1 1 (T := 3) (v := .int .i64 f.time) (by kernel_rfl) ?_
  refine AtE.ru 1 ?_
  refine AtE.load 1 3 (T := 3) (v := .int .i64 f.story) (by kernel_rfl) ?_
  refine AtE.norm (k' := [.inRegion (regOps [.code (sub (Eng.body Tryz.f26) [1,0,1,0,1,0,0])]) [6,7], .code (sub (Eng.body Tryz.f26) [1,0,1,0,1,0,1]), .inBlock 0, .code (sub (Eng.body Tryz.f26) [1,1])]) (e' := [(2, .pointer (some ⟨B1, 0, none⟩)), (11, .int .i64 f.n), (13, .int .i64 f.time), (15, .int .i64 f.story)]) (L' := (fRedactH1 B1 B f ftp ftc fbp fbc fap fac F)) ?_ (by kernel_rfl)
  refine AtE.ru 1 ?_
  refine AtE.store 0 0 (T := 28) (v := .agg (fRedactA0 f)) (by kernel_rfl) ?_
  refine AtE.ru 1 ?_
  exact AtE.retC 0 0 (a := 2) (T := 28) (v := .agg (fRedactA0 f)) Tryz.func26 (by kernel_rfl) (by kernel_rfl) H
 ·replace H := H.2 h1'
  refine AtE.ru 6 ?_
  refine AtE.splitP 6 (p := f.kind = (4 : Int)) (by kernel_rfl) (fun h2' => ?_) (fun h2' => ?_)
  ·replace H := H.1 h2'
   refine AtE.ru 6 ?_
   refine AtE.load 1 0 (T := 3) (v := .int .i64 f.n) (by kernel_rfl) ?_
   refine AtE.ru 1 ?_
   refine AtE.load 1 1 (T := 3) (v := .int .i64 f.time) (by kernel_rfl) ?_
   refine AtE.norm (k' := [.inRegion (regOps [.code (sub (Eng.body Tryz.f26) [1,0,1,0,1,0,0])]) [4,5,6,7], .code (sub (Eng.body Tryz.f26) [1,0,1,0,1,0,1]), .inBlock 0, .code (sub (Eng.body Tryz.f26) [1,1])]) (e' := [(1, .pointer (some ⟨B, 0, none⟩)), (2, .pointer (some ⟨B1, 0, none⟩)), (11, .int .i64 f.n), (13, .int .i64 f.time)]) (L' := (fRedactH1 B1 B f ftp ftc fbp fbc fap fac F)) ?_ (by kernel_rfl)
   refine AtE.ru 1 ?_
   refine AtE.load 1 3 (T := 3) (v := .int .i64 f.story) (by kernel_rfl) ?_
   refine AtE.ru 1 ?_
   refine AtE.store 0 0 (T := 28) (v := .agg (fRedactA0 f)) (by kernel_rfl) ?_
   refine AtE.ru 1 ?_
   exact AtE.retC 0 0 (a := 2) (T := 28) (v := .agg (fRedactA0 f)) Tryz.func26 (by kernel_rfl) (by kernel_rfl) H
  ·replace H := H.2 h2'
   refine AtE.ru 5 ?_
   refine AtE.splitP 6 (p := f.kind = (5 : Int)) (by kernel_rfl) (fun h3' => ?_) (fun h3' => ?_)
   ·replace H := H.1 h3'
    refine AtE.ru 4 ?_
    refine AtE.load 1 0 (T := 3) (v := .int .i64 f.n) (by kernel_rfl) ?_
    refine AtE.norm (k' := [.inRegion (regOps [.code (sub (Eng.body Tryz.f26) [1,0,1,0,1,0,0])]) [2,3,4,5,6,7], .code (sub (Eng.body Tryz.f26) [1,0,1,0,1,0,1]), .inBlock 0, .code (sub (Eng.body Tryz.f26) [1,1])]) (e' := [(1, .pointer (some ⟨B, 0, none⟩)), (2, .pointer (some ⟨B1, 0, none⟩)), (11, .int .i64 f.n)]) (L' := (fRedactH1 B1 B f ftp ftc fbp fbc fap fac F)) ?_ (by kernel_rfl)
    refine AtE.ru 1 ?_
    refine AtE.load 1 1 (T := 3) (v := .int .i64 f.time) (by kernel_rfl) ?_
    refine AtE.ru 1 ?_
    refine AtE.load 1 3 (T := 3) (v := .int .i64 f.story) (by kernel_rfl) ?_
    refine AtE.ru 1 ?_
    refine AtE.store 0 0 (T := 28) (v := .agg (fRedactA0 f)) (by kernel_rfl) ?_
    refine AtE.ru 1 ?_
    exact AtE.retC 0 0 (a := 2) (T := 28) (v := .agg (fRedactA0 f)) Tryz.func26 (by kernel_rfl) (by kernel_rfl) H
   ·replace H := H.2 h3'
    refine AtE.ru 6 ?_
    refine AtE.load 1 9 (T := 22) (v := .slice ftp f.topics.length ftc) (by kernel_rfl) ?_
    refine AtE.norm (k' := [.inRegion (regOps [.code (sub (Eng.body Tryz.f26) [1,1,0])]) [2,3,4], .code (sub (Eng.body Tryz.f26) [1,1,1])]) (e' := [(1, .pointer (some ⟨B, 0, none⟩)), (2, .pointer (some ⟨B1, 0, none⟩)), (18, .slice ftp f.topics.length ftc)]) (L' := (fRedactH1 B1 B f ftp ftc fbp fbc fap fac F)) ?_ (by kernel_rfl)
    obtain ⟨news, hsrc, H⟩ := H
    refine AtE.appendS (T := 22) (U := 22) (E := 9) (z := .string (⟨#[]⟩)) (sz := 1) (bytes := 16) (x := .slice ftp f.topics.length ftc) f.topics.length news (by kernel_rfl) hsrc H.1 (fun h0 => ?_) (fun h0 B2 cap r h1 h2 => ?_)
    ·replace H := H.2.1 h0
     refine AtE.ru 1 ?_
     refine AtE.store 1 9 (T := 22) (v := .slice none 0 0) (by kernel_rfl) ?_
     refine AtE.ru 4 ?_
     refine AtE.load 1 10 (T := 23) (v := .slice fbp f.blocks.length fbc) (by kernel_rfl) ?_
     obtain ⟨news1, hsrc, H⟩ := H
     refine AtE.appendS (T := 23) (U := 23) (E := 89) (z := .agg #[.int .i64 (0 : Int), .int .i64 (0 : Int), .string (⟨#[]⟩), .int .i64 (0 : Int), .int .i64 (0 : Int), .int .i64 (0 : Int), .slice none 0 0, .int .i64 (0 : Int), .int .i64 (0 : Int)]) (sz := 9) (bytes := 96) (x := .slice fbp f.blocks.length fbc) f.blocks.length news1 (by kernel_rfl) hsrc H.1 (fun h0 => ?_) (fun h0 B3 cap1 r1 h1 h2 => ?_)
     ·replace H := H.2.1 h0
      refine AtE.ru 1 ?_
      refine AtE.store 1 10 (T := 23) (v := .slice none 0 0) (by kernel_rfl) ?_
      refine AtE.ru 5 ?_
      refine AtE.load 1 10 (T := 23) (v := .slice none 0 0) (by kernel_rfl) ?_
      refine AtE.ru 5 ?_
      exact AtE.cutT [1,0] 2 H (by kernel_rfl)
     ·skip
      replace H := H.2.2 h0 B3 cap1 r1 h1 h2
      refine AtE.front ?_
      refine AtE.ru 1 ?_
      refine AtE.store 2 10 (T := 23) (v := .slice (some ⟨B3, 0, none⟩) f.blocks.length cap1) (by kernel_rfl) ?_
      refine AtE.ru 5 ?_
      refine AtE.load 2 10 (T := 23) (v := .slice (some ⟨B3, 0, none⟩) f.blocks.length cap1) (by kernel_rfl) ?_
      refine AtE.ru 5 ?_
      exact AtE.cutT [2,0,1] 3 H (by kernel_rfl)
    ·skip
     replace H := H.2.2 h0 B2 cap r h1 h2
     refine AtE.front ?_
     refine AtE.ru 1 ?_
     refine AtE.store 2 9 (T := 22) (v := .slice (some ⟨B2, 0, none⟩) f.topics.length cap) (by kernel_rfl) ?_
     refine AtE.ru 4 ?_
     refine AtE.load 2 10 (T := 23) (v := .slice fbp f.blocks.length fbc) (by kernel_rfl) ?_
     obtain ⟨news2, hsrc, H⟩ := H
     refine AtE.appendS (T := 23) (U := 23) (E := 89) (z := .agg #[.int .i64 (0 : Int), .int .i64 (0 : Int), .string (⟨#[]⟩), .int .i64 (0 : Int), .int .i64 (0 : Int), .int .i64 (0 : Int), .slice none 0 0, .int .i64 (0 : Int), .int .i64 (0 : Int)]) (sz := 9) (bytes := 96) (x := .slice fbp f.blocks.length fbc) f.blocks.length news2 (by kernel_rfl) hsrc H.1 (fun h0 => ?_) (fun h0 B9 cap2 r2 h1 h2 => ?_)
     ·replace H := H.2.1 h0
      refine AtE.ru 1 ?_
      refine AtE.store 2 10 (T := 23) (v := .slice none 0 0) (by kernel_rfl) ?_
      refine AtE.ru 5 ?_
      refine AtE.load 2 10 (T := 23) (v := .slice none 0 0) (by kernel_rfl) ?_
      refine AtE.ru 5 ?_
      exact AtE.cutT [2,1,0] 3 H (by kernel_rfl)
     ·skip
      replace H := H.2.2 h0 B9 cap2 r2 h1 h2
      refine AtE.front ?_
      refine AtE.ru 1 ?_
      refine AtE.store 3 10 (T := 23) (v := .slice (some ⟨B9, 0, none⟩) f.blocks.length cap2) (by kernel_rfl) ?_
      refine AtE.ru 5 ?_
      refine AtE.load 3 10 (T := 23) (v := .slice (some ⟨B9, 0, none⟩) f.blocks.length cap2) (by kernel_rfl) ?_
      refine AtE.ru 5 ?_
      exact AtE.cutT [3,0,2,1] 4 H (by kernel_rfl)
end Go.Eng
namespace Go.Eng
open Go Go.RowKit Go.Proofs
set_option linter.unusedVariables false
set_option maxRecDepth 100000
abbrev sane5H0 (B5 : Nat) (z : Fct) (ztp : Option Addr) (ztc : Nat) (zbp : Option Addr) (zbc : Nat) (zap : Option Addr) (zac : Nat) (B4 : Nat) (B3 : Nat) (B2 : Nat) (d2 : Fct) (d2tp : Option Addr) (d2tc : Nat) (d2bp : Option Addr) (d2bc : Nat) (d2ap : Option Addr) (d2ac : Nat) (B1 : Nat) (d1 : Fct) (d1tp : Option Addr) (d1tc : Nat) (d1bp : Option Addr) (d1bc : Nat) (d1ap : Option Addr) (d1ac : Nat) (B : Nat) (d : Fct) (dtp : Option Addr) (dtc : Nat) (dbp : Option Addr) (dbc : Nat) (dap : Option Addr) (dac : Nat) (F3 : SHeap) : SHeap := ((B5, .cells #[.int .i64 z.n, .int .i64 z.time, .int .i64 z.kind, .int .i64 z.story, .string z.lang, .int .i64 z.rev, .int .i64 z.base, .string z.title, .string z.author, .slice ztp z.topics.length ztc, .slice zbp z.blocks.length zbc, .int .i64 z.lab.unt, .slice zap z.lab.after.length zac, .int .i64 z.lab.appr, .int .i64 z.lab.den, .int .i64 z.editor, .int .i64 z.block, .int .i64 z.sentence, .string z.text, .string z.name, .int .i64 z.partner, .int .i64 z.cls, .int .i64 z.unt] 28) :: (B4, .cells #[.int .i64 (1 : Int), .int .i64 (1 : Int), .string (⟨#[82,97,105,110]⟩), .int .i64 (0 : Int), .int .i64 (0 : Int), .int .i64 (0 : Int), .slice none 0 0, .int .i64 (0 : Int), .int .i64 (0 : Int)] 89) :: (B3, .cells #[.string (⟨#[97]⟩), .string (⟨#[98]⟩)] 9) :: (B2, .cells #[.int .i64 d2.n, .int .i64 d2.time, .int .i64 d2.kind, .int .i64 d2.story, .string d2.lang, .int .i64 d2.rev, .int .i64 d2.base, .string d2.title, .string d2.author, .slice d2tp d2.topics.length d2tc, .slice d2bp d2.blocks.length d2bc, .int .i64 d2.lab.unt, .slice d2ap d2.lab.after.length d2ac, .int .i64 d2.lab.appr, .int .i64 d2.lab.den, .int .i64 d2.editor, .int .i64 d2.block, .int .i64 d2.sentence, .string d2.text, .string d2.name, .int .i64 d2.partner, .int .i64 d2.cls, .int .i64 d2.unt] 28) :: (B1, .cells #[.int .i64 d1.n, .int .i64 d1.time, .int .i64 d1.kind, .int .i64 d1.story, .string d1.lang, .int .i64 d1.rev, .int .i64 d1.base, .string d1.title, .string d1.author, .slice d1tp d1.topics.length d1tc, .slice d1bp d1.blocks.length d1bc, .int .i64 d1.lab.unt, .slice d1ap d1.lab.after.length d1ac, .int .i64 d1.lab.appr, .int .i64 d1.lab.den, .int .i64 d1.editor, .int .i64 d1.block, .int .i64 d1.sentence, .string d1.text, .string d1.name, .int .i64 d1.partner, .int .i64 d1.cls, .int .i64 d1.unt] 28) :: (B, .cells #[.int .i64 d.n, .int .i64 d.time, .int .i64 d.kind, .int .i64 d.story, .string d.lang, .int .i64 d.rev, .int .i64 d.base, .string d.title, .string d.author, .slice dtp d.topics.length dtc, .slice dbp d.blocks.length dbc, .int .i64 d.lab.unt, .slice dap d.lab.after.length dac, .int .i64 d.lab.appr, .int .i64 d.lab.den, .int .i64 d.editor, .int .i64 d.block, .int .i64 d.sentence, .string d.text, .string d.name, .int .i64 d.partner, .int .i64 d.cls, .int .i64 d.unt] 28) :: F3)
abbrev sane5H1 (B2 : Nat) (d2 : Fct) (d2tp : Option Addr) (d2tc : Nat) (d2bp : Option Addr) (d2bc : Nat) (d2ap : Option Addr) (d2ac : Nat) (B1 : Nat) (d1 : Fct) (d1tp : Option Addr) (d1tc : Nat) (d1bp : Option Addr) (d1bc : Nat) (d1ap : Option Addr) (d1ac : Nat) (B : Nat) (d : Fct) (dtp : Option Addr) (dtc : Nat) (dbp : Option Addr) (dbc : Nat) (dap : Option Addr) (dac : Nat) (F2 : SHeap) : SHeap := ((B2, .cells #[.int .i64 d2.n, .int .i64 d2.time, .int .i64 d2.kind, .int .i64 d2.story, .string d2.lang, .int .i64 d2.rev, .int .i64 d2.base, .string d2.title, .string d2.author, .slice d2tp d2.topics.length d2tc, .slice d2bp d2.blocks.length d2bc, .int .i64 d2.lab.unt, .slice d2ap d2.lab.after.length d2ac, .int .i64 d2.lab.appr, .int .i64 d2.lab.den, .int .i64 d2.editor, .int .i64 d2.block, .int .i64 d2.sentence, .string d2.text, .string d2.name, .int .i64 d2.partner, .int .i64 d2.cls, .int .i64 d2.unt] 28) :: (B1, .cells #[.int .i64 d1.n, .int .i64 d1.time, .int .i64 d1.kind, .int .i64 d1.story, .string d1.lang, .int .i64 d1.rev, .int .i64 d1.base, .string d1.title, .string d1.author, .slice d1tp d1.topics.length d1tc, .slice d1bp d1.blocks.length d1bc, .int .i64 d1.lab.unt, .slice d1ap d1.lab.after.length d1ac, .int .i64 d1.lab.appr, .int .i64 d1.lab.den, .int .i64 d1.editor, .int .i64 d1.block, .int .i64 d1.sentence, .string d1.text, .string d1.name, .int .i64 d1.partner, .int .i64 d1.cls, .int .i64 d1.unt] 28) :: (B, .cells #[.int .i64 d.n, .int .i64 d.time, .int .i64 d.kind, .int .i64 d.story, .string d.lang, .int .i64 d.rev, .int .i64 d.base, .string d.title, .string d.author, .slice dtp d.topics.length dtc, .slice dbp d.blocks.length dbc, .int .i64 d.lab.unt, .slice dap d.lab.after.length dac, .int .i64 d.lab.appr, .int .i64 d.lab.den, .int .i64 d.editor, .int .i64 d.block, .int .i64 d.sentence, .string d.text, .string d.name, .int .i64 d.partner, .int .i64 d.cls, .int .i64 d.unt] 28) :: F2)
abbrev sane5H2 (B4 : Nat) (B3 : Nat) (B2 : Nat) (d2 : Fct) (d2tp : Option Addr) (d2tc : Nat) (d2bp : Option Addr) (d2bc : Nat) (d2ap : Option Addr) (d2ac : Nat) (B1 : Nat) (d1 : Fct) (d1tp : Option Addr) (d1tc : Nat) (d1bp : Option Addr) (d1bc : Nat) (d1ap : Option Addr) (d1ac : Nat) (B : Nat) (d : Fct) (dtp : Option Addr) (dtc : Nat) (dbp : Option Addr) (dbc : Nat) (dap : Option Addr) (dac : Nat) (F2 : SHeap) : SHeap := ((B4, .cells #[.int .i64 (1 : Int), .int .i64 (1 : Int), .string (⟨#[82,97,105,110]⟩), .int .i64 (0 : Int), .int .i64 (0 : Int), .int .i64 (0 : Int), .slice none 0 0, .int .i64 (0 : Int), .int .i64 (0 : Int)] 89) :: (B3, .cells #[.string (⟨#[97]⟩), .string (⟨#[98]⟩)] 9) :: (B2, .cells #[.int .i64 d2.n, .int .i64 d2.time, .int .i64 d2.kind, .int .i64 d2.story, .string d2.lang, .int .i64 d2.rev, .int .i64 d2.base, .string d2.title, .string d2.author, .slice d2tp d2.topics.length d2tc, .slice d2bp d2.blocks.length d2bc, .int .i64 d2.lab.unt, .slice d2ap d2.lab.after.length d2ac, .int .i64 d2.lab.appr, .int .i64 d2.lab.den, .int .i64 d2.editor, .int .i64 d2.block, .int .i64 d2.sentence, .string d2.text, .string d2.name, .int .i64 d2.partner, .int .i64 d2.cls, .int .i64 d2.unt] 28) :: (B1, .cells #[.int .i64 d1.n, .int .i64 d1.time, .int .i64 d1.kind, .int .i64 d1.story, .string d1.lang, .int .i64 d1.rev, .int .i64 d1.base, .string d1.title, .string d1.author, .slice d1tp d1.topics.length d1tc, .slice d1bp d1.blocks.length d1bc, .int .i64 d1.lab.unt, .slice d1ap d1.lab.after.length d1ac, .int .i64 d1.lab.appr, .int .i64 d1.lab.den, .int .i64 d1.editor, .int .i64 d1.block, .int .i64 d1.sentence, .string d1.text, .string d1.name, .int .i64 d1.partner, .int .i64 d1.cls, .int .i64 d1.unt] 28) :: (B, .cells #[.int .i64 d.n, .int .i64 d.time, .int .i64 d.kind, .int .i64 d.story, .string d.lang, .int .i64 d.rev, .int .i64 d.base, .string d.title, .string d.author, .slice dtp d.topics.length dtc, .slice dbp d.blocks.length dbc, .int .i64 d.lab.unt, .slice dap d.lab.after.length dac, .int .i64 d.lab.appr, .int .i64 d.lab.den, .int .i64 d.editor, .int .i64 d.block, .int .i64 d.sentence, .string d.text, .string d.name, .int .i64 d.partner, .int .i64 d.cls, .int .i64 d.unt] 28) :: F2)
abbrev sane5H3 (B1 : Nat) (d1 : Fct) (d1tp : Option Addr) (d1tc : Nat) (d1bp : Option Addr) (d1bc : Nat) (d1ap : Option Addr) (d1ac : Nat) (B : Nat) (d : Fct) (dtp : Option Addr) (dtc : Nat) (dbp : Option Addr) (dbc : Nat) (dap : Option Addr) (dac : Nat) (F1 : SHeap) : SHeap := ((B1, .cells #[.int .i64 d1.n, .int .i64 d1.time, .int .i64 d1.kind, .int .i64 d1.story, .string d1.lang, .int .i64 d1.rev, .int .i64 d1.base, .string d1.title, .string d1.author, .slice d1tp d1.topics.length d1tc, .slice d1bp d1.blocks.length d1bc, .int .i64 d1.lab.unt, .slice d1ap d1.lab.after.length d1ac, .int .i64 d1.lab.appr, .int .i64 d1.lab.den, .int .i64 d1.editor, .int .i64 d1.block, .int .i64 d1.sentence, .string d1.text, .string d1.name, .int .i64 d1.partner, .int .i64 d1.cls, .int .i64 d1.unt] 28) :: (B, .cells #[.int .i64 d.n, .int .i64 d.time, .int .i64 d.kind, .int .i64 d.story, .string d.lang, .int .i64 d.rev, .int .i64 d.base, .string d.title, .string d.author, .slice dtp d.topics.length dtc, .slice dbp d.blocks.length dbc, .int .i64 d.lab.unt, .slice dap d.lab.after.length dac, .int .i64 d.lab.appr, .int .i64 d.lab.den, .int .i64 d.editor, .int .i64 d.block, .int .i64 d.sentence, .string d.text, .string d.name, .int .i64 d.partner, .int .i64 d.cls, .int .i64 d.unt] 28) :: F1)
abbrev sane5A0 (d : Fct) (dtp : Option Addr) (dtc : Nat) (dbp : Option Addr) (dbc : Nat) (dap : Option Addr) (dac : Nat) : Array Value := #[.int .i64 d.n, .int .i64 d.time, .int .i64 d.kind, .int .i64 d.story, .string d.lang, .int .i64 d.rev, .int .i64 d.base, .string d.title, .string d.author, .slice dtp d.topics.length dtc, .slice dbp d.blocks.length dbc, .int .i64 d.lab.unt, .slice dap d.lab.after.length dac, .int .i64 d.lab.appr, .int .i64 d.lab.den, .int .i64 d.editor, .int .i64 d.block, .int .i64 d.sentence, .string d.text, .string d.name, .int .i64 d.partner, .int .i64 d.cls, .int .i64 d.unt]
abbrev sane5A1 (z : Fct) (ztp : Option Addr) (ztc : Nat) (zbp : Option Addr) (zbc : Nat) (zap : Option Addr) (zac : Nat) : Array Value := #[.int .i64 z.n, .int .i64 z.time, .int .i64 z.kind, .int .i64 z.story, .string z.lang, .int .i64 z.rev, .int .i64 z.base, .string z.title, .string z.author, .slice ztp z.topics.length ztc, .slice zbp z.blocks.length zbc, .int .i64 z.lab.unt, .slice zap z.lab.after.length zac, .int .i64 z.lab.appr, .int .i64 z.lab.den, .int .i64 z.editor, .int .i64 z.block, .int .i64 z.sentence, .string z.text, .string z.name, .int .i64 z.partner, .int .i64 z.cls, .int .i64 z.unt]
abbrev sane5A2 (d1 : Fct) (d1tp : Option Addr) (d1tc : Nat) (d1bp : Option Addr) (d1bc : Nat) (d1ap : Option Addr) (d1ac : Nat) : Array Value := #[.int .i64 d1.n, .int .i64 d1.time, .int .i64 d1.kind, .int .i64 d1.story, .string d1.lang, .int .i64 d1.rev, .int .i64 d1.base, .string d1.title, .string d1.author, .slice d1tp d1.topics.length d1tc, .slice d1bp d1.blocks.length d1bc, .int .i64 d1.lab.unt, .slice d1ap d1.lab.after.length d1ac, .int .i64 d1.lab.appr, .int .i64 d1.lab.den, .int .i64 d1.editor, .int .i64 d1.block, .int .i64 d1.sentence, .string d1.text, .string d1.name, .int .i64 d1.partner, .int .i64 d1.cls, .int .i64 d1.unt]
abbrev sane5A3 : Array Value := #[.int .i64 (0 : Int), .int .i64 (0 : Int), .int .i64 (0 : Int), .int .i64 (0 : Int), .string (⟨#[]⟩), .int .i64 (0 : Int), .int .i64 (0 : Int), .string (⟨#[]⟩), .string (⟨#[]⟩), .slice none 0 0, .slice none 0 0, .int .i64 (0 : Int), .slice none 0 0, .int .i64 (0 : Int), .int .i64 (0 : Int), .int .i64 (0 : Int), .int .i64 (0 : Int), .int .i64 (0 : Int), .string (⟨#[]⟩), .string (⟨#[]⟩), .int .i64 (0 : Int), .int .i64 (0 : Int), .int .i64 (0 : Int)]
abbrev sane5A4 (d2 : Fct) (d2tp : Option Addr) (d2tc : Nat) (d2bp : Option Addr) (d2bc : Nat) (d2ap : Option Addr) (d2ac : Nat) : Array Value := #[.int .i64 d2.n, .int .i64 d2.time, .int .i64 d2.kind, .int .i64 d2.story, .string d2.lang, .int .i64 d2.rev, .int .i64 d2.base, .string d2.title, .string d2.author, .slice d2tp d2.topics.length d2tc, .slice d2bp d2.blocks.length d2bc, .int .i64 d2.lab.unt, .slice d2ap d2.lab.after.length d2ac, .int .i64 d2.lab.appr, .int .i64 d2.lab.den, .int .i64 d2.editor, .int .i64 d2.block, .int .i64 d2.sentence, .string d2.text, .string d2.name, .int .i64 d2.partner, .int .i64 d2.cls, .int .i64 d2.unt]
abbrev sane5A5 (B3 : Nat) (B4 : Nat) : Array Value := #[.int .i64 (0 : Int), .int .i64 (0 : Int), .int .i64 (1 : Int), .int .i64 (1 : Int), .string (⟨#[101,110]⟩), .int .i64 (1 : Int), .int .i64 (0 : Int), .string (⟨#[82,97,105,110]⟩), .string (⟨#[97,110,110]⟩), .slice (some ⟨B3, 0, none⟩) 2 2, .slice (some ⟨B4, 0, none⟩) 1 1, .int .i64 (0 : Int), .slice none 0 0, .int .i64 (0 : Int), .int .i64 (0 : Int), .int .i64 (0 : Int), .int .i64 (0 : Int), .int .i64 (0 : Int), .string (⟨#[]⟩), .string (⟨#[]⟩), .int .i64 (0 : Int), .int .i64 (0 : Int), .int .i64 (0 : Int)]
abbrev sane5A6 : Array Value := #[.int .i64 (9 : Int), .int .i64 (5 : Int), .int .i64 (4 : Int), .int .i64 (2 : Int), .string (⟨#[101,110]⟩), .int .i64 (0 : Int), .int .i64 (0 : Int), .string (⟨#[]⟩), .string (⟨#[]⟩), .slice none 0 0, .slice none 0 0, .int .i64 (0 : Int), .slice none 0 0, .int .i64 (0 : Int), .int .i64 (0 : Int), .int .i64 (0 : Int), .int .i64 (1 : Int), .int .i64 (0 : Int), .string (⟨#[78,111,46]⟩), .string (⟨#[]⟩), .int .i64 (0 : Int), .int .i64 (0 : Int), .int .i64 (0 : Int)]
abbrev sane5A7 : Array Value := #[.int .i64 (1 : Int), .int .i64 (0 : Int), .int .i64 (2 : Int), .int .i64 (3 : Int), .string (⟨#[101,110]⟩), .int .i64 (0 : Int), .int .i64 (0 : Int), .string (⟨#[]⟩), .string (⟨#[]⟩), .slice none 0 0, .slice none 0 0, .int .i64 (0 : Int), .slice none 0 0, .int .i64 (0 : Int), .int .i64 (0 : Int), .int .i64 (2 : Int), .int .i64 (0 : Int), .int .i64 (0 : Int), .string (⟨#[]⟩), .string (⟨#[]⟩), .int .i64 (0 : Int), .int .i64 (0 : Int), .int .i64 (0 : Int)]
abbrev sane5A8 : Array Value := #[.int .i64 (2 : Int), .int .i64 (70 : Int), .int .i64 (6 : Int), .int .i64 (65 : Int), .string (⟨#[]⟩), .int .i64 (0 : Int), .int .i64 (0 : Int), .string (⟨#[]⟩), .string (⟨#[]⟩), .slice none 0 0, .slice none 0 0, .int .i64 (0 : Int), .slice none 0 0, .int .i64 (0 : Int), .int .i64 (0 : Int), .int .i64 (0 : Int), .int .i64 (0 : Int), .int .i64 (0 : Int), .string (⟨#[]⟩), .string (⟨#[]⟩), .int .i64 (0 : Int), .int .i64 (0 : Int), .int .i64 (0 : Int)]
abbrev sane5A9 : Array Value := #[.int .i64 (2 : Int), .int .i64 (70 : Int), .int .i64 (6 : Int), .int .i64 (5 : Int), .string (⟨#[]⟩), .int .i64 (0 : Int), .int .i64 (0 : Int), .string (⟨#[]⟩), .string (⟨#[]⟩), .slice none 0 0, .slice none 0 0, .int .i64 (0 : Int), .slice none 0 0, .int .i64 (0 : Int), .int .i64 (0 : Int), .int .i64 (0 : Int), .int .i64 (0 : Int), .int .i64 (0 : Int), .string (⟨#[]⟩), .string (⟨#[]⟩), .int .i64 (0 : Int), .int .i64 (0 : Int), .int .i64 (0 : Int)]
abbrev sane5A10 : Array Value := #[.int .i64 (9 : Int), .int .i64 (5 : Int), .int .i64 (10 : Int), .int .i64 (2 : Int), .string (⟨#[]⟩), .int .i64 (0 : Int), .int .i64 (0 : Int), .string (⟨#[]⟩), .string (⟨#[]⟩), .slice none 0 0, .slice none 0 0, .int .i64 (0 : Int), .slice none 0 0, .int .i64 (0 : Int), .int .i64 (0 : Int), .int .i64 (0 : Int), .int .i64 (0 : Int), .int .i64 (0 : Int), .string (⟨#[]⟩), .string (⟨#[]⟩), .int .i64 (0 : Int), .int .i64 (0 : Int), .int .i64 (0 : Int)]
abbrev sane5A11 : Array Value := #[.int .i64 (1 : Int), .int .i64 (0 : Int), .int .i64 (2 : Int), .int .i64 (3 : Int), .string (⟨#[]⟩), .int .i64 (0 : Int), .int .i64 (0 : Int), .string (⟨#[]⟩), .string (⟨#[]⟩), .slice none 0 0, .slice none 0 0, .int .i64 (0 : Int), .slice none 0 0, .int .i64 (0 : Int), .int .i64 (0 : Int), .int .i64 (2 : Int), .int .i64 (0 : Int), .int .i64 (0 : Int), .string (⟨#[]⟩), .string (⟨#[]⟩), .int .i64 (0 : Int), .int .i64 (0 : Int), .int .i64 (0 : Int)]
theorem sane5_vc  {R : Ending → World → Prop} {w0 W : World} (hm : Mem [] [] w0 W)
  (H :
   CallH Tryz.prog 19 ⟨[.agg sane5A9]⟩ [] [] w0 (fun v L' => ∃ (r1 : ByteArray) (r21 : Int), v = (.tuple #[.string r1, .int .i64 r21]) ∧ L' = [] ∧
    CallH Tryz.prog 21 ⟨[.string (⟨#[4,140,1,12,10]⟩)]⟩ [] [] w0 (fun v L' => ∃ (d : Fct) (dtp : Option Addr) (dtc : Nat) (dbp : Option Addr) (dbc : Nat) (dap : Option Addr) (dac : Nat) (ev : Int) (F : SHeap), v = (.tuple #[.agg (sane5A0 d dtp dtc dbp dbc dap dac), .int .i64 ev]) ∧ L' = (F) ∧
     ∀ B : Nat,
     CallH Tryz.prog 21 ⟨[.string (⟨#[4,140,1,12,10,0]⟩)]⟩ ((B, .cells (sane5A0 d dtp dtc dbp dbc dap dac) 28) :: F) [] w0 (fun v L' => ∃ (d1 : Fct) (d1tp : Option Addr) (d1tc : Nat) (d1bp : Option Addr) (d1bc : Nat) (d1ap : Option Addr) (d1ac : Nat) (ev1 : Int) (F1 : SHeap), v = (.tuple #[.agg (sane5A2 d1 d1tp d1tc d1bp d1bc d1ap d1ac), .int .i64 ev1]) ∧ L' = ((B, .cells (sane5A0 d dtp dtc dbp dbc dap dac) 28) :: F1) ∧
      ∀ B1 : Nat,
      CallH Tryz.prog 21 ⟨[.string (⟨#[4,140,1,22,10]⟩)]⟩ (sane5H3 B1 d1 d1tp d1tc d1bp d1bc d1ap d1ac B d dtp dtc dbp dbc dap dac F1) [] w0 (fun v L' => ∃ (d2 : Fct) (d2tp : Option Addr) (d2tc : Nat) (d2bp : Option Addr) (d2bc : Nat) (d2ap : Option Addr) (d2ac : Nat) (ev2 : Int) (F2 : SHeap), v = (.tuple #[.agg (sane5A4 d2 d2tp d2tc d2bp d2bc d2ap d2ac), .int .i64 ev2]) ∧ L' = ((B1, .cells (sane5A2 d1 d1tp d1tc d1bp d1bc d1ap d1ac) 28) :: (B, .cells (sane5A0 d dtp dtc dbp dbc dap dac) 28) :: F2) ∧
       ∀ B2 : Nat,
       CallH Tryz.prog 19 ⟨[.agg sane5A8]⟩ (sane5H1 B2 d2 d2tp d2tc d2bp d2bc d2ap d2ac B1 d1 d1tp d1tc d1bp d1bc d1ap d1ac B d dtp dtc dbp dbc dap dac F2) [] w0 (fun v L' => ∃ (r91 : ByteArray) (r101 : Int), v = (.tuple #[.string r91, .int .i64 r101]) ∧ L' = (sane5H1 B2 d2 d2tp d2tc d2bp d2bc d2ap d2ac B1 d1 d1tp d1tc d1bp d1bc d1ap d1ac B d dtp dtc dbp dbc dap dac F2) ∧
        CallH Tryz.prog 20 ⟨[.agg sane5A11]⟩ (sane5H1 B2 d2 d2tp d2tc d2bp d2bc d2ap d2ac B1 d1 d1tp d1tc d1bp d1bc d1ap d1ac B d dtp dtc dbp dbc dap dac F2) [] w0 (fun v L' => ∃ (r111 : Bool), v = (.bool r111) ∧ L' = (sane5H1 B2 d2 d2tp d2tc d2bp d2bc d2ap d2ac B1 d1 d1tp d1tc d1bp d1bc d1ap d1ac B d dtp dtc dbp dbc dap dac F2) ∧
         CallH Tryz.prog 20 ⟨[.agg sane5A7]⟩ (sane5H1 B2 d2 d2tp d2tc d2bp d2bc d2ap d2ac B1 d1 d1tp d1tc d1bp d1bc d1ap d1ac B d dtp dtc dbp dbc dap dac F2) [] w0 (fun v L' => ∃ (r121 : Bool), v = (.bool r121) ∧ L' = (sane5H1 B2 d2 d2tp d2tc d2bp d2bc d2ap d2ac B1 d1 d1tp d1tc d1bp d1bc d1ap d1ac B d dtp dtc dbp dbc dap dac F2) ∧
          ∀ B3 : Nat,
          ∀ B4 : Nat,
          CallH Tryz.prog 20 ⟨[.agg (sane5A5 B3 B4)]⟩ (sane5H2 B4 B3 B2 d2 d2tp d2tc d2bp d2bc d2ap d2ac B1 d1 d1tp d1tc d1bp d1bc d1ap d1ac B d dtp dtc dbp dbc dap dac F2) [] w0 (fun v L' => ∃ (r131 : Bool), v = (.bool r131) ∧ L' = (sane5H2 B4 B3 B2 d2 d2tp d2tc d2bp d2bc d2ap d2ac B1 d1 d1tp d1tc d1bp d1bc d1ap d1ac B d dtp dtc dbp dbc dap dac F2) ∧
           CallH Tryz.prog 26 ⟨[.agg sane5A6]⟩ (sane5H2 B4 B3 B2 d2 d2tp d2tc d2bp d2bc d2ap d2ac B1 d1 d1tp d1tc d1bp d1bc d1ap d1ac B d dtp dtc dbp dbc dap dac F2) [] w0 (fun v L' => ∃ (z : Fct) (ztp : Option Addr) (ztc : Nat) (zbp : Option Addr) (zbc : Nat) (zap : Option Addr) (zac : Nat) (F3 : SHeap), v = (.agg (sane5A1 z ztp ztc zbp zbc zap zac)) ∧ L' = ((B4, .cells #[.int .i64 (1 : Int), .int .i64 (1 : Int), .string (⟨#[82,97,105,110]⟩), .int .i64 (0 : Int), .int .i64 (0 : Int), .int .i64 (0 : Int), .slice none 0 0, .int .i64 (0 : Int), .int .i64 (0 : Int)] 89) :: (B3, .cells #[.string (⟨#[97]⟩), .string (⟨#[98]⟩)] 9) :: (B2, .cells (sane5A4 d2 d2tp d2tc d2bp d2bc d2ap d2ac) 28) :: (B1, .cells (sane5A2 d1 d1tp d1tc d1bp d1bc d1ap d1ac) 28) :: (B, .cells (sane5A0 d dtp dtc dbp dbc dap dac) 28) :: F3) ∧
            ∀ B5 : Nat,
            CallH Tryz.prog 22 ⟨[.agg (sane5A1 z ztp ztc zbp zbc zap zac), .agg sane5A10]⟩ (sane5H0 B5 z ztp ztc zbp zbc zap zac B4 B3 B2 d2 d2tp d2tc d2bp d2bc d2ap d2ac B1 d1 d1tp d1tc d1bp d1bc d1ap d1ac B d dtp dtc dbp dbc dap dac F3) [] w0 (fun v L' => ∃ (r151 : Bool), v = (.bool r151) ∧ L' = (sane5H0 B5 z ztp ztc zbp zbc zap zac B4 B3 B2 d2 d2tp d2tc d2bp d2bc d2ap d2ac B1 d1 d1tp d1tc d1bp d1bc d1ap d1ac B d dtp dtc dbp dbc dap dac F3) ∧
             ((r1 = (⟨#[4,140,1,12,10]⟩ : ByteArray)) →
              ((r21 = (0 : Int)) →
               ((d.n = (2 : Int)) →
                ((d.story = (5 : Int)) →
                 ((ev = (0 : Int)) →
                  ((ev1 = (10 : Int)) →
                   ((ev2 = (50 : Int)) →
                    ((r101 = (50 : Int)) →
                     ((r111 = true) →
                      ((r121 = true) →
                       Fin R (sane5H0 B5 z ztp ztc zbp zbc zap zac B4 B3 B2 d2 d2tp d2tc d2bp d2bc d2ap d2ac B1 d1 d1tp d1tc d1bp d1bc d1ap d1ac B d dtp dtc dbp dbc dap dac F3) [] w0 (.bool false)) ∧
                       ((r121 = false) →
                       ((r131 = true) →
                        ((r151 = true) →
                         CallH Tryz.prog 22 ⟨[.agg (sane5A0 d dtp dtc dbp dbc dap dac), .agg (sane5A1 z ztp ztc zbp zbc zap zac)]⟩ (sane5H0 B5 z ztp ztc zbp zbc zap zac B4 B3 B2 d2 d2tp d2tc d2bp d2bc d2ap d2ac B1 d1 d1tp d1tc d1bp d1bc d1ap d1ac B d dtp dtc dbp dbc dap dac F3) [] w0 (fun v L' => ∃ (r161 : Bool), v = (.bool r161) ∧ L' = (sane5H0 B5 z ztp ztc zbp zbc zap zac B4 B3 B2 d2 d2tp d2tc d2bp d2bc d2ap d2ac B1 d1 d1tp d1tc d1bp d1bc d1ap d1ac B d dtp dtc dbp dbc dap dac F3) ∧
                          ((r161 = true) →
                           Fin R (sane5H0 B5 z ztp ztc zbp zbc zap zac B4 B3 B2 d2 d2tp d2tc d2bp d2bc d2ap d2ac B1 d1 d1tp d1tc d1bp d1bc d1ap d1ac B d dtp dtc dbp dbc dap dac F3) [] w0 (.bool false)) ∧
                           ((r161 = false) →
                           Fin R (sane5H0 B5 z ztp ztc zbp zbc zap zac B4 B3 B2 d2 d2tp d2tc d2bp d2bc d2ap d2ac B1 d1 d1tp d1tc d1bp d1bc d1ap d1ac B d dtp dtc dbp dbc dap dac F3) [] w0 (.bool true)))) ∧
                         ((r151 = false) →
                         Fin R (sane5H0 B5 z ztp ztc zbp zbc zap zac B4 B3 B2 d2 d2tp d2tc d2bp d2bc d2ap d2ac B1 d1 d1tp d1tc d1bp d1bc d1ap d1ac B d dtp dtc dbp dbc dap dac F3) [] w0 (.bool false))) ∧
                        ((r131 = false) →
                        Fin R (sane5H0 B5 z ztp ztc zbp zbc zap zac B4 B3 B2 d2 d2tp d2tc d2bp d2bc d2ap d2ac B1 d1 d1tp d1tc d1bp d1bc d1ap d1ac B d dtp dtc dbp dbc dap dac F3) [] w0 (.bool false)))) ∧
                      ((r111 = false) →
                      Fin R (sane5H0 B5 z ztp ztc zbp zbc zap zac B4 B3 B2 d2 d2tp d2tc d2bp d2bc d2ap d2ac B1 d1 d1tp d1tc d1bp d1bc d1ap d1ac B d dtp dtc dbp dbc dap dac F3) [] w0 (.bool false))) ∧
                     ((¬ (r101 = (50 : Int))) →
                     Fin R (sane5H0 B5 z ztp ztc zbp zbc zap zac B4 B3 B2 d2 d2tp d2tc d2bp d2bc d2ap d2ac B1 d1 d1tp d1tc d1bp d1bc d1ap d1ac B d dtp dtc dbp dbc dap dac F3) [] w0 (.bool false))) ∧
                    ((¬ (ev2 = (50 : Int))) →
                    Fin R (sane5H0 B5 z ztp ztc zbp zbc zap zac B4 B3 B2 d2 d2tp d2tc d2bp d2bc d2ap d2ac B1 d1 d1tp d1tc d1bp d1bc d1ap d1ac B d dtp dtc dbp dbc dap dac F3) [] w0 (.bool false))) ∧
                   ((¬ (ev1 = (10 : Int))) →
                   Fin R (sane5H0 B5 z ztp ztc zbp zbc zap zac B4 B3 B2 d2 d2tp d2tc d2bp d2bc d2ap d2ac B1 d1 d1tp d1tc d1bp d1bc d1ap d1ac B d dtp dtc dbp dbc dap dac F3) [] w0 (.bool false))) ∧
                  ((¬ (ev = (0 : Int))) →
                  Fin R (sane5H0 B5 z ztp ztc zbp zbc zap zac B4 B3 B2 d2 d2tp d2tc d2bp d2bc d2ap d2ac B1 d1 d1tp d1tc d1bp d1bc d1ap d1ac B d dtp dtc dbp dbc dap dac F3) [] w0 (.bool false))) ∧
                 ((¬ (d.story = (5 : Int))) →
                 Fin R (sane5H0 B5 z ztp ztc zbp zbc zap zac B4 B3 B2 d2 d2tp d2tc d2bp d2bc d2ap d2ac B1 d1 d1tp d1tc d1bp d1bc d1ap d1ac B d dtp dtc dbp dbc dap dac F3) [] w0 (.bool false))) ∧
                ((¬ (d.n = (2 : Int))) →
                Fin R (sane5H0 B5 z ztp ztc zbp zbc zap zac B4 B3 B2 d2 d2tp d2tc d2bp d2bc d2ap d2ac B1 d1 d1tp d1tc d1bp d1bc d1ap d1ac B d dtp dtc dbp dbc dap dac F3) [] w0 (.bool false))) ∧
               ((¬ (r21 = (0 : Int))) →
               Fin R (sane5H0 B5 z ztp ztc zbp zbc zap zac B4 B3 B2 d2 d2tp d2tc d2bp d2bc d2ap d2ac B1 d1 d1tp d1tc d1bp d1bc d1ap d1ac B d dtp dtc dbp dbc dap dac F3) [] w0 (.bool false))) ∧
              ((¬ r1 = (⟨#[4,140,1,12,10]⟩ : ByteArray)) →
              Fin R (sane5H0 B5 z ztp ztc zbp zbc zap zac B4 B3 B2 d2 d2tp d2tc d2bp d2bc d2ap d2ac B1 d1 d1tp d1tc d1bp d1bc d1ap d1ac B d dtp dtc dbp dbc dap dac F3) [] w0 (.bool false))))))))))))) :
  Calls Tryz.prog 17 ⟨[]⟩ W R := by
 refine AtE.calls (nt := 103) Tryz.func17 (by kernel_rfl) hm ?_
 refine AtE.ru 7 ?_
 refine AtE.call 19 ⟨[.agg sane5A9]⟩ (fun W => by kernel_rfl) (by kernel_rfl) H ?_
 clear H
 rintro _ _ ⟨r1, r21, rfl, rfl, H⟩
 refine AtE.ru 8 ?_
 refine AtE.call 21 ⟨[.string (⟨#[4,140,1,12,10]⟩)]⟩ (fun W => by kernel_rfl) (by kernel_rfl) H ?_
 clear H
 rintro _ F ⟨d, dtp, dtc, dbp, dbc, dap, dac, ev, _, rfl, rfl, H⟩
 refine AtE.ru 3 ?_
 refine AtE.new (fun B => .pointer (some ⟨B, 0, none⟩)) (.cells sane5A3 28) (fun W => by kernel_rfl) (by kernel_rfl) (fun B => ?_)
 replace H := H B
 refine AtE.front ?_
 refine AtE.store 0 0 (T := 28) (v := .agg (sane5A0 d dtp dtc dbp dbc dap dac)) (by kernel_rfl) ?_
 refine AtE.ru 4 ?_
 refine AtE.call 21 ⟨[.string (⟨#[4,140,1,12,10,0]⟩)]⟩ (fun W => by kernel_rfl) (by kernel_rfl) H ?_
 clear H
 rintro _ _ ⟨d1, d1tp, d1tc, d1bp, d1bc, d1ap, d1ac, ev1, F1, rfl, rfl, H⟩
 refine AtE.ru 3 ?_
 refine AtE.new (fun B => .pointer (some ⟨B, 0, none⟩)) (.cells sane5A3 28) (fun W => by kernel_rfl) (by kernel_rfl) (fun B1 => ?_)
 replace H := H B1
 refine AtE.front ?_
 refine AtE.store 0 0 (T := 28) (v := .agg (sane5A2 d1 d1tp d1tc d1bp d1bc d1ap d1ac)) (by kernel_rfl) ?_
 refine AtE.norm (k' := [.inRegion (regOps [.code (sub (Eng.body Tryz.f17) [1,1,1,0])]) [6], .code (sub (Eng.body Tryz.f17) [1,1,1,1])]) (e' := [(1, .string r1), (2, .int .i64 r21), (3, .pointer (some ⟨B, 0, none⟩)), (4, .int .i64 ev), (28, .int .i64 ev1)]) (L' := (sane5H3 B1 d1 d1tp d1tc d1bp d1bc d1ap d1ac B d dtp dtc dbp dbc dap dac F1)) ?_ (by kernel_rfl)
 refine AtE.ru 4 ?_
 refine AtE.call 21 ⟨[.string (⟨#[4,140,1,22,10]⟩)]⟩ (fun W => by kernel_rfl) (by kernel_rfl) H ?_
 clear H
 rintro _ _ ⟨d2, d2tp, d2tc, d2bp, d2bc, d2ap, d2ac, ev2, F2, rfl, rfl, H⟩
 refine AtE.ru 3 ?_
 refine AtE.new (fun B => .pointer (some ⟨B, 0, none⟩)) (.cells sane5A3 28) (fun W => by kernel_rfl) (by kernel_rfl) (fun B2 => ?_)
 replace H := H B2
 refine AtE.front ?_
 refine AtE.store 0 0 (T := 28) (v := .agg (sane5A4 d2 d2tp d2tc d2bp d2bc d2ap d2ac)) (by kernel_rfl) ?_
 refine AtE.ru 5 ?_
 refine AtE.call 19 ⟨[.agg sane5A8]⟩ (fun W => by kernel_rfl) (by kernel_rfl) H ?_
 clear H
 rintro _ _ ⟨r91, r101, rfl, rfl, H⟩
 refine AtE.ru 9 ?_
 refine AtE.call 20 ⟨[.agg sane5A11]⟩ (fun W => by kernel_rfl) (by kernel_rfl) H ?_
 clear H
 rintro _ _ ⟨r111, rfl, rfl, H⟩
 refine AtE.ru 5 ?_
 refine AtE.call 20 ⟨[.agg sane5A7]⟩ (fun W => by kernel_rfl) (by kernel_rfl) H ?_
 clear H
 rintro _ _ ⟨r121, rfl, rfl, H⟩
 refine AtE.ru 4 ?_
 refine AtE.new (fun B => .slice (some ⟨B, 0, none⟩) 2 2) (.cells #[.string (⟨#[97]⟩), .string (⟨#[98]⟩)] 9) (fun W => by kernel_rfl) (by kernel_rfl) (fun B3 => ?_)
 replace H := H B3
 refine AtE.front ?_
 refine AtE.norm (k' := [.inRegion (regOps [.code (sub (Eng.body Tryz.f17) [1,1,1,1,1,1,1,1,0])]) [1,2,3,4,5], .code (sub (Eng.body Tryz.f17) [1,1,1,1,1,1,1,1,1])]) (e' := [(1, .string r1), (2, .int .i64 r21), (3, .pointer (some ⟨B, 0, none⟩)), (4, .int .i64 ev), (6, .int .i64 ev1), (8, .int .i64 ev2), (10, .int .i64 r101), (11, .bool r111), (12, .bool r121), (42, .slice (some ⟨B3, 0, none⟩) 2 2)]) (L' := ((B3, .cells #[.string (⟨#[97]⟩), .string (⟨#[98]⟩)] 9) :: (B2, .cells (sane5A4 d2 d2tp d2tc d2bp d2bc d2ap d2ac) 28) :: (B1, .cells (sane5A2 d1 d1tp d1tc d1bp d1bc d1ap d1ac) 28) :: (B, .cells (sane5A0 d dtp dtc dbp dbc dap dac) 28) :: F2)) ?_ (by kernel_rfl)
 refine AtE.ru 1 ?_
 refine AtE.new (fun B => .slice (some ⟨B, 0, none⟩) 1 1) (.cells #[.int .i64 (1 : Int), .int .i64 (1 : Int), .string (⟨#[82,97,105,110]⟩), .int .i64 (0 : Int), .int .i64 (0 : Int), .int .i64 (0 : Int), .slice none 0 0, .int .i64 (0 : Int), .int .i64 (0 : Int)] 89) (fun W => by kernel_rfl) (by kernel_rfl) (fun B4 => ?_)
 replace H := H B4
 refine AtE.front ?_
 refine AtE.ru 1 ?_
 refine AtE.call 20 ⟨[.agg (sane5A5 B3 B4)]⟩ (fun W => by kernel_rfl) (by kernel_rfl) H ?_
 clear H
 rintro _ _ ⟨r131, rfl, rfl, H⟩
 refine AtE.ru 5 ?_
 refine AtE.call 26 ⟨[.agg sane5A6]⟩ (fun W => by kernel_rfl) (by kernel_rfl) H ?_
 clear H
 rintro _ _ ⟨z, ztp, ztc, zbp, zbc, zap, zac, F3, rfl, rfl, H⟩
 refine AtE.new (fun B => .pointer (some ⟨B, 0, none⟩)) (.cells sane5A3 28) (fun W => by kernel_rfl) (by kernel_rfl) (fun B5 => ?_)
 replace H := H B5
 refine AtE.front ?_
 refine AtE.store 0 0 (T := 28) (v := .agg (sane5A1 z ztp ztc zbp zbc zap zac)) (by kernel_rfl) ?_
 refine AtE.ru 3 ?_
 refine AtE.load 0 0 (T := 28) (v := .agg (sane5A1 z ztp ztc zbp zbc zap zac)) (by kernel_rfl) ?_
 refine AtE.ru 1 ?_
 refine AtE.call 22 ⟨[.agg (sane5A1 z ztp ztc zbp zbc zap zac), .agg sane5A10]⟩ (fun W => by kernel_rfl) (by kernel_rfl) H ?_
 clear H
 rintro _ _ ⟨r151, rfl, rfl, H⟩
 refine AtE.norm (k' := [.inRegion (regOps [.code (sub (Eng.body Tryz.f17) [1,1,1,1,1,1,1,1,1,1,0])]) [3], .code (sub (Eng.body Tryz.f17) [1,1,1,1,1,1,1,1,1,1,1])]) (e' := [(1, .string r1), (2, .int .i64 r21), (3, .pointer (some ⟨B, 0, none⟩)), (4, .int .i64 ev), (6, .int .i64 ev1), (8, .int .i64 ev2), (10, .int .i64 r101), (11, .bool r111), (12, .bool r121), (13, .bool r131), (14, .pointer (some ⟨B5, 0, none⟩)), (51, .bool r151)]) (L' := (sane5H0 B5 z ztp ztc zbp zbc zap zac B4 B3 B2 d2 d2tp d2tc d2bp d2bc d2ap d2ac B1 d1 d1tp d1tc d1bp d1bc d1ap d1ac B d dtp dtc dbp dbc dap dac F3)) ?_ (by kernel_rfl)
 refine AtE.ru 7 ?_
 refine AtE.splitS 54 (x := r1) (y := (⟨#[4,140,1,12,10]⟩ : ByteArray)) (by kernel_rfl) (fun h1' => ?_) (fun h1' => ?_)
 ·replace H := H.1 h1'
  refine AtE.ru 4 ?_
  refine AtE.splitP 58 (p := r21 = (0 : Int)) (by kernel_rfl) (fun h2' => ?_) (fun h2' => ?_)
  ·replace H := H.1 h2'
   refine AtE.ru 1 ?_
   refine AtE.load 5 0 (T := 3) (v := .int .i64 d.n) (by kernel_rfl) ?_
   refine AtE.ru 3 ?_
   refine AtE.splitP 63 (p := d.n = (2 : Int)) (by kernel_rfl) (fun h3' => ?_) (fun h3' => ?_)
   ·replace H := H.1 h3'
    refine AtE.ru 1 ?_
    refine AtE.load 5 3 (T := 3) (v := .int .i64 d.story) (by kernel_rfl) ?_
    refine AtE.ru 3 ?_
    refine AtE.splitP 68 (p := d.story = (5 : Int)) (by kernel_rfl) (fun h4' => ?_) (fun h4' => ?_)
    ·replace H := H.1 h4'
     refine AtE.ru 4 ?_
     refine AtE.splitP 72 (p := ev = (0 : Int)) (by kernel_rfl) (fun h5' => ?_) (fun h5' => ?_)
     ·replace H := H.1 h5'
      refine AtE.norm (k' := [.inRegion (regOps [.code (sub (Eng.body Tryz.f17) [1,1,1,1,1,1,1,1,1,1,1,0])]) [21,22,23,24,25,26,27,28,29,30,31,32,33,34,35,36,37,38,39,40,41,42,43,44,45,46,47,48,49,50,51], .code (sub (Eng.body Tryz.f17) [1,1,1,1,1,1,1,1,1,1,1,1])]) (e' := [(3, .pointer (some ⟨B, 0, none⟩)), (6, .int .i64 ev1), (8, .int .i64 ev2), (10, .int .i64 r101), (11, .bool r111), (12, .bool r121), (13, .bool r131), (14, .pointer (some ⟨B5, 0, none⟩)), (15, .bool r151), (72, .bool true)]) (L' := (sane5H0 B5 z ztp ztc zbp zbc zap zac B4 B3 B2 d2 d2tp d2tc d2bp d2bc d2ap d2ac B1 d1 d1tp d1tc d1bp d1bc d1ap d1ac B d dtp dtc dbp dbc dap dac F3)) ?_ (by kernel_rfl)
      refine AtE.ru 4 ?_
      refine AtE.splitP 76 (p := ev1 = (10 : Int)) (by kernel_rfl) (fun h6' => ?_) (fun h6' => ?_)
      ·replace H := H.1 h6'
       refine AtE.ru 4 ?_
       refine AtE.splitP 80 (p := ev2 = (50 : Int)) (by kernel_rfl) (fun h7' => ?_) (fun h7' => ?_)
       ·replace H := H.1 h7'
        refine AtE.ru 4 ?_
        refine AtE.splitP 84 (p := r101 = (50 : Int)) (by kernel_rfl) (fun h8' => ?_) (fun h8' => ?_)
        ·replace H := H.1 h8'
         refine AtE.ru 3 ?_
         refine AtE.split 87 (b := r111) (by kernel_rfl) (fun h9' => ?_) (fun h9' => ?_)
         ·replace H := H.1 h9'
          refine AtE.ru 1 ?_
          refine AtE.split 88 (b := r121) (by kernel_rfl) (fun h10' => ?_) (fun h10' => ?_)
          ·replace H := H.1 h10'
           refine AtE.ru 16 ?_
           exact AtE.ret Tryz.func17 (by kernel_rfl) H
          ·replace H := H.2 h10'
           refine AtE.ru 6 ?_
           refine AtE.split 94 (b := r131) (by kernel_rfl) (fun h11' => ?_) (fun h11' => ?_)
           ·replace H := H.1 h11'
            refine AtE.ru 3 ?_
            refine AtE.split 97 (b := r151) (by kernel_rfl) (fun h12' => ?_) (fun h12' => ?_)
            ·replace H := H.1 h12'
             refine AtE.norm (k' := [.inRegion (regOps [.code (sub (Eng.body Tryz.f17) [1,1,1,1,1,1,1,1,1,1,1,0])]) [46,47,48,49,50,51], .code (sub (Eng.body Tryz.f17) [1,1,1,1,1,1,1,1,1,1,1,1])]) (e' := [(3, .pointer (some ⟨B, 0, none⟩)), (14, .pointer (some ⟨B5, 0, none⟩)), (97, .bool true)]) (L' := (sane5H0 B5 z ztp ztc zbp zbc zap zac B4 B3 B2 d2 d2tp d2tc d2bp d2bc d2ap d2ac B1 d1 d1tp d1tc d1bp d1bc d1ap d1ac B d dtp dtc dbp dbc dap dac F3)) ?_ (by kernel_rfl)
             refine AtE.load 5 0 (T := 28) (v := .agg (sane5A0 d dtp dtc dbp dbc dap dac)) (by kernel_rfl) ?_
             refine AtE.load 0 0 (T := 28) (v := .agg (sane5A1 z ztp ztc zbp zbc zap zac)) (by kernel_rfl) ?_
             refine AtE.call 22 ⟨[.agg (sane5A0 d dtp dtc dbp dbc dap dac), .agg (sane5A1 z ztp ztc zbp zbc zap zac)]⟩ (fun W => by kernel_rfl) (by kernel_rfl) H ?_
             clear H
             rintro _ _ ⟨r161, rfl, rfl, H⟩
             refine AtE.split 100 (b := r161) (by kernel_rfl) (fun h13' => ?_) (fun h13' => ?_)
             ·replace H := H.1 h13'
              refine AtE.ru 4 ?_
              exact AtE.ret Tryz.func17 (by kernel_rfl) H
             ·replace H := H.2 h13'
              refine AtE.ru 4 ?_
              exact AtE.ret Tryz.func17 (by kernel_rfl) H
            ·replace H := H.2 h12'
             refine AtE.norm (k' := [.inRegion (regOps [.code (sub (Eng.body Tryz.f17) [1,1,1,1,1,1,1,1,1,1,1,0])]) [46,47,48,49,50,51], .code (sub (Eng.body Tryz.f17) [1,1,1,1,1,1,1,1,1,1,1,1])]) (e' := [(3, .pointer (some ⟨B, 0, none⟩)), (14, .pointer (some ⟨B5, 0, none⟩)), (97, .bool false)]) (L' := (sane5H0 B5 z ztp ztc zbp zbc zap zac B4 B3 B2 d2 d2tp d2tc d2bp d2bc d2ap d2ac B1 d1 d1tp d1tc d1bp d1bc d1ap d1ac B d dtp dtc dbp dbc dap dac F3)) ?_ (by kernel_rfl)
             refine AtE.ru 7 ?_
             exact AtE.ret Tryz.func17 (by kernel_rfl) H
           ·replace H := H.2 h11'
            refine AtE.ru 10 ?_
            exact AtE.ret Tryz.func17 (by kernel_rfl) H
         ·replace H := H.2 h9'
          refine AtE.ru 17 ?_
          exact AtE.ret Tryz.func17 (by kernel_rfl) H
        ·replace H := H.2 h8'
         refine AtE.ru 20 ?_
         exact AtE.ret Tryz.func17 (by kernel_rfl) H
       ·replace H := H.2 h7'
        refine AtE.ru 24 ?_
        exact AtE.ret Tryz.func17 (by kernel_rfl) H
      ·replace H := H.2 h6'
       refine AtE.ru 28 ?_
       exact AtE.ret Tryz.func17 (by kernel_rfl) H
     ·replace H := H.2 h5'
      refine AtE.norm (k' := [.inRegion (regOps [.code (sub (Eng.body Tryz.f17) [1,1,1,1,1,1,1,1,1,1,1,0])]) [21,22,23,24,25,26,27,28,29,30,31,32,33,34,35,36,37,38,39,40,41,42,43,44,45,46,47,48,49,50,51], .code (sub (Eng.body Tryz.f17) [1,1,1,1,1,1,1,1,1,1,1,1])]) (e' := [(3, .pointer (some ⟨B, 0, none⟩)), (6, .int .i64 ev1), (8, .int .i64 ev2), (10, .int .i64 r101), (11, .bool r111), (12, .bool r121), (13, .bool r131), (14, .pointer (some ⟨B5, 0, none⟩)), (15, .bool r151), (72, .bool false)]) (L' := (sane5H0 B5 z ztp ztc zbp zbc zap zac B4 B3 B2 d2 d2tp d2tc d2bp d2bc d2ap d2ac B1 d1 d1tp d1tc d1bp d1bc d1ap d1ac B d dtp dtc dbp dbc dap dac F3)) ?_ (by kernel_rfl)
      refine AtE.ru 32 ?_
      exact AtE.ret Tryz.func17 (by kernel_rfl) H
    ·replace H := H.2 h4'
     refine AtE.ru 36 ?_
     exact AtE.ret Tryz.func17 (by kernel_rfl) H
   ·replace H := H.2 h3'
    refine AtE.ru 41 ?_
    exact AtE.ret Tryz.func17 (by kernel_rfl) H
  ·replace H := H.2 h2'
   refine AtE.ru 46 ?_
   exact AtE.ret Tryz.func17 (by kernel_rfl) H
 ·replace H := H.2 h1'
  refine AtE.ru 50 ?_
  exact AtE.ret Tryz.func17 (by kernel_rfl) H
end Go.Eng
namespace Go.Eng
open Go Go.RowKit Go.Proofs Wire
set_option linter.unusedVariables false
theorem CallH.addF {P : Program} {g : FuncId} {args : Array Value} {S : List Nat} {w0 : World} {K K' : Value → SHeap → Prop} (told : SHeap) {F : SHeap} (h : EffC P g args [] K) (hK : ∀ v F', K v F' → K' v (told ++ (F' ++ F))) : CallH P g args (told ++ F) S w0 K' :=
  CallH.eff (L1 := told ++ F) h (List.Perm.refl _) fun v L' hk => ⟨told ++ (L' ++ F), List.perm_append_comm_assoc _ _ _, hK v L' hk⟩
theorem decE_e {s : ByteArray} {r : Fct × Int} (hs : s.size < 4611686018427387904) (h : decF (bts s) = r) : EffC Tryz.prog 21 ⟨[.string s]⟩ [] (DecFOut r) := h ▸ fDecode_e hs
theorem lkF_appl {F G : SHeap} : ∀ b c, lkF F b c → lkF (F ++ G) b c := lkF_mono fun x hx => List.mem_append_left _ hx
theorem FAt.L {F L : SHeap} {S : List Nat} {w0 W : World} {f : Fct} {tp : Option Addr} {tc : Nat} {bp : Option Addr} {bc : Nat} {ap : Option Addr} {ac : Nat} (h : FAt (lkF L) f tp tc bp bc ap ac) (hm : Mem L S w0 W) : FAt (lkW W) f tp tc bp bc ap ac :=
  h.mono (lkF_W hm fun x hx => hx)
theorem enc_ok {f : Fct} (h : f.ok = true) : encFAns f = .tuple #[.string (ba (encF f)), .int .i64 0] := if_pos h
theorem enc_no {f : Fct} (h : f.ok = false) : encFAns f = .tuple #[.string ⟨#[]⟩, .int .i64 50] := if_neg (by rw [h]; decide)
def goneF (f : Fct) : Fct := ⟨f.n, f.time, 10, f.story, e0, 0, 0, e0, e0, [], [], Lab.zero, 0, 0, 0, e0, e0, 0, 0, 0⟩
def aboutB (k : Int) : Bool := decide (k = 1 ∨ k = 4 ∨ k = 5)
theorem goneAt {lk : Lk} {f : Fct} : FAt lk (goneF f) none 0 none 0 none 0 := noLists rfl rfl rfl ⟨e0_sz, e0_sz, e0_sz, e0_sz, e0_sz⟩
def RedG (f : Fct) (v : Value) (F : SHeap) : Prop := v = .agg ⟨(goneF f).cells none 0 none 0 none 0⟩
theorem gone_e {f : Fct} {tp bp ap : Option Addr} {tc bc ac : Nat} (hk : aboutB f.kind = true) : EffC Tryz.prog 26 ⟨[.agg ⟨f.cells tp tc bp bc ap ac⟩]⟩ [] (RedG f) := by
  intro W hm
  have hk := of_decide_eq_true hk
  refine fRedact_vc f tp tc bp bc ap ac [] hm fun B B1 => ⟨fun _ => ?_, fun h1 => ⟨fun _ => ?_, fun h2 => ⟨fun _ => ?_, fun h3 => absurd hk (by omega)⟩⟩⟩
  all_goals exact fun W' hm' => ⟨_, _, rfl, hm', rfl⟩
def sfA : Fct := ⟨2, 70, 6, 5, e0, 0, 0, e0, e0, [], [], Lab.zero, 0, 0, 0, e0, e0, 0, 0, 0⟩
def sfB : Fct := ⟨2, 70, 6, 65, e0, 0, 0, e0, e0, [], [], Lab.zero, 0, 0, 0, e0, e0, 0, 0, 0⟩
def sfC : Fct := ⟨1, 0, 2, 3, e0, 0, 0, e0, e0, [], [], Lab.zero, 2, 0, 0, e0, e0, 0, 0, 0⟩
def sfD : Fct := ⟨1, 0, 2, 3, ⟨#[101, 110]⟩, 0, 0, e0, e0, [], [], Lab.zero, 2, 0, 0, e0, e0, 0, 0, 0⟩
def sbE : Blk := ⟨1, 1, ⟨#[82, 97, 105, 110]⟩, 0, 0, Lab.zero⟩
def sfE : Fct := ⟨0, 0, 1, 1, ⟨#[101, 110]⟩, 1, 0, ⟨#[82, 97, 105, 110]⟩, ⟨#[97, 110, 110]⟩, [⟨#[97]⟩, ⟨#[98]⟩], [sbE], Lab.zero, 0, 0, 0, e0, e0, 0, 0, 0⟩
def sfG : Fct := ⟨9, 5, 4, 2, ⟨#[101, 110]⟩, 0, 0, e0, e0, [], [], Lab.zero, 0, 1, 0, ⟨#[78, 111, 46]⟩, e0, 0, 0, 0⟩
theorem sfA_ok : sfA.ok = true := by kernel_rfl
theorem sfA_enc : ba (encF sfA) = (⟨#[4, 140, 1, 12, 10]⟩ : ByteArray) := by kernel_rfl
theorem sfA_dec : decF (bts ⟨#[4, 140, 1, 12, 10]⟩) = (sfA, 0) := by rw [← sfA_enc, bts_mk]; exact decF_enc sfA_ok
theorem sfA_more : decF (bts ⟨#[4, 140, 1, 12, 10, 0]⟩) = (Fct.zero, 10) := by
  have : bts (⟨#[4, 140, 1, 12, 10, 0]⟩ : ByteArray) = encF sfA ++ [0] := by kernel_rfl
  rw [this]; exact decF_more sfA_ok (by decide)
theorem sfB_dec : decF (bts ⟨#[4, 140, 1, 22, 10]⟩) = (Fct.zero, 50) := by kernel_rfl
theorem sfB_no : sfB.ok = false := by kernel_rfl
theorem sfC_ok : sfC.ok = true := by kernel_rfl
theorem sfD_no : sfD.ok = false := by kernel_rfl
theorem sfE_ok : sfE.ok = true := by kernel_rfl
theorem sfE_at {lk : Lk} {B3 B4 : Nat} (h3 : lk B3 [.string ⟨#[97]⟩, .string ⟨#[98]⟩]) (h4 : lk B4 (sbE.cells none 0)) : FAt lk sfE (some ⟨B3, 0, none⟩) 2 (some ⟨B4, 0, none⟩) 1 none 0 :=
  ⟨strs_at h3, fun _ => ⟨B4, 0, _, rfl, h4, fun i hi => by
    match i, hi with
    | 0, _ => exact ⟨by decide, none, 0, rfl, fun h => absurd (show 0 < sbE.lab.after.length from h) (by decide), show sbE.text.size ≤ 9223372036854775807 by decide, show sbE.lab.after.length ≤ 9223372036854775807 by decide⟩⟩, fun h => absurd h (by decide), by decide, by decide, by decide, by decide, ⟨by decide, by decide⟩, by decide, by decide⟩
theorem sane_c5 : PureC Tryz.prog 17 ⟨[]⟩ (.bool true) := by
  intro W
  refine sane5_vc (Mem.start [] W) ?_
  have hA : ∀ lk : Lk, FAt lk sfA none 0 none 0 none 0 := fun lk => noLists rfl rfl rfl ⟨e0_sz, e0_sz, e0_sz, e0_sz, e0_sz⟩
  have hB : ∀ lk : Lk, FAt lk sfB none 0 none 0 none 0 := fun lk => noLists rfl rfl rfl ⟨e0_sz, e0_sz, e0_sz, e0_sz, e0_sz⟩
  have hC : ∀ lk : Lk, FAt lk sfC none 0 none 0 none 0 := fun lk => noLists rfl rfl rfl ⟨e0_sz, e0_sz, e0_sz, e0_sz, e0_sz⟩
  have hD : ∀ lk : Lk, FAt lk sfD none 0 none 0 none 0 := fun lk => noLists rfl rfl rfl ⟨by decide, e0_sz, e0_sz, e0_sz, e0_sz⟩
  refine CallH.pw (v := encFAns sfA) (fun W' hm' => fEncode_c (hA _)) ⟨⟨#[4, 140, 1, 12, 10]⟩, 0, by rw [enc_ok sfA_ok, sfA_enc], rfl, ?_⟩
  refine CallH.addF [] (F := []) (decE_e (by decide) sfA_dec) ?_
  rintro _ F ⟨tp, tc, bp, bc, ap, ac, rfl, h0⟩
  refine ⟨sfA, tp, tc, bp, bc, ap, ac, 0, _, rfl, rfl, fun B => ?_⟩
  refine CallH.addF [_] (decE_e (by decide) sfA_more) ?_
  rintro _ F1 ⟨tp1, tc1, bp1, bc1, ap1, ac1, rfl, h1⟩
  refine ⟨Fct.zero, tp1, tc1, bp1, bc1, ap1, ac1, 10, _, rfl, rfl, fun B1 => ?_⟩
  refine CallH.addF [_, _] (decE_e (by decide) sfB_dec) ?_
  rintro _ F2 ⟨tp2, tc2, bp2, bc2, ap2, ac2, rfl, h2⟩
  refine ⟨Fct.zero, tp2, tc2, bp2, bc2, ap2, ac2, 50, _, rfl, rfl, fun B2 => ?_⟩
  refine CallH.pw (v := encFAns sfB) (fun W' hm' => fEncode_c (hB _)) ⟨⟨#[]⟩, 50, by rw [enc_no sfB_no], rfl, ?_⟩
  refine CallH.pw (v := .bool sfC.ok) (fun W' hm' => fValid_c (hC _)) ⟨true, by rw [sfC_ok], rfl, ?_⟩
  refine CallH.pw (v := .bool sfD.ok) (fun W' hm' => fValid_c (hD _)) ⟨false, by rw [sfD_no], rfl, fun B3 B4 => ?_⟩
  refine CallH.pw (v := .bool sfE.ok) (fun W' hm' => fValid_c (sfE_at (lkM_kept hm' _ _ (.inl ⟨_, _, List.mem_cons_of_mem _ List.mem_cons_self⟩)) (lkM_kept hm' _ _ (.inl ⟨_, _, List.mem_cons_self⟩)))) ⟨true, by rw [sfE_ok], rfl, ?_⟩
  refine CallH.addF [_, _, _, _, _] (gone_e (f := sfG) (tp := none) (tc := 0) (bp := none) (bc := 0) (ap := none) (ac := 0) (by decide)) ?_
  rintro _ F3 rfl
  refine ⟨goneF sfG, none, 0, none, 0, none, 0, _, rfl, rfl, fun B5 => ?_⟩
  refine CallH.pw (fun W' hm' => fSame_c (x := goneF sfG) (y := goneF sfG) goneAt goneAt) ⟨_, rfl, rfl, ?_⟩
  refine yes rfl (yes rfl (yes rfl (yes rfl (yes rfl (yes rfl (yes rfl (yes rfl (tt rfl (ff rfl (tt rfl (tt (by simp) ?_)))))))))))
  refine CallH.pw (fun W' hm' => fSame_c (x := sfA) (y := goneF sfG) (h0.mono fun b c h => ?_) goneAt) ⟨_, rfl, rfl, ff (by decide) (finPure rfl)⟩
  refine lkF_W hm' (fun x hx => ?_) b c h
  simp [hx]
end Go.Eng
namespace Go.Eng
open Go Go.RowKit Go.Proofs Wire
set_option linter.unusedVariables false
def BlkLc (lk : Lk) (cs : List Value) (b : Blk) : Prop := ∃ p c, cs = b.cells p c ∧ IntsL lk p b.lab.after ∧ b.Fits ∧ b.lab.after.length ≤ c
structure FArg (lk : Lk) (f : Fct) (tp : Option Addr) (tc : Nat) (bp : Option Addr) (bc : Nat) (ap : Option Addr) (ac : Nat) : Prop where
  tops : StrsL lk tp f.topics
  blks : SlAt lk 9 (BlkLc lk) bp f.blocks
  ints : IntsL lk ap f.lab.after
  ct : f.topics.length ≤ tc
  cb : f.blocks.length ≤ bc
  ca : f.lab.after.length ≤ ac
  fits : f.Fits
theorem BlkLc.mono {lk lk' : Lk} {cs : List Value} {b : Blk} (h : BlkLc lk cs b) (hl : ∀ b c, lk b c → lk' b c) : BlkLc lk' cs b := by
  obtain ⟨p, c, e, h1, h2, h3⟩ := h
  exact ⟨p, c, e, h1.mono hl, h2, h3⟩
theorem FArg.mono {lk lk' : Lk} {f : Fct} {tp : Option Addr} {tc : Nat} {bp : Option Addr} {bc : Nat} {ap : Option Addr} {ac : Nat} (h : FArg lk f tp tc bp bc ap ac) (hl : ∀ b c, lk b c → lk' b c) : FArg lk' f tp tc bp bc ap ac :=
  ⟨h.tops.mono hl, SlAt.mono h.blks hl fun _ _ _ hb => hb.mono hl, h.ints.mono hl, h.ct, h.cb, h.ca, h.fits⟩
def cutT (s : ByteArray) (n : Nat) : ByteArray := s.extract 0 (min s.size n)
theorem cutT_size (s : ByteArray) (n : Nat) : (cutT s n).size = min n s.size := by
  rw [cutT, ByteArray.size_extract]; omega
def fewB (b : Blk) : Blk := { b with text := cutT b.text 400, lab := { b.lab with after := b.lab.after.take 70 } }
def fewF (f : Fct) : Fct := { f with title := cutT f.title 400, text := cutT f.text 1200, topics := f.topics.take 6, blocks := (f.blocks.take 26).map fewB, lab := { f.lab with after := f.lab.after.take 70 } }
theorem cut_if {s : ByteArray} {n : Nat} {i : Int} (hi : i = (n : Int)) : s.extract 0 (Int.toNat (if i < (s.size : Int) then i else (s.size : Int))) = cutT s n := by
  subst hi
  have : Int.toNat (if (n : Int) < (s.size : Int) then (n : Int) else (s.size : Int)) = min s.size n := by split <;> omega
  rw [this, cutT]
theorem take_if {α : Type} {l : List α} {n : Nat} {i : Int} (hi : i = (n : Int)) : Int.toNat (if i < (l.length : Int) then i else (l.length : Int)) = (l.take n).length := by
  subst hi
  rw [List.length_take]; split <;> omega
theorem IntsL.take {lk : Lk} {p : Option Addr} {l : List Int} (h : IntsL lk p l) (n : Nat) : IntsL lk p (l.take n) := by
  intro hp
  rw [List.length_take] at hp
  obtain ⟨b, o, c, h1, h2, h3⟩ := h (by omega)
  refine ⟨b, o, c, h1, h2, fun i hi => ?_⟩
  rw [List.length_take] at hi
  rw [h3 i (by omega), List.getElem_take]
theorem StrsL.take {lk : Lk} {p : Option Addr} {l : List ByteArray} (h : StrsL lk p l) (n : Nat) : StrsL lk p (l.take n) := by
  intro hp
  rw [List.length_take] at hp
  obtain ⟨b, o, c, h1, h2, h3⟩ := h (by omega)
  refine ⟨b, o, c, h1, h2, fun i hi => ?_⟩
  rw [List.length_take] at hi
  rw [h3 i (by omega), List.getElem_take]
theorem fewB_fits {b : Blk} (h : b.Fits) : (fewB b).Fits := ⟨by show (cutT b.text 400).size ≤ _; rw [cutT_size]; omega, by show (b.lab.after.take 70).length ≤ _; rw [List.length_take]; omega⟩
theorem fewF_fits {f : Fct} (h : f.Fits) : (fewF f).Fits :=
  ⟨⟨h.1.1, by show (cutT f.title 400).size ≤ _; rw [cutT_size]; omega, h.1.2.2.1, by show (cutT f.text 1200).size ≤ _; rw [cutT_size]; omega, h.1.2.2.2.2⟩,
    ⟨by show (f.topics.take 6).length ≤ _; rw [List.length_take]; omega, fun t ht => h.2.1.2 t (List.mem_of_mem_take ht)⟩, by show ((f.blocks.take 26).map fewB).length ≤ _; rw [List.length_map, List.length_take]; omega, by show (f.lab.after.take 70).length ≤ _; rw [List.length_take]; omega⟩
def BRowL (lk : Lk) (cs : List Value) (l : List Blk) : Prop := ∀ i (h : i < l.length), i * 9 + 9 ≤ cs.length ∧ BlkL lk ((cs.drop (i * 9)).take 9) l[i]
theorem BRowL.app {lk : Lk} {cs r : List Value} {l : List Blk} {b : Blk} {p : Option Addr} {c cap cap1 : Nat} (h : BRowL lk cs l) (h1 : l.length ≤ cap) (h2 : cs.length = cap * 9) (hb : IntsL lk p b.lab.after) (hf : b.Fits)
    (q1 : l.length + 1 ≤ cap1) (q2 : (cs.take (l.length * 9) ++ b.cells p c ++ r).length = cap1 * 9) : BRowL lk (cs.take (l.length * 9) ++ b.cells p c ++ r) (l ++ [b]) := by
  have hn : l.length * 9 ≤ cs.length := by rw [h2]; exact Nat.mul_le_mul_right _ h1
  intro i hi
  have hi' : i < l.length + 1 := by simpa using hi
  refine ⟨by rw [q2]; omega, ?_⟩
  rcases Nat.lt_or_ge i l.length with hlt | hge
  · rw [row_old hlt hn, List.getElem_append_left hlt]
    exact (h i hlt).2
  · have : i = l.length := by omega
    subst this
    rw [row_new hn rfl]
    simp only [List.getElem_append_right (Nat.le_refl _), Nat.sub_self, List.getElem_cons_zero]
    exact ⟨p, c, rfl, hb, hf⟩
theorem BRowL.one {lk : Lk} {r : List Value} {b : Blk} {p : Option Addr} {c cap : Nat} (hb : IntsL lk p b.lab.after) (hf : b.Fits) (q1 : 1 ≤ cap) (q2 : (b.cells p c ++ r).length = cap * 9) : BRowL lk (b.cells p c ++ r) [b] := by
  intro i hi
  have : i = 0 := by simp at hi; omega
  subst this
  refine ⟨by rw [q2]; omega, p, c, ?_, hb, hf⟩
  simp
def FewOut (lk : Lk) (r : Fct) (v : Value) (F : SHeap) : Prop := ∃ tp tc bp bc ap ac, v = .agg ⟨r.cells tp tc bp bc ap ac⟩ ∧ FAt (lkU F lk) r tp tc bp bc ap ac
theorem few_at {lk : Lk} {f : Fct} {tp bp ap : Option Addr} {tc bc ac : Nat} (h : FArg lk f tp tc bp bc ap ac) {F : SHeap} {p : Option Addr} {c : Nat} (hb : BlksL (lkU F lk) p (fewF f).blocks) (hc : (fewF f).blocks.length ≤ c) : FAt (lkU F lk) (fewF f) tp tc p c ap ac :=
  ⟨(h.tops.take 6).mono lkU_r, hb, (h.ints.take 70).mono lkU_r, Nat.le_trans (by show (f.topics.take 6).length ≤ f.topics.length; rw [List.length_take]; omega) h.ct, hc,
    Nat.le_trans (by show (f.lab.after.take 70).length ≤ f.lab.after.length; rw [List.length_take]; omega) h.ca, fewF_fits h.fits⟩
theorem fewF_len {f : Fct} : (fewF f).blocks.length = min 26 f.blocks.length := by show ((f.blocks.take 26).map fewB).length = _; rw [List.length_map, List.length_take]
theorem fewF_get {f : Fct} {i : Nat} (h : i < (fewF f).blocks.length) : (fewF f).blocks[i] = fewB (f.blocks[i]'(by rw [fewF_len] at h; omega)) := by
  simp [fewF]
theorem take_one_get {α : Type} : ∀ {l : List α} (h : 0 < l.length), l.take 1 = [l[0]]
  | x :: r, _ => rfl
theorem few_loop {w0 : World} {lk : Lk} {f : Fct} {tp bp ap : Option Addr} {tc bc ac : Nat} (hlk : ∀ b c, lk b c → lkW w0 b c) (h : FArg lk f tp tc bp bc ap ac) :
    ∀ (g i B7 B8 B9 cap : Nat) (cs : List Value), g + i = (fewF f).blocks.length → i ≤ cap → cs.length = cap * 9 → BRowL lk cs ((fewF f).blocks.take i) →
      few5_c1 f tp tc bp bc ap ac B7 B8 B9 i cap (i : Int) tp (fewF f).topics.length tc bp (fewF f).blocks.length bc ap (fewF f).lab.after.length ac cs w0 (fun e W' => ∃ v L', e = .returned v ∧ Mem L' [] w0 W' ∧ FewOut lk (fewF f) v L')
  | 0, i, B7, B8, B9, cap, cs, hg, h1, h2, h3 => by
    apply few5_c1_vc
    have hi : i = (fewF f).blocks.length := by omega
    subst hi
    rw [List.take_length] at h3
    refine no (by omega) ⟨by split <;> omega, by split <;> omega, ?_⟩
    have e1 := cut_if (s := f.title) (n := 400) (i := 400) rfl
    have e2 := cut_if (s := f.text) (n := 1200) (i := 1200) rfl
    refine dkFin ⟨tp, tc, some ⟨B9, 0, none⟩, cap, ap, ac, ?_, few_at h (fun _ => ⟨B9, 0, cs, rfl, .inl ⟨_, _, List.mem_cons_of_mem _ (List.mem_cons_of_mem _ List.mem_cons_self)⟩, fun i hi => ⟨by rw [Nat.zero_add]; exact (h3 i hi).1, by rw [Nat.zero_add]; exact (h3 i hi).2.mono lkU_r⟩⟩) h1⟩
    delta few5A1
    rw [e1, e2]; rfl
  | g + 1, i, B7, B8, B9, cap, cs, hg, h1, h2, h3 => by
    apply few5_c1_vc
    have hn := fewF_len (f := f)
    have his : i < (fewF f).blocks.length := by omega
    have hi : i < f.blocks.length := by omega
    obtain ⟨B1, o1, c1, rfl, e2, e3, p6, c6, e4, e5, e6, e7⟩ := h.blks.get hi
    have t4 := cut_if (s := f.blocks[i].text) (n := 400) (i := 400) rfl
    have t7 := take_if (l := f.blocks[i].lab.after) (n := 70) (i := 70) rfl
    refine yes (by omega) ⟨B1, o1, rfl, by omega, c1, f.blocks[i], p6, c6, hlk _ _ e2, ⟨by simpa using e4, by simpa using e3⟩, fun B2 => ⟨by split <;> omega, by split <;> omega, fun B3 => ⟨⟨h1, h2⟩, by omega, fun B4 cap2 r q1 q2 => ?_⟩⟩⟩
    rintro _ rfl
    rw [wi64 (by omega), show (i : Int) + 1 = ((i + 1 : Nat) : Int) by omega]
    rw [t4, t7] at q2 ⊢
    have hlen : ((fewF f).blocks.take i).length = i := by rw [List.length_take]; omega
    have hrow := BRowL.app (b := fewB f.blocks[i]) (p := p6) (c := c6) (r := r) (cap1 := cap2) h3 (by rw [hlen]; exact h1) h2 (e5.take 70) (fewB_fits e6) (by rw [hlen]; exact q1) (by rw [hlen]; exact q2)
    rw [hlen, ← fewF_get his, show (fewF f).blocks.take i ++ [(fewF f).blocks[i]] = (fewF f).blocks.take (i + 1) by rw [List.take_add_one, List.getElem?_eq_getElem his]; rfl] at hrow
    rw [fewF_get his] at hrow
    exact few_loop hlk h g (i + 1) B7 B8 B4 cap2 _ (by omega) q1 q2 hrow
theorem few_first {lk : Lk} {r : List Value} {b : Blk} {p : Option Addr} {c cap : Nat} (hb : IntsL lk p b.lab.after) (hf : b.Fits) (q1 : 1 ≤ cap) (q2 : ([.int .i64 b.id, .int .i64 b.kind, .string (cutT b.text 400), .int .i64 b.story, .int .i64 b.ref, .int .i64 b.lab.unt, .slice p (b.lab.after.take 70).length c, .int .i64 b.lab.appr, .int .i64 b.lab.den] ++ r : List Value).length = cap * 9) : BRowL lk ([.int .i64 b.id, .int .i64 b.kind, .string (cutT b.text 400), .int .i64 b.story, .int .i64 b.ref, .int .i64 b.lab.unt, .slice p (b.lab.after.take 70).length c, .int .i64 b.lab.appr, .int .i64 b.lab.den] ++ r) [fewB b] :=
  BRowL.one (b := fewB b) (hb.take 70) (fewB_fits hf) q1 q2
theorem few_e {lk : Lk} {f : Fct} {tp bp ap : Option Addr} {tc bc ac : Nat} (h : FArg lk f tp tc bp bc ap ac) : EffW Tryz.prog 18 ⟨[.agg ⟨f.cells tp tc bp bc ap ac⟩]⟩ [] (fun W => ∀ b c, lk b c → lkW W b c) (FewOut lk (fewF f)) := by
  intro W hm hlk
  have ht := h.ct; have hb := h.cb; have ha := h.ca
  refine few5_vc f tp tc bp bc ap ac hm fun B B1 => ⟨by split <;> omega, by split <;> omega, by split <;> omega, ?_⟩
  have t6 : Int.toNat (if (6 : Int) < (f.topics.length : Int) then (6 : Int) else (f.topics.length : Int)) = (fewF f).topics.length := take_if (l := f.topics) (n := 6) (i := 6) rfl
  have t26 : Int.toNat (if (26 : Int) < (f.blocks.length : Int) then (26 : Int) else (f.blocks.length : Int)) = (fewF f).blocks.length := by rw [take_if (l := f.blocks) (n := 26) (i := 26) rfl]; show _ = ((f.blocks.take 26).map fewB).length; rw [List.length_map]
  have t70 : Int.toNat (if (70 : Int) < (f.lab.after.length : Int) then (70 : Int) else (f.lab.after.length : Int)) = (fewF f).lab.after.length := take_if (l := f.lab.after) (n := 70) (i := 70) rfl
  rw [t6, t26, t70]
  apply few5_c0_vc
  have hn := fewF_len (f := f)
  rcases Nat.eq_zero_or_pos f.blocks.length with h0 | hi
  · have hz : (fewF f).blocks = [] := List.length_eq_zero_iff.1 (by omega)
    have e1 := cut_if (s := f.title) (n := 400) (i := 400) rfl
    have e2 := cut_if (s := f.text) (n := 1200) (i := 1200) rfl
    refine no (by omega) ⟨by split <;> omega, by split <;> omega, dkFin ⟨tp, tc, none, 0, ap, ac, ?_, few_at h (by rw [hz]; exact blks_nil) (by omega)⟩⟩
    delta few5A2
    rw [e1, e2]
    show _ = Value.agg ⟨[_, _, _, _, _, _, _, _, _, _, .slice none (fewF f).blocks.length 0, _, _, _, _, _, _, _, _, _, _, _, _]⟩
    rw [hz]; rfl
  · have his : 0 < (fewF f).blocks.length := by omega
    obtain ⟨B2, o1, c1, rfl, e2, e3, p6, c6, e4, e5, e6, e7⟩ := h.blks.get hi
    have t4 := cut_if (s := f.blocks[0].text) (n := 400) (i := 400) rfl
    have t7 := take_if (l := f.blocks[0].lab.after) (n := 70) (i := 70) rfl
    refine yes (by omega) ⟨B2, o1, rfl, by omega, c1, f.blocks[0], p6, c6, hlk _ _ e2, ⟨by simpa using e4, by simpa using e3⟩, fun B2 => ⟨by split <;> omega, by split <;> omega, fun B3 B4 cap2 r q1 q2 => ?_⟩⟩
    rintro _ rfl
    rw [wi64 (by omega)]
    rw [t4, t7] at q2 ⊢
    have hrow := few_first (p := p6) (c := c6) (r := r) e5 e6 q1 q2
    have e0 : (fewF f).blocks.take 1 = [fewB f.blocks[0]] := by rw [take_one_get his, fewF_get his]
    exact few_loop hlk h ((fewF f).blocks.length - 1) 1 B B1 B4 cap2 _ (by omega) q1 q2 (by rw [e0]; exact hrow)
end Go.Eng
namespace Go.Eng
open Go Go.RowKit Go.Proofs Wire
set_option linter.unusedVariables false
theorem cells_one (b : Blk) (p : Option Addr) (c : Nat) : ∀ u ∈ b.cells p c, u.oneCell' = true := by
  intro u hu
  simp only [List.mem_cons, List.not_mem_nil, or_false] at hu
  rcases hu with rfl | rfl | rfl | rfl | rfl | rfl | rfl | rfl | rfl <;> rfl
theorem take_rows {c : List Value} {o n : Nat} : (c.drop o).take ((n + 1) * 9) = (c.drop o).take (n * 9) ++ (c.drop (o + n * 9)).take 9 := by
  rw [show (n + 1) * 9 = n * 9 + 9 by omega, List.take_add, List.drop_drop]
theorem rows_one {lk : Lk} {c : List Value} {o : Nat} {l : List Blk} (h : ∀ i (h : i < l.length), o + i * 9 + 9 ≤ c.length ∧ BlkL lk ((c.drop (o + i * 9)).take 9) l[i]) : ∀ n, n ≤ l.length → ∀ u ∈ (c.drop o).take (n * 9), u.oneCell' = true
  | 0, _, u, hu => by simp at hu
  | n + 1, hn, u, hu => by
    rw [take_rows] at hu
    rcases List.mem_append.1 hu with h1 | h1
    · exact rows_one h n (by omega) u h1
    · obtain ⟨p, c', e, _, _⟩ := (h n (by omega)).2
      rw [e] at h1
      exact cells_one _ _ _ u h1
theorem cell_lk {W : World} {b : Nat} {c : List Value} (h : lkW W b c) (o : Nat) : W.cell? ⟨b, o, none⟩ = c[o]? := by
  unfold lkW blkW at h
  split at h
  · next c' t fz hh =>
    have hc : c'.toList = c := by simpa using h
    rw [cell_of_heap (c := c'.toList) (t := t) (fz := fz) (by simpa using hh), hc]
  · cases h
theorem src_lk {L : SHeap} {w0 : World} {b o : Nat} {c news : List Value} (h : ∀ W, Mem L [] w0 W → lkW W b c) (hn : ∀ i, i < news.length → c[o + i]? = news[i]?) : Src L [] w0 ⟨b, o, none⟩ news := by
  intro W hm i u hi
  have hlt := (List.getElem?_eq_some_iff.1 hi).1
  rw [addr_add, cell_lk (h W hm), hn i hlt, hi]
theorem src_ints {L : SHeap} {w0 : World} {lk : Lk} {p : Option Addr} {c : Nat} {l : List Int} (h : IntsL lk p l) (hlk : ∀ W, Mem L [] w0 W → ∀ b c, lk b c → lkW W b c) : ∀ W, Mem L [] w0 W → Go.Src Tryz.prog 1 24 (.slice p l.length c) l.length (l.map (.int .i64)) W := by
  have h1 : ∀ u ∈ l.map (Value.int .i64), u.oneCell' = true := fun u hu => by obtain ⟨n, _, rfl⟩ := List.mem_map.1 hu; rfl
  rcases Nat.eq_zero_or_pos l.length with h0 | hpos
  · have : l = [] := List.length_eq_zero_iff.1 h0
    subst this
    cases p with
    | none => exact srcNil (E' := 3) (by kernel_rfl)
    | some a => exact srcSl (E' := 3) (by kernel_rfl) (Src.nil a) rfl h1
  · obtain ⟨b, o, cs, rfl, h2, h3⟩ := h hpos
    exact srcSl (E' := 3) (by kernel_rfl) (src_lk (fun W hm => hlk W hm _ _ h2) fun i hi => by rw [List.length_map] at hi; rw [h3 i hi, List.getElem?_map, List.getElem?_eq_getElem hi]; rfl) (by simp) h1
theorem src_strs {L : SHeap} {w0 : World} {lk : Lk} {p : Option Addr} {c : Nat} {l : List ByteArray} (h : StrsL lk p l) (hlk : ∀ W, Mem L [] w0 W → ∀ b c, lk b c → lkW W b c) : ∀ W, Mem L [] w0 W → Go.Src Tryz.prog 1 22 (.slice p l.length c) l.length (l.map .string) W := by
  have h1 : ∀ u ∈ l.map Value.string, u.oneCell' = true := fun u hu => by obtain ⟨n, _, rfl⟩ := List.mem_map.1 hu; rfl
  rcases Nat.eq_zero_or_pos l.length with h0 | hpos
  · have : l = [] := List.length_eq_zero_iff.1 h0
    subst this
    cases p with
    | none => exact srcNil (E' := 9) (by kernel_rfl)
    | some a => exact srcSl (E' := 9) (by kernel_rfl) (Src.nil a) rfl h1
  · obtain ⟨b, o, cs, rfl, h2, h3⟩ := h hpos
    exact srcSl (E' := 9) (by kernel_rfl) (src_lk (fun W hm => hlk W hm _ _ h2) fun i hi => by rw [List.length_map] at hi; rw [h3 i hi, List.getElem?_map, List.getElem?_eq_getElem hi]; rfl) (by simp) h1
theorem src_blks {L : SHeap} {w0 : World} {lk : Lk} {p : Option Addr} {c : Nat} {l : List Blk} (h : BlksL lk p l) (hlk : ∀ W, Mem L [] w0 W → ∀ b c, lk b c → lkW W b c) :
    ∃ news, (∀ W, Mem L [] w0 W → Go.Src Tryz.prog 9 23 (.slice p l.length c) l.length news W) ∧ news.length = l.length * 9 ∧ BRowL lk news l := by
  rcases Nat.eq_zero_or_pos l.length with h0 | hpos
  · have : l = [] := List.length_eq_zero_iff.1 h0
    subst this
    refine ⟨[], ?_, rfl, fun i hi => absurd hi (by simp)⟩
    cases p with
    | none => exact srcNil (E' := 89) (by kernel_rfl)
    | some a => exact srcSl (E' := 89) (by kernel_rfl) (Src.nil a) rfl (fun u hu => absurd hu (by simp))
  · obtain ⟨b, o, cs, rfl, h2, h3⟩ := h hpos
    have hend := (h3 (l.length - 1) (by omega)).1
    have hlen : ((cs.drop o).take (l.length * 9)).length = l.length * 9 := by rw [List.length_take, List.length_drop]; omega
    refine ⟨(cs.drop o).take (l.length * 9), srcSl (E' := 89) (by kernel_rfl) (src_lk (fun W hm => hlk W hm _ _ h2) fun i hi => ?_) hlen (rows_one h3 l.length (Nat.le_refl _)), hlen, fun i hi => ⟨by rw [hlen]; omega, ?_⟩⟩
    · rw [hlen] at hi
      rw [List.getElem?_take_of_lt hi, List.getElem?_drop]
    · have : (((cs.drop o).take (l.length * 9)).drop (i * 9)).take 9 = (cs.drop (o + i * 9)).take 9 := by
        rw [List.drop_take, List.drop_drop, List.take_take, Nat.min_eq_left (by omega)]
      rw [this]
      exact (h3 i hi).2
theorem BRowL.mono {lk lk' : Lk} {cs : List Value} {l : List Blk} (h : BRowL lk cs l) (hl : ∀ b c, lk b c → lk' b c) : BRowL lk' cs l := fun i hi => ⟨(h i hi).1, (h i hi).2.mono hl⟩
theorem BRowL.app0 {lk : Lk} {cs r : List Value} {l : List Blk} (h : BRowL lk cs l) : BRowL lk (cs ++ r) l := by
  intro i hi
  have := (h i hi).1
  refine ⟨by rw [List.length_append]; omega, ?_⟩
  rw [List.drop_append_of_le_length (by omega), List.take_append_of_le_length (by rw [List.length_drop]; omega)]
  exact (h i hi).2
theorem row_set_ne {cs : List Value} {k j : Nat} {v : Value} (h : k < j * 9 ∨ j * 9 + 9 ≤ k) : ((cs.set k v).drop (j * 9)).take 9 = (cs.drop (j * 9)).take 9 := by
  apply List.ext_getElem?
  intro q
  by_cases hq : q < 9
  · rw [List.getElem?_take_of_lt hq, List.getElem?_take_of_lt hq, List.getElem?_drop, List.getElem?_drop, List.getElem?_set_ne (by omega)]
  · rw [List.getElem?_eq_none (by rw [List.length_take]; omega), List.getElem?_eq_none (by rw [List.length_take]; omega)]
theorem row_get {cs : List Value} {i q : Nat} (hq : q < 9) {r : List Value} (e : (cs.drop (i * 9)).take 9 = r) : cs[i * 9 + q]? = r[q]? := by
  rw [← e, List.getElem?_take_of_lt hq, List.getElem?_drop]
theorem row_set_eq {cs : List Value} {i : Nat} {b : Blk} {p p' : Option Addr} {c c' : Nat} (h : i * 9 + 9 ≤ cs.length) (e : (cs.drop (i * 9)).take 9 = b.cells p c) : ((cs.set (i * 9 + 5 + 1) (.slice p' b.lab.after.length c')).drop (i * 9)).take 9 = b.cells p' c' := by
  apply List.ext_getElem?
  intro q
  by_cases hq : q < 9
  · rw [List.getElem?_take_of_lt hq, List.getElem?_drop]
    have hg := row_get hq e
    have : q = 0 ∨ q = 1 ∨ q = 2 ∨ q = 3 ∨ q = 4 ∨ q = 5 ∨ q = 6 ∨ q = 7 ∨ q = 8 := by omega
    rcases this with rfl | rfl | rfl | rfl | rfl | rfl | rfl | rfl | rfl
    case inr.inr.inr.inr.inr.inr.inl => rw [show i * 9 + 5 + 1 = i * 9 + 6 from rfl, List.getElem?_set_self (by omega)]; rfl
    all_goals (rw [List.getElem?_set_ne (by omega), hg]; rfl)
  · rw [List.getElem?_eq_none (by rw [List.length_take]; omega), List.getElem?_eq_none (by simp; omega)]
theorem BRowL.set {lk lk' : Lk} {cs : List Value} {l : List Blk} {i : Nat} {p' : Option Addr} {c' : Nat} (h : BRowL lk cs l) (hi : i < l.length) (hl : ∀ b c, lk b c → lk' b c) (hp : IntsL lk' p' l[i].lab.after) : BRowL lk' (cs.set (i * 9 + 5 + 1) (.slice p' l[i].lab.after.length c')) l := by
  intro j hj
  obtain ⟨h1, p, c, e, h2, h3⟩ := h j hj
  refine ⟨by rw [List.length_set]; exact h1, ?_⟩
  by_cases hji : j = i
  · subst hji
    exact ⟨p', c', row_set_eq h1 e, hp, h3⟩
  · refine ⟨p, c, ?_, h2.mono hl, h3⟩
    rw [row_set_ne (by omega)]
    exact e
def redF (f : Fct) : Fct := if aboutB f.kind = true then goneF f else f
structure Fct.Small (f : Fct) : Prop where
  tops : f.topics.length ≤ 100
  blks : f.blocks.length ≤ 100
  ints : f.lab.after.length ≤ 100
  each : ∀ b ∈ f.blocks, b.lab.after.length ≤ 100
theorem ints_new {lk : Lk} {F : SHeap} {B : Nat} {l : List Int} {r : List Value} {t : TypeId} {fz : Nat × Nat} (h : (B, Obj.cells ⟨l.map (.int .i64) ++ r⟩ t fz) ∈ F) : IntsL (lkU F lk) (some ⟨B, 0, none⟩) l :=
  fun _ => ⟨B, 0, _, rfl, .inl ⟨t, fz, h⟩, fun i hi => by rw [Nat.zero_add, List.getElem?_append_left (by rw [List.length_map]; exact hi), List.getElem?_map, List.getElem?_eq_getElem hi]; rfl⟩
theorem strs_new {lk : Lk} {F : SHeap} {B : Nat} {l : List ByteArray} {r : List Value} {t : TypeId} {fz : Nat × Nat} (h : (B, Obj.cells ⟨l.map .string ++ r⟩ t fz) ∈ F) : StrsL (lkU F lk) (some ⟨B, 0, none⟩) l :=
  fun _ => ⟨B, 0, _, rfl, .inl ⟨t, fz, h⟩, fun i hi => by rw [Nat.zero_add, List.getElem?_append_left (by rw [List.length_map]; exact hi), List.getElem?_map, List.getElem?_eq_getElem hi]; rfl⟩
theorem lkU_mono {F F' : SHeap} {lk : Lk} (h : ∀ x ∈ F, x ∈ F') : ∀ b c, lkU F lk b c → lkU F' lk b c := by
  rintro b c (hb | hb)
  · exact .inl (lkF_mono h b c hb)
  · exact .inr hb
theorem lkU_in {lk : Lk} {F L : SHeap} {w0 W : World} (hlk : ∀ b c, lk b c → lkW w0 b c) (hm : Mem L [] w0 W) (h : ∀ x ∈ F, x ∈ L) : ∀ b c, lkU F lk b c → lkW W b c := by
  rintro b c (hb | hb)
  · exact lkF_W hm h b c hb
  · exact lkW_kept hm b c (hlk b c hb)
theorem ints_zero {lk : Lk} {p : Option Addr} {l : List Int} (h : l.length = 0) : IntsL lk p l := fun hp => absurd hp (by omega)
theorem redact_loop {w0 : World} {lk : Lk} {f : Fct} {tp bp ap : Option Addr} {tc bc ac : Nat} (hlk : ∀ b c, lk b c → lkW w0 b c) (h : FAt lk f tp tc bp bc ap ac) (hs : f.Small) {qp : Option Addr} {ql qc : Nat} (hql : ql = f.topics.length) (hqc : ql ≤ qc) {B6 B7 B8 bcap : Nat} (hcap : f.blocks.length ≤ bcap) {xp yp : Option Addr} {xl xc yl yc : Nat} :
    ∀ (g i : Nat) (cs : List Value) (F : SHeap), g + i = f.blocks.length → BRowL (lkU F lk) cs f.blocks → StrsL (lkU F lk) qp f.topics →
      fRedact_c1 f tp tc bp bc ap ac B6 B7 B8 (i : Int) qp ql qc f.blocks.length bcap cs xp xl xc yp yl yc F w0 (fun e W' => ∃ v L', e = .returned v ∧ Mem L' [] w0 W' ∧ FewOut lk f v L') := by
  subst hql
  intro g
  induction g with
  | zero =>
    intro i cs F hg hr ht
    apply fRedact_c1_vc
    have hin := hs.ints
    refine no (by omega) ⟨_, src_ints h.ints fun W hm => fun b c hb => lkW_kept hm b c (hlk b c hb), by omega, fun h0 => ?_, fun hpos B12 cap5 r5 q1 q2 => ?_⟩
    · refine dkFin ⟨qp, qc, some ⟨B7, 0, none⟩, bcap, none, 0, ?_, ?_⟩
      · delta fRedactA3 Fct.cells; rw [h0]
      · exact ⟨ht.mono (lkU_mono fun x hx => by simp [hx]), fun _ => ⟨B7, 0, cs, rfl, .inl ⟨_, _, List.mem_cons_of_mem _ List.mem_cons_self⟩, fun i hi => ⟨by rw [Nat.zero_add]; exact (hr i hi).1, by rw [Nat.zero_add]; exact (hr i hi).2.mono (lkU_mono fun x hx => by simp [hx])⟩⟩, ints_zero h0, hqc, hcap, by omega, h.fits⟩
    · refine dkFin ⟨qp, qc, some ⟨B7, 0, none⟩, bcap, some ⟨B12, 0, none⟩, cap5, rfl, ?_⟩
      exact ⟨ht.mono (lkU_mono fun x hx => by simp [hx]), fun _ => ⟨B7, 0, cs, rfl, .inl ⟨_, _, List.mem_cons_of_mem _ (List.mem_cons_of_mem _ List.mem_cons_self)⟩, fun i hi => ⟨by rw [Nat.zero_add]; exact (hr i hi).1, by rw [Nat.zero_add]; exact (hr i hi).2.mono (lkU_mono fun x hx => by simp [hx])⟩⟩, ints_new List.mem_cons_self, hqc, hcap, q1, h.fits⟩
  | succ g ih =>
    intro i cs F hg hr ht
    apply fRedact_c1_vc
    have hb := hs.blks
    have hi : i < f.blocks.length := by omega
    obtain ⟨h1, p, c, e, h2, h3⟩ := hr i hi
    have he := hs.each _ (List.getElem_mem hi)
    have hw : IntKind.i64.wrap ((i : Int) + 1) = ((i + 1 : Nat) : Int) := by rw [wi64 (by omega)]; omega
    refine yes (by omega) ⟨by omega, p, f.blocks[i].lab.after.length, c, ?_, _, src_ints h2 fun W hm => lkU_in hlk hm fun x hx => by simp [hx], by omega, fun h0 => ⟨by omega, by rw [Int.toNat_natCast]; omega, ?_⟩, fun hpos B11 cap4 r4 q1 q2 => ⟨by omega, by rw [Int.toNat_natCast]; omega, ?_⟩⟩
    · rw [Int.toNat_natCast, Nat.add_assoc, row_get (by decide) e]; rfl
    · rw [hw, Int.toNat_natCast]
      have := hr.set (i := i) (p' := none) (c' := 0) hi (fun b c hb => hb) (ints_zero h0)
      rw [h0] at this
      exact ih (i + 1) _ F (by omega) this ht
    · rw [hw, Int.toNat_natCast]
      exact ih (i + 1) _ _ (by omega) (hr.set hi (lkU_mono fun x hx => List.mem_cons_of_mem _ hx) (ints_new List.mem_cons_self)) (ht.mono (lkU_mono fun x hx => List.mem_cons_of_mem _ hx))
theorem redact_none {w0 : World} {lk : Lk} {f : Fct} {tp bp ap : Option Addr} {tc bc ac : Nat} (hlk : ∀ b c, lk b c → lkW w0 b c) (h : FAt lk f tp tc bp bc ap ac) (hs : f.Small) {qp : Option Addr} {ql qc : Nat} (hql : ql = f.topics.length) (hqc : ql ≤ qc) (hb0 : f.blocks.length = 0) {B4 B5 : Nat} {xp yp : Option Addr} {xl xc yl yc : Nat} {F : SHeap} (ht : StrsL (lkU F lk) qp f.topics) :
    fRedact_c0 f tp tc bp bc ap ac B4 B5 (0 : Int) (0 : Int) qp ql qc xp xl xc yp yl yc F w0 (fun e W' => ∃ v L', e = .returned v ∧ Mem L' [] w0 W' ∧ FewOut lk f v L') := by
  subst hql
  apply fRedact_c0_vc
  have hin := hs.ints
  have hbn : f.blocks = [] := List.length_eq_zero_iff.1 hb0
  refine no (by omega) ⟨_, src_ints h.ints fun W hm => fun b c hb => lkW_kept hm b c (hlk b c hb), by omega, fun h0 => ?_, fun hpos B12 cap5 r5 q1 q2 => ?_⟩
  · refine dkFin ⟨qp, qc, none, 0, none, 0, ?_, ?_⟩
    · delta fRedactA4 Fct.cells; rw [h0, hb0]
    · exact ⟨ht.mono (lkU_mono fun x hx => by simp [hx]), by rw [hbn]; exact blks_nil, ints_zero h0, hqc, by omega, by omega, h.fits⟩
  · refine dkFin ⟨qp, qc, none, 0, some ⟨B12, 0, none⟩, cap5, ?_, ?_⟩
    · delta fRedactA2 Fct.cells; rw [hb0]
    · exact ⟨ht.mono (lkU_mono fun x hx => by simp [hx]), by rw [hbn]; exact blks_nil, ints_new List.mem_cons_self, hqc, by omega, q1, h.fits⟩
theorem strs_zero {lk : Lk} {p : Option Addr} {l : List ByteArray} (h : l.length = 0) : StrsL lk p l := fun hp => absurd hp (by omega)
theorem redact_e {lk : Lk} {f : Fct} {tp bp ap : Option Addr} {tc bc ac : Nat} (h : FAt lk f tp tc bp bc ap ac) (hs : f.Small) : EffW Tryz.prog 26 ⟨[.agg ⟨f.cells tp tc bp bc ap ac⟩]⟩ [] (fun W => ∀ b c, lk b c → lkW W b c) (FewOut lk (redF f)) := by
  intro W hm hlk
  cases hk : aboutB f.kind with
  | true =>
    rw [redF, if_pos hk]
    refine (gone_e (tp := tp) (tc := tc) (bp := bp) (bc := bc) (ap := ap) (ac := ac) hk W hm).mono ?_
    rintro e W' ⟨v, L', he, hL, hv⟩
    exact ⟨v, L', he, hL, none, 0, none, 0, none, 0, hv, goneAt⟩
  | false =>
    rw [redF, if_neg (by rw [hk]; decide)]
    have hk := of_decide_eq_false hk
    have hst := hs.tops; have hsb := hs.blks
    refine fRedact_vc f tp tc bp bc ap ac [] hm fun B B1 => no (fun hh => hk (.inl hh)) (no (fun hh => hk (.inr (.inl hh))) (no (fun hh => hk (.inr (.inr hh))) ?_))
    refine ⟨_, src_strs h.tops fun W hm => fun b c hb => lkW_kept hm b c (hlk b c hb), by omega, fun h0 => ?_, fun hpos B2 cap r q1 q2 => ?_⟩
    · obtain ⟨news, n1, n2, n3⟩ := src_blks (c := bc) (L := _) (w0 := W) h.blks fun W hm => fun b c hb => lkW_kept hm b c (hlk b c hb)
      refine ⟨news, n1, by omega, fun hb0 => redact_none hlk h hs h0.symm (Nat.le_refl _) hb0 (strs_zero h0), fun hbpos B3 cap1 r1 q1 q2 => ?_⟩
      exact redact_loop hlk h hs h0.symm (Nat.le_refl _) q1 _ 0 _ _ rfl (n3.mono lkU_r).app0 (strs_zero h0)
    · obtain ⟨news, n1, n2, n3⟩ := src_blks (c := bc) (L := _) (w0 := W) h.blks fun W hm => fun b c hb => lkW_kept hm b c (hlk b c hb)
      refine ⟨news, n1, by omega, fun hb0 => redact_none hlk h hs rfl q1 hb0 (strs_new List.mem_cons_self), fun hbpos B3 cap1 r1 p1 p2 => ?_⟩
      exact redact_loop hlk h hs rfl q1 p1 _ 0 _ _ rfl (n3.mono lkU_r).app0 (strs_new List.mem_cons_self)
end Go.Eng
namespace Go.Eng
open Go Go.RowKit Go.Proofs Wire
set_option linter.unusedVariables false
theorem lkU_W {F L : SHeap} {w0 W : World} (hm : Mem L [] w0 W) (h : ∀ x ∈ F, x ∈ L) : ∀ b c, lkU F (lkW w0) b c → lkW W b c := by
  rintro b c (hb | hb)
  · exact lkF_W hm h b c hb
  · exact lkW_kept hm b c hb
theorem CallH.few {w0 : World} {f : Fct} {tp bp ap : Option Addr} {tc bc ac : Nat} {K : Value → SHeap → Prop} (told : SHeap) {F : SHeap} (h : FArg (lkW w0) f tp tc bp bc ap ac)
    (hK : ∀ tp' tc' bp' bc' ap' ac' F', FAt (lkU F' (lkW w0)) (fewF f) tp' tc' bp' bc' ap' ac' → K (.agg ⟨(fewF f).cells tp' tc' bp' bc' ap' ac'⟩) (told ++ (F' ++ F))) : CallH Tryz.prog 18 ⟨[.agg ⟨f.cells tp tc bp bc ap ac⟩]⟩ (told ++ F) [] w0 K := by
  refine CallH.effW (L0 := []) (L1 := told ++ F) (few_e h) (fun W hm => lkW_kept hm) (List.Perm.refl _) ?_
  rintro _ F' ⟨tp', tc', bp', bc', ap', ac', rfl, hw⟩
  exact ⟨told ++ (F' ++ F), List.perm_append_comm_assoc _ _ _, hK _ _ _ _ _ _ _ hw⟩
end Go.Eng
namespace Go.Eng
open Go Go.RowKit Go.Proofs
set_option linter.unusedVariables false
set_option maxRecDepth 100000
abbrev law5H0 (B10 : Nat) (u4 : Fct) (u4tp : Option Addr) (u4tc : Nat) (u4bp : Option Addr) (u4bc : Nat) (u4ap : Option Addr) (u4ac : Nat) (B11 : Nat) (u5 : Fct) (u5tp : Option Addr) (u5tc : Nat) (u5bp : Option Addr) (u5bc : Nat) (u5ap : Option Addr) (u5ac : Nat) (B12 : Nat) (u6 : Fct) (u6tp : Option Addr) (u6tc : Nat) (u6bp : Option Addr) (u6bc : Nat) (u6ap : Option Addr) (u6ac : Nat) (F6 : SHeap) : SHeap := ((B10, .cells #[.int .i64 u4.n, .int .i64 u4.time, .int .i64 u4.kind, .int .i64 u4.story, .string u4.lang, .int .i64 u4.rev, .int .i64 u4.base, .string u4.title, .string u4.author, .slice u4tp u4.topics.length u4tc, .slice u4bp u4.blocks.length u4bc, .int .i64 u4.lab.unt, .slice u4ap u4.lab.after.length u4ac, .int .i64 u4.lab.appr, .int .i64 u4.lab.den, .int .i64 u4.editor, .int .i64 u4.block, .int .i64 u4.sentence, .string u4.text, .string u4.name, .int .i64 u4.partner, .int .i64 u4.cls, .int .i64 u4.unt] 28) :: (B11, .cells #[.int .i64 u5.n, .int .i64 u5.time, .int .i64 u5.kind, .int .i64 u5.story, .string u5.lang, .int .i64 u5.rev, .int .i64 u5.base, .string u5.title, .string u5.author, .slice u5tp u5.topics.length u5tc, .slice u5bp u5.blocks.length u5bc, .int .i64 u5.lab.unt, .slice u5ap u5.lab.after.length u5ac, .int .i64 u5.lab.appr, .int .i64 u5.lab.den, .int .i64 u5.editor, .int .i64 u5.block, .int .i64 u5.sentence, .string u5.text, .string u5.name, .int .i64 u5.partner, .int .i64 u5.cls, .int .i64 u5.unt] 28) :: (B12, .cells #[.int .i64 u6.n, .int .i64 u6.time, .int .i64 u6.kind, .int .i64 u6.story, .string u6.lang, .int .i64 u6.rev, .int .i64 u6.base, .string u6.title, .string u6.author, .slice u6tp u6.topics.length u6tc, .slice u6bp u6.blocks.length u6bc, .int .i64 u6.lab.unt, .slice u6ap u6.lab.after.length u6ac, .int .i64 u6.lab.appr, .int .i64 u6.lab.den, .int .i64 u6.editor, .int .i64 u6.block, .int .i64 u6.sentence, .string u6.text, .string u6.name, .int .i64 u6.partner, .int .i64 u6.cls, .int .i64 u6.unt] 28) :: F6)
abbrev law5H1 (B13 : Nat) (u7 : Fct) (u7tp : Option Addr) (u7tc : Nat) (u7bp : Option Addr) (u7bc : Nat) (u7ap : Option Addr) (u7ac : Nat) (B14 : Nat) (u8 : Fct) (u8tp : Option Addr) (u8tc : Nat) (u8bp : Option Addr) (u8bc : Nat) (u8ap : Option Addr) (u8ac : Nat) (B15 : Nat) (u9 : Fct) (u9tp : Option Addr) (u9tc : Nat) (u9bp : Option Addr) (u9bc : Nat) (u9ap : Option Addr) (u9ac : Nat) (F7 : SHeap) : SHeap := ((B13, .cells #[.int .i64 u7.n, .int .i64 u7.time, .int .i64 u7.kind, .int .i64 u7.story, .string u7.lang, .int .i64 u7.rev, .int .i64 u7.base, .string u7.title, .string u7.author, .slice u7tp u7.topics.length u7tc, .slice u7bp u7.blocks.length u7bc, .int .i64 u7.lab.unt, .slice u7ap u7.lab.after.length u7ac, .int .i64 u7.lab.appr, .int .i64 u7.lab.den, .int .i64 u7.editor, .int .i64 u7.block, .int .i64 u7.sentence, .string u7.text, .string u7.name, .int .i64 u7.partner, .int .i64 u7.cls, .int .i64 u7.unt] 28) :: (B14, .cells #[.int .i64 u8.n, .int .i64 u8.time, .int .i64 u8.kind, .int .i64 u8.story, .string u8.lang, .int .i64 u8.rev, .int .i64 u8.base, .string u8.title, .string u8.author, .slice u8tp u8.topics.length u8tc, .slice u8bp u8.blocks.length u8bc, .int .i64 u8.lab.unt, .slice u8ap u8.lab.after.length u8ac, .int .i64 u8.lab.appr, .int .i64 u8.lab.den, .int .i64 u8.editor, .int .i64 u8.block, .int .i64 u8.sentence, .string u8.text, .string u8.name, .int .i64 u8.partner, .int .i64 u8.cls, .int .i64 u8.unt] 28) :: (B15, .cells #[.int .i64 u9.n, .int .i64 u9.time, .int .i64 u9.kind, .int .i64 u9.story, .string u9.lang, .int .i64 u9.rev, .int .i64 u9.base, .string u9.title, .string u9.author, .slice u9tp u9.topics.length u9tc, .slice u9bp u9.blocks.length u9bc, .int .i64 u9.lab.unt, .slice u9ap u9.lab.after.length u9ac, .int .i64 u9.lab.appr, .int .i64 u9.lab.den, .int .i64 u9.editor, .int .i64 u9.block, .int .i64 u9.sentence, .string u9.text, .string u9.name, .int .i64 u9.partner, .int .i64 u9.cls, .int .i64 u9.unt] 28) :: F7)
abbrev law5H2 (B10 : Nat) (u4 : Fct) (u4tp : Option Addr) (u4tc : Nat) (u4bp : Option Addr) (u4bc : Nat) (u4ap : Option Addr) (u4ac : Nat) (B11 : Nat) (u5 : Fct) (u5tp : Option Addr) (u5tc : Nat) (u5bp : Option Addr) (u5bc : Nat) (u5ap : Option Addr) (u5ac : Nat) (B12 : Nat) (u6 : Fct) (u6tp : Option Addr) (u6tc : Nat) (u6bp : Option Addr) (u6bc : Nat) (u6ap : Option Addr) (u6ac : Nat) : SHeap := [(B10, .cells #[.int .i64 u4.n, .int .i64 u4.time, .int .i64 u4.kind, .int .i64 u4.story, .string u4.lang, .int .i64 u4.rev, .int .i64 u4.base, .string u4.title, .string u4.author, .slice u4tp u4.topics.length u4tc, .slice u4bp u4.blocks.length u4bc, .int .i64 u4.lab.unt, .slice u4ap u4.lab.after.length u4ac, .int .i64 u4.lab.appr, .int .i64 u4.lab.den, .int .i64 u4.editor, .int .i64 u4.block, .int .i64 u4.sentence, .string u4.text, .string u4.name, .int .i64 u4.partner, .int .i64 u4.cls, .int .i64 u4.unt] 28), (B11, .cells #[.int .i64 u5.n, .int .i64 u5.time, .int .i64 u5.kind, .int .i64 u5.story, .string u5.lang, .int .i64 u5.rev, .int .i64 u5.base, .string u5.title, .string u5.author, .slice u5tp u5.topics.length u5tc, .slice u5bp u5.blocks.length u5bc, .int .i64 u5.lab.unt, .slice u5ap u5.lab.after.length u5ac, .int .i64 u5.lab.appr, .int .i64 u5.lab.den, .int .i64 u5.editor, .int .i64 u5.block, .int .i64 u5.sentence, .string u5.text, .string u5.name, .int .i64 u5.partner, .int .i64 u5.cls, .int .i64 u5.unt] 28), (B12, .cells #[.int .i64 u6.n, .int .i64 u6.time, .int .i64 u6.kind, .int .i64 u6.story, .string u6.lang, .int .i64 u6.rev, .int .i64 u6.base, .string u6.title, .string u6.author, .slice u6tp u6.topics.length u6tc, .slice u6bp u6.blocks.length u6bc, .int .i64 u6.lab.unt, .slice u6ap u6.lab.after.length u6ac, .int .i64 u6.lab.appr, .int .i64 u6.lab.den, .int .i64 u6.editor, .int .i64 u6.block, .int .i64 u6.sentence, .string u6.text, .string u6.name, .int .i64 u6.partner, .int .i64 u6.cls, .int .i64 u6.unt] 28)]
abbrev law5H3 (B16 : Nat) (u10 : Fct) (u10tp : Option Addr) (u10tc : Nat) (u10bp : Option Addr) (u10bc : Nat) (u10ap : Option Addr) (u10ac : Nat) (B17 : Nat) (u11 : Fct) (u11tp : Option Addr) (u11tc : Nat) (u11bp : Option Addr) (u11bc : Nat) (u11ap : Option Addr) (u11ac : Nat) (F8 : SHeap) : SHeap := ((B16, .cells #[.int .i64 u10.n, .int .i64 u10.time, .int .i64 u10.kind, .int .i64 u10.story, .string u10.lang, .int .i64 u10.rev, .int .i64 u10.base, .string u10.title, .string u10.author, .slice u10tp u10.topics.length u10tc, .slice u10bp u10.blocks.length u10bc, .int .i64 u10.lab.unt, .slice u10ap u10.lab.after.length u10ac, .int .i64 u10.lab.appr, .int .i64 u10.lab.den, .int .i64 u10.editor, .int .i64 u10.block, .int .i64 u10.sentence, .string u10.text, .string u10.name, .int .i64 u10.partner, .int .i64 u10.cls, .int .i64 u10.unt] 28) :: (B17, .cells #[.int .i64 u11.n, .int .i64 u11.time, .int .i64 u11.kind, .int .i64 u11.story, .string u11.lang, .int .i64 u11.rev, .int .i64 u11.base, .string u11.title, .string u11.author, .slice u11tp u11.topics.length u11tc, .slice u11bp u11.blocks.length u11bc, .int .i64 u11.lab.unt, .slice u11ap u11.lab.after.length u11ac, .int .i64 u11.lab.appr, .int .i64 u11.lab.den, .int .i64 u11.editor, .int .i64 u11.block, .int .i64 u11.sentence, .string u11.text, .string u11.name, .int .i64 u11.partner, .int .i64 u11.cls, .int .i64 u11.unt] 28) :: F8)
abbrev law5H4 (B10 : Nat) (u4 : Fct) (u4tp : Option Addr) (u4tc : Nat) (u4bp : Option Addr) (u4bc : Nat) (u4ap : Option Addr) (u4ac : Nat) (B11 : Nat) (u5 : Fct) (u5tp : Option Addr) (u5tc : Nat) (u5bp : Option Addr) (u5bc : Nat) (u5ap : Option Addr) (u5ac : Nat) (B12 : Nat) (u6 : Fct) (u6tp : Option Addr) (u6tc : Nat) (u6bp : Option Addr) (u6bc : Nat) (u6ap : Option Addr) (u6ac : Nat) (F5 : SHeap) : SHeap := ((B10, .cells #[.int .i64 u4.n, .int .i64 u4.time, .int .i64 u4.kind, .int .i64 u4.story, .string u4.lang, .int .i64 u4.rev, .int .i64 u4.base, .string u4.title, .string u4.author, .slice u4tp u4.topics.length u4tc, .slice u4bp u4.blocks.length u4bc, .int .i64 u4.lab.unt, .slice u4ap u4.lab.after.length u4ac, .int .i64 u4.lab.appr, .int .i64 u4.lab.den, .int .i64 u4.editor, .int .i64 u4.block, .int .i64 u4.sentence, .string u4.text, .string u4.name, .int .i64 u4.partner, .int .i64 u4.cls, .int .i64 u4.unt] 28) :: (B11, .cells #[.int .i64 u5.n, .int .i64 u5.time, .int .i64 u5.kind, .int .i64 u5.story, .string u5.lang, .int .i64 u5.rev, .int .i64 u5.base, .string u5.title, .string u5.author, .slice u5tp u5.topics.length u5tc, .slice u5bp u5.blocks.length u5bc, .int .i64 u5.lab.unt, .slice u5ap u5.lab.after.length u5ac, .int .i64 u5.lab.appr, .int .i64 u5.lab.den, .int .i64 u5.editor, .int .i64 u5.block, .int .i64 u5.sentence, .string u5.text, .string u5.name, .int .i64 u5.partner, .int .i64 u5.cls, .int .i64 u5.unt] 28) :: (B12, .cells #[.int .i64 u6.n, .int .i64 u6.time, .int .i64 u6.kind, .int .i64 u6.story, .string u6.lang, .int .i64 u6.rev, .int .i64 u6.base, .string u6.title, .string u6.author, .slice u6tp u6.topics.length u6tc, .slice u6bp u6.blocks.length u6bc, .int .i64 u6.lab.unt, .slice u6ap u6.lab.after.length u6ac, .int .i64 u6.lab.appr, .int .i64 u6.lab.den, .int .i64 u6.editor, .int .i64 u6.block, .int .i64 u6.sentence, .string u6.text, .string u6.name, .int .i64 u6.partner, .int .i64 u6.cls, .int .i64 u6.unt] 28) :: F5)
abbrev law5H5 (B4 : Nat) (z : Fct) (ztp : Option Addr) (ztc : Nat) (zbp : Option Addr) (zbc : Nat) (zap : Option Addr) (zac : Nat) (B3 : Nat) (w : Fct) (w1 : Fct) (w1tp : Option Addr) (w1tc : Nat) (w1bp : Option Addr) (w1bc : Nat) (w1ap : Option Addr) (w1ac : Nat) (B2 : Nat) (wtp : Option Addr) (wtc : Nat) (wbp : Option Addr) (wbc : Nat) (wap : Option Addr) (wac : Nat) (B : Nat) (a : Fct) (atp : Option Addr) (atc : Nat) (abp : Option Addr) (abc : Nat) (aap : Option Addr) (aac : Nat) (B1 : Nat) (b : Fct) (btp : Option Addr) (btc : Nat) (bbp : Option Addr) (bbc : Nat) (bap : Option Addr) (bac : Nat) (F2 : SHeap) : SHeap := ((B4, .cells #[.int .i64 z.n, .int .i64 z.time, .int .i64 z.kind, .int .i64 z.story, .string z.lang, .int .i64 z.rev, .int .i64 z.base, .string z.title, .string z.author, .slice ztp z.topics.length ztc, .slice zbp z.blocks.length zbc, .int .i64 z.lab.unt, .slice zap z.lab.after.length zac, .int .i64 z.lab.appr, .int .i64 z.lab.den, .int .i64 z.editor, .int .i64 z.block, .int .i64 z.sentence, .string z.text, .string z.name, .int .i64 z.partner, .int .i64 z.cls, .int .i64 z.unt] 28) :: (B3, .cells #[.int .i64 w.n, .int .i64 w.time, .int .i64 w1.kind, .int .i64 w.story, .string w1.lang, .int .i64 w1.rev, .int .i64 w1.base, .string w1.title, .string w1.author, .slice w1tp w1.topics.length w1tc, .slice w1bp w1.blocks.length w1bc, .int .i64 w1.lab.unt, .slice w1ap w1.lab.after.length w1ac, .int .i64 w1.lab.appr, .int .i64 w1.lab.den, .int .i64 w1.editor, .int .i64 w1.block, .int .i64 w1.sentence, .string w1.text, .string w1.name, .int .i64 w1.partner, .int .i64 w1.cls, .int .i64 w1.unt] 28) :: (B2, .cells #[.int .i64 w.n, .int .i64 w.time, .int .i64 w.kind, .int .i64 w.story, .string w.lang, .int .i64 w.rev, .int .i64 w.base, .string w.title, .string w.author, .slice wtp w.topics.length wtc, .slice wbp w.blocks.length wbc, .int .i64 w.lab.unt, .slice wap w.lab.after.length wac, .int .i64 w.lab.appr, .int .i64 w.lab.den, .int .i64 w.editor, .int .i64 w.block, .int .i64 w.sentence, .string w.text, .string w.name, .int .i64 w.partner, .int .i64 w.cls, .int .i64 w.unt] 28) :: (B, .cells #[.int .i64 a.n, .int .i64 a.time, .int .i64 a.kind, .int .i64 a.story, .string a.lang, .int .i64 a.rev, .int .i64 a.base, .string a.title, .string a.author, .slice atp a.topics.length atc, .slice abp a.blocks.length abc, .int .i64 a.lab.unt, .slice aap a.lab.after.length aac, .int .i64 a.lab.appr, .int .i64 a.lab.den, .int .i64 a.editor, .int .i64 a.block, .int .i64 a.sentence, .string a.text, .string a.name, .int .i64 a.partner, .int .i64 a.cls, .int .i64 a.unt] 28) :: (B1, .cells #[.int .i64 b.n, .int .i64 b.time, .int .i64 b.kind, .int .i64 b.story, .string b.lang, .int .i64 b.rev, .int .i64 b.base, .string b.title, .string b.author, .slice btp b.topics.length btc, .slice bbp b.blocks.length bbc, .int .i64 b.lab.unt, .slice bap b.lab.after.length bac, .int .i64 b.lab.appr, .int .i64 b.lab.den, .int .i64 b.editor, .int .i64 b.block, .int .i64 b.sentence, .string b.text, .string b.name, .int .i64 b.partner, .int .i64 b.cls, .int .i64 b.unt] 28) :: F2)
abbrev law5H6 (B : Nat) (a : Fct) (atp : Option Addr) (atc : Nat) (abp : Option Addr) (abc : Nat) (aap : Option Addr) (aac : Nat) (B1 : Nat) (b : Fct) (btp : Option Addr) (btc : Nat) (bbp : Option Addr) (bbc : Nat) (bap : Option Addr) (bac : Nat) : SHeap := [(B, .cells #[.int .i64 a.n, .int .i64 a.time, .int .i64 a.kind, .int .i64 a.story, .string a.lang, .int .i64 a.rev, .int .i64 a.base, .string a.title, .string a.author, .slice atp a.topics.length atc, .slice abp a.blocks.length abc, .int .i64 a.lab.unt, .slice aap a.lab.after.length aac, .int .i64 a.lab.appr, .int .i64 a.lab.den, .int .i64 a.editor, .int .i64 a.block, .int .i64 a.sentence, .string a.text, .string a.name, .int .i64 a.partner, .int .i64 a.cls, .int .i64 a.unt] 28), (B1, .cells #[.int .i64 b.n, .int .i64 b.time, .int .i64 b.kind, .int .i64 b.story, .string b.lang, .int .i64 b.rev, .int .i64 b.base, .string b.title, .string b.author, .slice btp b.topics.length btc, .slice bbp b.blocks.length bbc, .int .i64 b.lab.unt, .slice bap b.lab.after.length bac, .int .i64 b.lab.appr, .int .i64 b.lab.den, .int .i64 b.editor, .int .i64 b.block, .int .i64 b.sentence, .string b.text, .string b.name, .int .i64 b.partner, .int .i64 b.cls, .int .i64 b.unt] 28)]
abbrev law5H7 (B2 : Nat) (w : Fct) (wtp : Option Addr) (wtc : Nat) (wbp : Option Addr) (wbc : Nat) (wap : Option Addr) (wac : Nat) (B : Nat) (a : Fct) (atp : Option Addr) (atc : Nat) (abp : Option Addr) (abc : Nat) (aap : Option Addr) (aac : Nat) (B1 : Nat) (b : Fct) (btp : Option Addr) (btc : Nat) (bbp : Option Addr) (bbc : Nat) (bap : Option Addr) (bac : Nat) (F : SHeap) : SHeap := ((B2, .cells #[.int .i64 w.n, .int .i64 w.time, .int .i64 w.kind, .int .i64 w.story, .string w.lang, .int .i64 w.rev, .int .i64 w.base, .string w.title, .string w.author, .slice wtp w.topics.length wtc, .slice wbp w.blocks.length wbc, .int .i64 w.lab.unt, .slice wap w.lab.after.length wac, .int .i64 w.lab.appr, .int .i64 w.lab.den, .int .i64 w.editor, .int .i64 w.block, .int .i64 w.sentence, .string w.text, .string w.name, .int .i64 w.partner, .int .i64 w.cls, .int .i64 w.unt] 28) :: (B, .cells #[.int .i64 a.n, .int .i64 a.time, .int .i64 a.kind, .int .i64 a.story, .string a.lang, .int .i64 a.rev, .int .i64 a.base, .string a.title, .string a.author, .slice atp a.topics.length atc, .slice abp a.blocks.length abc, .int .i64 a.lab.unt, .slice aap a.lab.after.length aac, .int .i64 a.lab.appr, .int .i64 a.lab.den, .int .i64 a.editor, .int .i64 a.block, .int .i64 a.sentence, .string a.text, .string a.name, .int .i64 a.partner, .int .i64 a.cls, .int .i64 a.unt] 28) :: (B1, .cells #[.int .i64 b.n, .int .i64 b.time, .int .i64 b.kind, .int .i64 b.story, .string b.lang, .int .i64 b.rev, .int .i64 b.base, .string b.title, .string b.author, .slice btp b.topics.length btc, .slice bbp b.blocks.length bbc, .int .i64 b.lab.unt, .slice bap b.lab.after.length bac, .int .i64 b.lab.appr, .int .i64 b.lab.den, .int .i64 b.editor, .int .i64 b.block, .int .i64 b.sentence, .string b.text, .string b.name, .int .i64 b.partner, .int .i64 b.cls, .int .i64 b.unt] 28) :: F)
abbrev law5A0 (u5 : Fct) (u5tp : Option Addr) (u5tc : Nat) (u5bp : Option Addr) (u5bc : Nat) (u5ap : Option Addr) (u5ac : Nat) : Array Value := #[.int .i64 u5.n, .int .i64 u5.time, .int .i64 u5.kind, .int .i64 u5.story, .string u5.lang, .int .i64 u5.rev, .int .i64 u5.base, .string u5.title, .string u5.author, .slice u5tp u5.topics.length u5tc, .slice u5bp u5.blocks.length u5bc, .int .i64 u5.lab.unt, .slice u5ap u5.lab.after.length u5ac, .int .i64 u5.lab.appr, .int .i64 u5.lab.den, .int .i64 u5.editor, .int .i64 u5.block, .int .i64 u5.sentence, .string u5.text, .string u5.name, .int .i64 u5.partner, .int .i64 u5.cls, .int .i64 u5.unt]
abbrev law5A1 (a : Fct) (atp : Option Addr) (atc : Nat) (abp : Option Addr) (abc : Nat) (aap : Option Addr) (aac : Nat) : Array Value := #[.int .i64 a.n, .int .i64 a.time, .int .i64 a.kind, .int .i64 a.story, .string a.lang, .int .i64 a.rev, .int .i64 a.base, .string a.title, .string a.author, .slice atp a.topics.length atc, .slice abp a.blocks.length abc, .int .i64 a.lab.unt, .slice aap a.lab.after.length aac, .int .i64 a.lab.appr, .int .i64 a.lab.den, .int .i64 a.editor, .int .i64 a.block, .int .i64 a.sentence, .string a.text, .string a.name, .int .i64 a.partner, .int .i64 a.cls, .int .i64 a.unt]
abbrev law5A2 (b : Fct) (btp : Option Addr) (btc : Nat) (bbp : Option Addr) (bbc : Nat) (bap : Option Addr) (bac : Nat) : Array Value := #[.int .i64 b.n, .int .i64 b.time, .int .i64 b.kind, .int .i64 b.story, .string b.lang, .int .i64 b.rev, .int .i64 b.base, .string b.title, .string b.author, .slice btp b.topics.length btc, .slice bbp b.blocks.length bbc, .int .i64 b.lab.unt, .slice bap b.lab.after.length bac, .int .i64 b.lab.appr, .int .i64 b.lab.den, .int .i64 b.editor, .int .i64 b.block, .int .i64 b.sentence, .string b.text, .string b.name, .int .i64 b.partner, .int .i64 b.cls, .int .i64 b.unt]
abbrev law5A3 (w : Fct) (wtp : Option Addr) (wtc : Nat) (wbp : Option Addr) (wbc : Nat) (wap : Option Addr) (wac : Nat) : Array Value := #[.int .i64 w.n, .int .i64 w.time, .int .i64 w.kind, .int .i64 w.story, .string w.lang, .int .i64 w.rev, .int .i64 w.base, .string w.title, .string w.author, .slice wtp w.topics.length wtc, .slice wbp w.blocks.length wbc, .int .i64 w.lab.unt, .slice wap w.lab.after.length wac, .int .i64 w.lab.appr, .int .i64 w.lab.den, .int .i64 w.editor, .int .i64 w.block, .int .i64 w.sentence, .string w.text, .string w.name, .int .i64 w.partner, .int .i64 w.cls, .int .i64 w.unt]
abbrev law5A4 (u4 : Fct) (u4tp : Option Addr) (u4tc : Nat) (u4bp : Option Addr) (u4bc : Nat) (u4ap : Option Addr) (u4ac : Nat) : Array Value := #[.int .i64 u4.n, .int .i64 u4.time, .int .i64 u4.kind, .int .i64 u4.story, .string u4.lang, .int .i64 u4.rev, .int .i64 u4.base, .string u4.title, .string u4.author, .slice u4tp u4.topics.length u4tc, .slice u4bp u4.blocks.length u4bc, .int .i64 u4.lab.unt, .slice u4ap u4.lab.after.length u4ac, .int .i64 u4.lab.appr, .int .i64 u4.lab.den, .int .i64 u4.editor, .int .i64 u4.block, .int .i64 u4.sentence, .string u4.text, .string u4.name, .int .i64 u4.partner, .int .i64 u4.cls, .int .i64 u4.unt]
abbrev law5A5 (w : Fct) (w1 : Fct) (w1tp : Option Addr) (w1tc : Nat) (w1bp : Option Addr) (w1bc : Nat) (w1ap : Option Addr) (w1ac : Nat) : Array Value := #[.int .i64 w.n, .int .i64 w.time, .int .i64 w1.kind, .int .i64 w.story, .string w1.lang, .int .i64 w1.rev, .int .i64 w1.base, .string w1.title, .string w1.author, .slice w1tp w1.topics.length w1tc, .slice w1bp w1.blocks.length w1bc, .int .i64 w1.lab.unt, .slice w1ap w1.lab.after.length w1ac, .int .i64 w1.lab.appr, .int .i64 w1.lab.den, .int .i64 w1.editor, .int .i64 w1.block, .int .i64 w1.sentence, .string w1.text, .string w1.name, .int .i64 w1.partner, .int .i64 w1.cls, .int .i64 w1.unt]
abbrev law5A6 : Array Value := #[.int .i64 (0 : Int), .int .i64 (0 : Int), .int .i64 (0 : Int), .int .i64 (0 : Int), .string (⟨#[]⟩), .int .i64 (0 : Int), .int .i64 (0 : Int), .string (⟨#[]⟩), .string (⟨#[]⟩), .slice none 0 0, .slice none 0 0, .int .i64 (0 : Int), .slice none 0 0, .int .i64 (0 : Int), .int .i64 (0 : Int), .int .i64 (0 : Int), .int .i64 (0 : Int), .int .i64 (0 : Int), .string (⟨#[]⟩), .string (⟨#[]⟩), .int .i64 (0 : Int), .int .i64 (0 : Int), .int .i64 (0 : Int)]
abbrev law5A7 (z : Fct) (ztp : Option Addr) (ztc : Nat) (zbp : Option Addr) (zbc : Nat) (zap : Option Addr) (zac : Nat) : Array Value := #[.int .i64 z.n, .int .i64 z.time, .int .i64 z.kind, .int .i64 z.story, .string z.lang, .int .i64 z.rev, .int .i64 z.base, .string z.title, .string z.author, .slice ztp z.topics.length ztc, .slice zbp z.blocks.length zbc, .int .i64 z.lab.unt, .slice zap z.lab.after.length zac, .int .i64 z.lab.appr, .int .i64 z.lab.den, .int .i64 z.editor, .int .i64 z.block, .int .i64 z.sentence, .string z.text, .string z.name, .int .i64 z.partner, .int .i64 z.cls, .int .i64 z.unt]
abbrev law5A8 (u10 : Fct) (u10tp : Option Addr) (u10tc : Nat) (u10bp : Option Addr) (u10bc : Nat) (u10ap : Option Addr) (u10ac : Nat) : Array Value := #[.int .i64 u10.n, .int .i64 u10.time, .int .i64 u10.kind, .int .i64 u10.story, .string u10.lang, .int .i64 u10.rev, .int .i64 u10.base, .string u10.title, .string u10.author, .slice u10tp u10.topics.length u10tc, .slice u10bp u10.blocks.length u10bc, .int .i64 u10.lab.unt, .slice u10ap u10.lab.after.length u10ac, .int .i64 u10.lab.appr, .int .i64 u10.lab.den, .int .i64 u10.editor, .int .i64 u10.block, .int .i64 u10.sentence, .string u10.text, .string u10.name, .int .i64 u10.partner, .int .i64 u10.cls, .int .i64 u10.unt]
abbrev law5A9 (u11 : Fct) (u11tp : Option Addr) (u11tc : Nat) (u11bp : Option Addr) (u11bc : Nat) (u11ap : Option Addr) (u11ac : Nat) : Array Value := #[.int .i64 u11.n, .int .i64 u11.time, .int .i64 u11.kind, .int .i64 u11.story, .string u11.lang, .int .i64 u11.rev, .int .i64 u11.base, .string u11.title, .string u11.author, .slice u11tp u11.topics.length u11tc, .slice u11bp u11.blocks.length u11bc, .int .i64 u11.lab.unt, .slice u11ap u11.lab.after.length u11ac, .int .i64 u11.lab.appr, .int .i64 u11.lab.den, .int .i64 u11.editor, .int .i64 u11.block, .int .i64 u11.sentence, .string u11.text, .string u11.name, .int .i64 u11.partner, .int .i64 u11.cls, .int .i64 u11.unt]
abbrev law5A10 (z2 : Fct) (z2tp : Option Addr) (z2tc : Nat) (z2bp : Option Addr) (z2bc : Nat) (z2ap : Option Addr) (z2ac : Nat) : Array Value := #[.int .i64 z2.n, .int .i64 z2.time, .int .i64 z2.kind, .int .i64 z2.story, .string z2.lang, .int .i64 z2.rev, .int .i64 z2.base, .string z2.title, .string z2.author, .slice z2tp z2.topics.length z2tc, .slice z2bp z2.blocks.length z2bc, .int .i64 z2.lab.unt, .slice z2ap z2.lab.after.length z2ac, .int .i64 z2.lab.appr, .int .i64 z2.lab.den, .int .i64 z2.editor, .int .i64 z2.block, .int .i64 z2.sentence, .string z2.text, .string z2.name, .int .i64 z2.partner, .int .i64 z2.cls, .int .i64 z2.unt]
abbrev law5A11 (z1 : Fct) (z1tp : Option Addr) (z1tc : Nat) (z1bp : Option Addr) (z1bc : Nat) (z1ap : Option Addr) (z1ac : Nat) : Array Value := #[.int .i64 z1.n, .int .i64 z1.time, .int .i64 z1.kind, .int .i64 z1.story, .string z1.lang, .int .i64 z1.rev, .int .i64 z1.base, .string z1.title, .string z1.author, .slice z1tp z1.topics.length z1tc, .slice z1bp z1.blocks.length z1bc, .int .i64 z1.lab.unt, .slice z1ap z1.lab.after.length z1ac, .int .i64 z1.lab.appr, .int .i64 z1.lab.den, .int .i64 z1.editor, .int .i64 z1.block, .int .i64 z1.sentence, .string z1.text, .string z1.name, .int .i64 z1.partner, .int .i64 z1.cls, .int .i64 z1.unt]
abbrev law5A12 (w1 : Fct) (w1tp : Option Addr) (w1tc : Nat) (w1bp : Option Addr) (w1bc : Nat) (w1ap : Option Addr) (w1ac : Nat) : Array Value := #[.int .i64 w1.n, .int .i64 w1.time, .int .i64 w1.kind, .int .i64 w1.story, .string w1.lang, .int .i64 w1.rev, .int .i64 w1.base, .string w1.title, .string w1.author, .slice w1tp w1.topics.length w1tc, .slice w1bp w1.blocks.length w1bc, .int .i64 w1.lab.unt, .slice w1ap w1.lab.after.length w1ac, .int .i64 w1.lab.appr, .int .i64 w1.lab.den, .int .i64 w1.editor, .int .i64 w1.block, .int .i64 w1.sentence, .string w1.text, .string w1.name, .int .i64 w1.partner, .int .i64 w1.cls, .int .i64 w1.unt]
def law5_c0 (a : Fct) (atp : Option Addr) (atc : Nat) (abp : Option Addr) (abc : Nat) (aap : Option Addr) (aac : Nat) (b : Fct) (btp : Option Addr) (btc : Nat) (bbp : Option Addr) (bbc : Nat) (bap : Option Addr) (bac : Nat) (B6 : Nat) (B7 : Nat) (B8 : Nat) (B9 : Nat) (ok : Bool) (one : Bool) (u : Fct) (utp : Option Addr) (utc : Nat) (ubp : Option Addr) (ubc : Nat) (uap : Option Addr) (uac : Nat) (u1 : Fct) (u1tp : Option Addr) (u1tc : Nat) (u1bp : Option Addr) (u1bc : Nat) (u1ap : Option Addr) (u1ac : Nat) (u2 : Fct) (u2tp : Option Addr) (u2tc : Nat) (u2bp : Option Addr) (u2bc : Nat) (u2ap : Option Addr) (u2ac : Nat) (u3 : Fct) (u3tp : Option Addr) (u3tc : Nat) (u3bp : Option Addr) (u3bc : Nat) (u3ap : Option Addr) (u3ac : Nat) (F4 : SHeap) (w0 : World) (R : Ending → World → Prop) : Prop :=
 AtE Tryz.prog 8 132 [.code (sub (Eng.body Tryz.f8) [1,1,1,1,1,1,1,1,1,1])] [(5, .bool ok), (6, .pointer (some ⟨B6, 0, none⟩)), (7, .pointer (some ⟨B7, 0, none⟩)), (8, .pointer (some ⟨B8, 0, none⟩)), (9, .pointer (some ⟨B9, 0, none⟩)), (10, .bool one)] ((B6, .cells #[.int .i64 u.n, .int .i64 u.time, .int .i64 u.kind, .int .i64 u.story, .string u.lang, .int .i64 u.rev, .int .i64 u.base, .string u.title, .string u.author, .slice utp u.topics.length utc, .slice ubp u.blocks.length ubc, .int .i64 u.lab.unt, .slice uap u.lab.after.length uac, .int .i64 u.lab.appr, .int .i64 u.lab.den, .int .i64 u.editor, .int .i64 u.block, .int .i64 u.sentence, .string u.text, .string u.name, .int .i64 u.partner, .int .i64 u.cls, .int .i64 u.unt] 28) :: (B7, .cells #[.int .i64 u1.n, .int .i64 u1.time, .int .i64 u1.kind, .int .i64 u1.story, .string u1.lang, .int .i64 u1.rev, .int .i64 u1.base, .string u1.title, .string u1.author, .slice u1tp u1.topics.length u1tc, .slice u1bp u1.blocks.length u1bc, .int .i64 u1.lab.unt, .slice u1ap u1.lab.after.length u1ac, .int .i64 u1.lab.appr, .int .i64 u1.lab.den, .int .i64 u1.editor, .int .i64 u1.block, .int .i64 u1.sentence, .string u1.text, .string u1.name, .int .i64 u1.partner, .int .i64 u1.cls, .int .i64 u1.unt] 28) :: (B8, .cells #[.int .i64 u2.n, .int .i64 u2.time, .int .i64 u2.kind, .int .i64 u2.story, .string u2.lang, .int .i64 u2.rev, .int .i64 u2.base, .string u2.title, .string u2.author, .slice u2tp u2.topics.length u2tc, .slice u2bp u2.blocks.length u2bc, .int .i64 u2.lab.unt, .slice u2ap u2.lab.after.length u2ac, .int .i64 u2.lab.appr, .int .i64 u2.lab.den, .int .i64 u2.editor, .int .i64 u2.block, .int .i64 u2.sentence, .string u2.text, .string u2.name, .int .i64 u2.partner, .int .i64 u2.cls, .int .i64 u2.unt] 28) :: (B9, .cells #[.int .i64 u3.n, .int .i64 u3.time, .int .i64 u3.kind, .int .i64 u3.story, .string u3.lang, .int .i64 u3.rev, .int .i64 u3.base, .string u3.title, .string u3.author, .slice u3tp u3.topics.length u3tc, .slice u3bp u3.blocks.length u3bc, .int .i64 u3.lab.unt, .slice u3ap u3.lab.after.length u3ac, .int .i64 u3.lab.appr, .int .i64 u3.lab.den, .int .i64 u3.editor, .int .i64 u3.block, .int .i64 u3.sentence, .string u3.text, .string u3.name, .int .i64 u3.partner, .int .i64 u3.cls, .int .i64 u3.unt] 28) :: F4) [] w0 (nrm R)
def law5_c1 (a : Fct) (atp : Option Addr) (atc : Nat) (abp : Option Addr) (abc : Nat) (aap : Option Addr) (aac : Nat) (b : Fct) (btp : Option Addr) (btc : Nat) (bbp : Option Addr) (bbc : Nat) (bap : Option Addr) (bac : Nat) (B10 : Nat) (B11 : Nat) (B12 : Nat) (ok1 : Bool) (one1 : Bool) (two : Bool) (u4 : Fct) (u4tp : Option Addr) (u4tc : Nat) (u4bp : Option Addr) (u4bc : Nat) (u4ap : Option Addr) (u4ac : Nat) (u5 : Fct) (u5tp : Option Addr) (u5tc : Nat) (u5bp : Option Addr) (u5bc : Nat) (u5ap : Option Addr) (u5ac : Nat) (u6 : Fct) (u6tp : Option Addr) (u6tc : Nat) (u6bp : Option Addr) (u6bc : Nat) (u6ap : Option Addr) (u6ac : Nat) (F5 : SHeap) (w0 : World) (R : Ending → World → Prop) : Prop :=
 AtE Tryz.prog 8 132 [.code (sub (Eng.body Tryz.f8) [1,1,1,1,1,1,1,1,1,1,1,0]), .code (sub (Eng.body Tryz.f8) [1,1,1,1,1,1,1,1,1,1,1,1])] [(5, .bool ok1), (6, .pointer (some ⟨B10, 0, none⟩)), (8, .pointer (some ⟨B11, 0, none⟩)), (9, .pointer (some ⟨B12, 0, none⟩)), (10, .bool one1), (11, .bool two)] (law5H4 B10 u4 u4tp u4tc u4bp u4bc u4ap u4ac B11 u5 u5tp u5tc u5bp u5bc u5ap u5ac B12 u6 u6tp u6tc u6bp u6bc u6ap u6ac F5) [] w0 (nrm R)
def law5_c2 (a : Fct) (atp : Option Addr) (atc : Nat) (abp : Option Addr) (abc : Nat) (aap : Option Addr) (aac : Nat) (b : Fct) (btp : Option Addr) (btc : Nat) (bbp : Option Addr) (bbc : Nat) (bap : Option Addr) (bac : Nat) (B13 : Nat) (B14 : Nat) (B15 : Nat) (ok2 : Bool) (one2 : Bool) (two1 : Bool) (u7 : Fct) (u7tp : Option Addr) (u7tc : Nat) (u7bp : Option Addr) (u7bc : Nat) (u7ap : Option Addr) (u7ac : Nat) (u8 : Fct) (u8tp : Option Addr) (u8tc : Nat) (u8bp : Option Addr) (u8bc : Nat) (u8ap : Option Addr) (u8ac : Nat) (u9 : Fct) (u9tp : Option Addr) (u9tc : Nat) (u9bp : Option Addr) (u9bc : Nat) (u9ap : Option Addr) (u9ac : Nat) (F7 : SHeap) (w0 : World) (R : Ending → World → Prop) : Prop :=
 AtE Tryz.prog 8 132 [.code (sub (Eng.body Tryz.f8) [1,1,1,1,1,1,1,1,1,1,1,1,0]), .code (sub (Eng.body Tryz.f8) [1,1,1,1,1,1,1,1,1,1,1,1,1])] [(5, .bool ok2), (6, .pointer (some ⟨B13, 0, none⟩)), (8, .pointer (some ⟨B14, 0, none⟩)), (9, .pointer (some ⟨B15, 0, none⟩)), (10, .bool one2), (11, .bool two1)] (law5H1 B13 u7 u7tp u7tc u7bp u7bc u7ap u7ac B14 u8 u8tp u8tc u8bp u8bc u8ap u8ac B15 u9 u9tp u9tc u9bp u9bc u9ap u9ac F7) [] w0 (nrm R)
def law5_c3 (a : Fct) (atp : Option Addr) (atc : Nat) (abp : Option Addr) (abc : Nat) (aap : Option Addr) (aac : Nat) (b : Fct) (btp : Option Addr) (btc : Nat) (bbp : Option Addr) (bbc : Nat) (bap : Option Addr) (bac : Nat) (B16 : Nat) (B17 : Nat) (ok3 : Bool) (one3 : Bool) (two2 : Bool) (u10 : Fct) (u10tp : Option Addr) (u10tc : Nat) (u10bp : Option Addr) (u10bc : Nat) (u10ap : Option Addr) (u10ac : Nat) (u11 : Fct) (u11tp : Option Addr) (u11tc : Nat) (u11bp : Option Addr) (u11bc : Nat) (u11ap : Option Addr) (u11ac : Nat) (F8 : SHeap) (w0 : World) (R : Ending → World → Prop) : Prop :=
 AtE Tryz.prog 8 132 [.code (sub (Eng.body Tryz.f8) [1,1,1,1,1,1,1,1,1,1,1,1,1])] [(5, .bool ok3), (8, .pointer (some ⟨B16, 0, none⟩)), (9, .pointer (some ⟨B17, 0, none⟩)), (10, .bool one3), (11, .bool two2)] (law5H3 B16 u10 u10tp u10tc u10bp u10bc u10ap u10ac B17 u11 u11tp u11tc u11bp u11bc u11ap u11ac F8) [] w0 (nrm R)
theorem law5_c0_vc (a : Fct) (atp : Option Addr) (atc : Nat) (abp : Option Addr) (abc : Nat) (aap : Option Addr) (aac : Nat) (b : Fct) (btp : Option Addr) (btc : Nat) (bbp : Option Addr) (bbc : Nat) (bap : Option Addr) (bac : Nat) (B6 : Nat) (B7 : Nat) (B8 : Nat) (B9 : Nat) (ok : Bool) (one : Bool) (u : Fct) (utp : Option Addr) (utc : Nat) (ubp : Option Addr) (ubc : Nat) (uap : Option Addr) (uac : Nat) (u1 : Fct) (u1tp : Option Addr) (u1tc : Nat) (u1bp : Option Addr) (u1bc : Nat) (u1ap : Option Addr) (u1ac : Nat) (u2 : Fct) (u2tp : Option Addr) (u2tc : Nat) (u2bp : Option Addr) (u2bc : Nat) (u2ap : Option Addr) (u2ac : Nat) (u3 : Fct) (u3tp : Option Addr) (u3tc : Nat) (u3bp : Option Addr) (u3bc : Nat) (u3ap : Option Addr) (u3ac : Nat) (F4 : SHeap) {R : Ending → World → Prop} {w0 : World}
  (H :
   ((u1.kind = (1 : Int)) →
    law5_c1 a atp atc abp abc aap aac b btp btc bbp bbc bap bac B6 B8 B9 ok one true u utp utc ubp ubc uap uac u2 u2tp u2tc u2bp u2bc u2ap u2ac u3 u3tp u3tc u3bp u3bc u3ap u3ac F4 w0 R) ∧
    ((¬ (u1.kind = (1 : Int))) →
    ((u1.kind = (4 : Int)) →
     law5_c1 a atp atc abp abc aap aac b btp btc bbp bbc bap bac B6 B8 B9 ok one true u utp utc ubp ubc uap uac u2 u2tp u2tc u2bp u2bc u2ap u2ac u3 u3tp u3tc u3bp u3bc u3ap u3ac F4 w0 R) ∧
     ((¬ (u1.kind = (4 : Int))) →
     law5_c1 a atp atc abp abc aap aac b btp btc bbp bbc bap bac B6 B8 B9 ok one (decide (u1.kind = (5 : Int))) u utp utc ubp ubc uap uac u2 u2tp u2tc u2bp u2bc u2ap u2ac u3 u3tp u3tc u3bp u3bc u3ap u3ac F4 w0 R))) :
  law5_c0 a atp atc abp abc aap aac b btp btc bbp bbc bap bac B6 B7 B8 B9 ok one u utp utc ubp ubc uap uac u1 u1tp u1tc u1bp u1bc u1ap u1ac u2 u2tp u2tc u2bp u2bc u2ap u2ac u3 u3tp u3tc u3bp u3bc u3ap u3ac F4 w0 R := by
 unfold law5_c0
 refine AtE.ru 3 ?_
 refine AtE.load 1 2 (T := 3) (v := .int .i64 u1.kind) (by kernel_rfl) ?_
 refine AtE.ru 2 ?_
 refine AtE.splitP 46 (p := u1.kind = (1 : Int)) (by kernel_rfl) (fun h3' => ?_) (fun h3' => ?_)
 ·replace H := H.1 h3'
  refine AtE.ru 12 ?_
  exact AtE.cutT [0,2,3] 4 H (by kernel_rfl)
 ·replace H := H.2 h3'
  refine AtE.ru 1 ?_
  refine AtE.load 1 2 (T := 3) (v := .int .i64 u1.kind) (by kernel_rfl) ?_
  refine AtE.ru 3 ?_
  refine AtE.splitP 51 (p := u1.kind = (4 : Int)) (by kernel_rfl) (fun h4' => ?_) (fun h4' => ?_)
  ·replace H := H.1 h4'
   refine AtE.ru 7 ?_
   exact AtE.cutT [0,2,3] 4 H (by kernel_rfl)
  ·replace H := H.2 h4'
   refine AtE.ru 1 ?_
   refine AtE.load 1 2 (T := 3) (v := .int .i64 u1.kind) (by kernel_rfl) ?_
   refine AtE.ru 5 ?_
   exact AtE.cutT [0,2,3] 4 H (by kernel_rfl)
theorem law5_c1_vc (a : Fct) (atp : Option Addr) (atc : Nat) (abp : Option Addr) (abc : Nat) (aap : Option Addr) (aac : Nat) (b : Fct) (btp : Option Addr) (btc : Nat) (bbp : Option Addr) (bbc : Nat) (bap : Option Addr) (bac : Nat) (B10 : Nat) (B11 : Nat) (B12 : Nat) (ok1 : Bool) (one1 : Bool) (two : Bool) (u4 : Fct) (u4tp : Option Addr) (u4tc : Nat) (u4bp : Option Addr) (u4bc : Nat) (u4ap : Option Addr) (u4ac : Nat) (u5 : Fct) (u5tp : Option Addr) (u5tc : Nat) (u5bp : Option Addr) (u5bc : Nat) (u5ap : Option Addr) (u5ac : Nat) (u6 : Fct) (u6tp : Option Addr) (u6tc : Nat) (u6bp : Option Addr) (u6bc : Nat) (u6ap : Option Addr) (u6ac : Nat) (F5 : SHeap) {R : Ending → World → Prop} {w0 : World}
  (H :
   CallH Tryz.prog 26 ⟨[.agg (law5A0 u5 u5tp u5tc u5bp u5bc u5ap u5ac)]⟩ (law5H4 B10 u4 u4tp u4tc u4bp u4bc u4ap u4ac B11 u5 u5tp u5tc u5bp u5bc u5ap u5ac B12 u6 u6tp u6tc u6bp u6bc u6ap u6ac F5) [] w0 (fun v L' => ∃ (z2 : Fct) (z2tp : Option Addr) (z2tc : Nat) (z2bp : Option Addr) (z2bc : Nat) (z2ap : Option Addr) (z2ac : Nat) (F6 : SHeap), v = (.agg (law5A10 z2 z2tp z2tc z2bp z2bc z2ap z2ac)) ∧ L' = (law5H0 B10 u4 u4tp u4tc u4bp u4bc u4ap u4ac B11 u5 u5tp u5tc u5bp u5bc u5ap u5ac B12 u6 u6tp u6tc u6bp u6bc u6ap u6ac F6) ∧
    CallH Tryz.prog 22 ⟨[.agg (law5A10 z2 z2tp z2tc z2bp z2bc z2ap z2ac), .agg (law5A0 u5 u5tp u5tc u5bp u5bc u5ap u5ac)]⟩ (law5H0 B10 u4 u4tp u4tc u4bp u4bc u4ap u4ac B11 u5 u5tp u5tc u5bp u5bc u5ap u5ac B12 u6 u6tp u6tc u6bp u6bc u6ap u6ac F6) [] w0 (fun v L' => ∃ (r71 : Bool), v = (.bool r71) ∧ L' = (law5H0 B10 u4 u4tp u4tc u4bp u4bc u4ap u4ac B11 u5 u5tp u5tc u5bp u5bc u5ap u5ac B12 u6 u6tp u6tc u6bp u6bc u6ap u6ac F6) ∧
     ((r71 = true) →
      CallH Tryz.prog 20 ⟨[.agg (law5A4 u4 u4tp u4tc u4bp u4bc u4ap u4ac)]⟩ (law5H0 B10 u4 u4tp u4tc u4bp u4bc u4ap u4ac B11 u5 u5tp u5tc u5bp u5bc u5ap u5ac B12 u6 u6tp u6tc u6bp u6bc u6ap u6ac F6) [] w0 (fun v L' => ∃ (r81 : Bool), v = (.bool r81) ∧ L' = (law5H0 B10 u4 u4tp u4tc u4bp u4bc u4ap u4ac B11 u5 u5tp u5tc u5bp u5bc u5ap u5ac B12 u6 u6tp u6tc u6bp u6bc u6ap u6ac F6) ∧
       ((r81 = true) →
        CallH Tryz.prog 20 ⟨[.agg (law5A0 u5 u5tp u5tc u5bp u5bc u5ap u5ac)]⟩ (law5H0 B10 u4 u4tp u4tc u4bp u4bc u4ap u4ac B11 u5 u5tp u5tc u5bp u5bc u5ap u5ac B12 u6 u6tp u6tc u6bp u6bc u6ap u6ac F6) [] w0 (fun v L' => ∃ (r91 : Bool), v = (.bool r91) ∧ L' = (law5H0 B10 u4 u4tp u4tc u4bp u4bc u4ap u4ac B11 u5 u5tp u5tc u5bp u5bc u5ap u5ac B12 u6 u6tp u6tc u6bp u6bc u6ap u6ac F6) ∧
         ((r91 = true) →
          ((one1 = true) →
           law5_c2 a atp atc abp abc aap aac b btp btc bbp bbc bap bac B10 B11 B12 ok1 one1 two u4 u4tp u4tc u4bp u4bc u4ap u4ac u5 u5tp u5tc u5bp u5bc u5ap u5ac u6 u6tp u6tc u6bp u6bc u6ap u6ac F6 w0 R) ∧
           ((one1 = false) →
           CallH Tryz.prog 22 ⟨[.agg (law5A0 u5 u5tp u5tc u5bp u5bc u5ap u5ac), .agg (law5A4 u4 u4tp u4tc u4bp u4bc u4ap u4ac)]⟩ (law5H0 B10 u4 u4tp u4tc u4bp u4bc u4ap u4ac B11 u5 u5tp u5tc u5bp u5bc u5ap u5ac B12 u6 u6tp u6tc u6bp u6bc u6ap u6ac F6) [] w0 (fun v L' => ∃ (r101 : Bool), v = (.bool r101) ∧ L' = (law5H0 B10 u4 u4tp u4tc u4bp u4bc u4ap u4ac B11 u5 u5tp u5tc u5bp u5bc u5ap u5ac B12 u6 u6tp u6tc u6bp u6bc u6ap u6ac F6) ∧
            ((r101 = true) →
             law5_c2 a atp atc abp abc aap aac b btp btc bbp bbc bap bac B10 B11 B12 ok1 one1 two u4 u4tp u4tc u4bp u4bc u4ap u4ac u5 u5tp u5tc u5bp u5bc u5ap u5ac u6 u6tp u6tc u6bp u6bc u6ap u6ac F6 w0 R) ∧
             ((r101 = false) →
             Fin R (law5H0 B10 u4 u4tp u4tc u4bp u4bc u4ap u4ac B11 u5 u5tp u5tc u5bp u5bc u5ap u5ac B12 u6 u6tp u6tc u6bp u6bc u6ap u6ac F6) [] w0 (.bool false))))) ∧
          ((r91 = false) →
          Fin R (law5H0 B10 u4 u4tp u4tc u4bp u4bc u4ap u4ac B11 u5 u5tp u5tc u5bp u5bc u5ap u5ac B12 u6 u6tp u6tc u6bp u6bc u6ap u6ac F6) [] w0 (.bool false)))) ∧
        ((r81 = false) →
        ((one1 = true) →
         law5_c2 a atp atc abp abc aap aac b btp btc bbp bbc bap bac B10 B11 B12 ok1 one1 two u4 u4tp u4tc u4bp u4bc u4ap u4ac u5 u5tp u5tc u5bp u5bc u5ap u5ac u6 u6tp u6tc u6bp u6bc u6ap u6ac F6 w0 R) ∧
         ((one1 = false) →
         CallH Tryz.prog 22 ⟨[.agg (law5A0 u5 u5tp u5tc u5bp u5bc u5ap u5ac), .agg (law5A4 u4 u4tp u4tc u4bp u4bc u4ap u4ac)]⟩ (law5H0 B10 u4 u4tp u4tc u4bp u4bc u4ap u4ac B11 u5 u5tp u5tc u5bp u5bc u5ap u5ac B12 u6 u6tp u6tc u6bp u6bc u6ap u6ac F6) [] w0 (fun v L' => ∃ (r111 : Bool), v = (.bool r111) ∧ L' = (law5H0 B10 u4 u4tp u4tc u4bp u4bc u4ap u4ac B11 u5 u5tp u5tc u5bp u5bc u5ap u5ac B12 u6 u6tp u6tc u6bp u6bc u6ap u6ac F6) ∧
          ((r111 = true) →
           law5_c2 a atp atc abp abc aap aac b btp btc bbp bbc bap bac B10 B11 B12 ok1 one1 two u4 u4tp u4tc u4bp u4bc u4ap u4ac u5 u5tp u5tc u5bp u5bc u5ap u5ac u6 u6tp u6tc u6bp u6bc u6ap u6ac F6 w0 R) ∧
           ((r111 = false) →
           Fin R (law5H0 B10 u4 u4tp u4tc u4bp u4bc u4ap u4ac B11 u5 u5tp u5tc u5bp u5bc u5ap u5ac B12 u6 u6tp u6tc u6bp u6bc u6ap u6ac F6) [] w0 (.bool false))))))) ∧
      ((r71 = false) →
      Fin R (law5H0 B10 u4 u4tp u4tc u4bp u4bc u4ap u4ac B11 u5 u5tp u5tc u5bp u5bc u5ap u5ac B12 u6 u6tp u6tc u6bp u6bc u6ap u6ac F6) [] w0 (.bool false))))) :
  law5_c1 a atp atc abp abc aap aac b btp btc bbp bbc bap bac B10 B11 B12 ok1 one1 two u4 u4tp u4tc u4bp u4bc u4ap u4ac u5 u5tp u5tc u5bp u5bc u5ap u5ac u6 u6tp u6tc u6bp u6bc u6ap u6ac F5 w0 R := by
 unfold law5_c1
 refine AtE.ru 1 ?_
 refine AtE.norm (k' := [.code (sub (Eng.body Tryz.f8) [1,1,1,1,1,1,1,1,1,1,1,0,0]), .code (sub (Eng.body Tryz.f8) [1,1,1,1,1,1,1,1,1,1,1,0,1]), .code (sub (Eng.body Tryz.f8) [1,1,1,1,1,1,1,1,1,1,1,1])]) (e' := [(5, .bool ok1), (6, .pointer (some ⟨B10, 0, none⟩)), (8, .pointer (some ⟨B11, 0, none⟩)), (9, .pointer (some ⟨B12, 0, none⟩)), (10, .bool one1), (11, .bool two)]) (L' := (law5H4 B10 u4 u4tp u4tc u4bp u4bc u4ap u4ac B11 u5 u5tp u5tc u5bp u5bc u5ap u5ac B12 u6 u6tp u6tc u6bp u6bc u6ap u6ac F5)) ?_ (by kernel_rfl)
 refine AtE.drawD (by kernel_rfl) ?_
 refine AtD.norm (e' := [(5, .bool ok1), (6, .pointer (some ⟨B10, 0, none⟩)), (8, .pointer (some ⟨B11, 0, none⟩)), (9, .pointer (some ⟨B12, 0, none⟩)), (10, .bool one1), (11, .bool two)]) (L' := (law5H4 B10 u4 u4tp u4tc u4bp u4bc u4ap u4ac B11 u5 u5tp u5tc u5bp u5bc u5ap u5ac B12 u6 u6tp u6tc u6bp u6bc u6ap u6ac F5)) ?_ (by kernel_rfl)
 refine AtD.phase 4 [0,2] [1,3] (law5H2 B10 u4 u4tp u4tc u4bp u4bc u4ap u4ac B11 u5 u5tp u5tc u5bp u5bc u5ap u5ac B12 u6 u6tp u6tc u6bp u6bc u6ap u6ac) (by kernel_rfl) rfl ?_
 refine AtF.load 1 0 (T := 28) (v := .agg (law5A0 u5 u5tp u5tc u5bp u5bc u5ap u5ac)) (by kernel_rfl) ?_
 refine AtF.load 1 0 (T := 28) (v := .agg (law5A0 u5 u5tp u5tc u5bp u5bc u5ap u5ac)) (by kernel_rfl) ?_
 refine AtF.done (by kernel_rfl) ?_
 refine AtM.call _ 26 ⟨[.agg (law5A0 u5 u5tp u5tc u5bp u5bc u5ap u5ac)]⟩ rfl (fun W => by kernel_rfl) (by kernel_rfl) H ?_
 clear H
 rintro _ _ ⟨z2, z2tp, z2tc, z2bp, z2bc, z2ap, z2ac, F6, rfl, rfl, H⟩
 refine AtM.call _ 22 ⟨[.agg (law5A10 z2 z2tp z2tc z2bp z2bc z2ap z2ac), .agg (law5A0 u5 u5tp u5tc u5bp u5bc u5ap u5ac)]⟩ rfl (fun W => by kernel_rfl) (by kernel_rfl) H ?_
 clear H
 rintro _ _ ⟨r71, rfl, rfl, H⟩
 refine AtM.done _ (by kernel_rfl) rfl ?_
 refine AtD.norm (e' := [(5, .bool ok1), (6, .pointer (some ⟨B10, 0, none⟩)), (8, .pointer (some ⟨B11, 0, none⟩)), (9, .pointer (some ⟨B12, 0, none⟩)), (10, .bool one1), (11, .bool two), (59, .bool r71)]) (L' := (law5H0 B10 u4 u4tp u4tc u4bp u4bc u4ap u4ac B11 u5 u5tp u5tc u5bp u5bc u5ap u5ac B12 u6 u6tp u6tc u6bp u6bc u6ap u6ac F6)) ?_ (by kernel_rfl)
 refine AtD.phase 8 [4,5,6] [7] (law5H2 B10 u4 u4tp u4tc u4bp u4bc u4ap u4ac B11 u5 u5tp u5tc u5bp u5bc u5ap u5ac B12 u6 u6tp u6tc u6bp u6bc u6ap u6ac) (by kernel_rfl) rfl ?_
 refine AtF.split 59 (b := r71) (by kernel_rfl) (fun h5' => ?_) (fun h5' => ?_)
 ·replace H := H.1 h5'
  refine AtF.pu ?_
  refine AtF.pu ?_
  refine AtF.load 0 0 (T := 28) (v := .agg (law5A4 u4 u4tp u4tc u4bp u4bc u4ap u4ac)) (by kernel_rfl) ?_
  refine AtF.done (by kernel_rfl) ?_
  refine AtM.call _ 20 ⟨[.agg (law5A4 u4 u4tp u4tc u4bp u4bc u4ap u4ac)]⟩ rfl (fun W => by kernel_rfl) (by kernel_rfl) H ?_
  clear H
  rintro _ _ ⟨r81, rfl, rfl, H⟩
  refine AtM.done _ (by kernel_rfl) rfl ?_
  refine AtD.norm (e' := [(5, .bool ok1), (6, .pointer (some ⟨B10, 0, none⟩)), (8, .pointer (some ⟨B11, 0, none⟩)), (9, .pointer (some ⟨B12, 0, none⟩)), (10, .bool one1), (11, .bool two), (61, .bool false), (63, .bool r81)]) (L' := (law5H0 B10 u4 u4tp u4tc u4bp u4bc u4ap u4ac B11 u5 u5tp u5tc u5bp u5bc u5ap u5ac B12 u6 u6tp u6tc u6bp u6bc u6ap u6ac F6)) ?_ (by kernel_rfl)
  refine AtD.phase 11 [8,9] [10] (law5H2 B10 u4 u4tp u4tc u4bp u4bc u4ap u4ac B11 u5 u5tp u5tc u5bp u5bc u5ap u5ac B12 u6 u6tp u6tc u6bp u6bc u6ap u6ac) (by kernel_rfl) rfl ?_
  refine AtF.pu ?_
  refine AtF.split 64 (b := r81) (by kernel_rfl) (fun h6' => ?_) (fun h6' => ?_)
  ·replace H := H.1 h6'
   refine AtF.load 1 0 (T := 28) (v := .agg (law5A0 u5 u5tp u5tc u5bp u5bc u5ap u5ac)) (by kernel_rfl) ?_
   refine AtF.done (by kernel_rfl) ?_
   refine AtM.call _ 20 ⟨[.agg (law5A0 u5 u5tp u5tc u5bp u5bc u5ap u5ac)]⟩ rfl (fun W => by kernel_rfl) (by kernel_rfl) H ?_
   clear H
   rintro _ _ ⟨r91, rfl, rfl, H⟩
   refine AtM.done _ (by kernel_rfl) rfl ?_
   refine AtD.norm (e' := [(5, .bool ok1), (6, .pointer (some ⟨B10, 0, none⟩)), (8, .pointer (some ⟨B11, 0, none⟩)), (9, .pointer (some ⟨B12, 0, none⟩)), (10, .bool one1), (11, .bool two), (61, .bool false), (64, .bool true), (66, .bool r91)]) (L' := (law5H0 B10 u4 u4tp u4tc u4bp u4bc u4ap u4ac B11 u5 u5tp u5tc u5bp u5bc u5ap u5ac B12 u6 u6tp u6tc u6bp u6bc u6ap u6ac F6)) ?_ (by kernel_rfl)
   refine AtD.phase 21 [11,12,13,14,15,16,17,18,19] [20] (law5H2 B10 u4 u4tp u4tc u4bp u4bc u4ap u4ac B11 u5 u5tp u5tc u5bp u5bc u5ap u5ac B12 u6 u6tp u6tc u6bp u6bc u6ap u6ac) (by kernel_rfl) rfl ?_
   refine AtF.split 66 (b := r91) (by kernel_rfl) (fun h7' => ?_) (fun h7' => ?_)
   ·replace H := H.1 h7'
    refine AtF.pu ?_
    refine AtF.pu ?_
    refine AtF.pu ?_
    refine AtF.pu ?_
    refine AtF.pu ?_
    refine AtF.split 71 (b := one1) (by kernel_rfl) (fun h8' => ?_) (fun h8' => ?_)
    ·replace H := H.1 h8'
     refine AtF.pu ?_
     refine AtF.pu ?_
     refine AtF.skip (by kernel_rfl) ?_
     refine AtF.skip (by kernel_rfl) ?_
     refine AtF.done (by kernel_rfl) ?_
     refine AtM.skip _ (by kernel_rfl) rfl ?_
     refine AtM.done _ (by kernel_rfl) rfl ?_
     refine AtD.norm (e' := [(5, .bool ok1), (6, .pointer (some ⟨B10, 0, none⟩)), (8, .pointer (some ⟨B11, 0, none⟩)), (9, .pointer (some ⟨B12, 0, none⟩)), (10, .bool one1), (11, .bool two), (70, .bool false), (73, .bool false), (76, undef)]) (L' := (law5H0 B10 u4 u4tp u4tc u4bp u4bc u4ap u4ac B11 u5 u5tp u5tc u5bp u5bc u5ap u5ac B12 u6 u6tp u6tc u6bp u6bc u6ap u6ac F6)) ?_ (by kernel_rfl)
     refine AtD.tail (by kernel_rfl) ?_
     refine AtE.ru 7 ?_
     exact AtE.cutT [0,1,2] 3 H (by kernel_rfl)
    ·replace H := H.2 h8'
     refine AtF.pu ?_
     refine AtF.pu ?_
     refine AtF.load 1 0 (T := 28) (v := .agg (law5A0 u5 u5tp u5tc u5bp u5bc u5ap u5ac)) (by kernel_rfl) ?_
     refine AtF.load 0 0 (T := 28) (v := .agg (law5A4 u4 u4tp u4tc u4bp u4bc u4ap u4ac)) (by kernel_rfl) ?_
     refine AtF.done (by kernel_rfl) ?_
     refine AtM.call _ 22 ⟨[.agg (law5A0 u5 u5tp u5tc u5bp u5bc u5ap u5ac), .agg (law5A4 u4 u4tp u4tc u4bp u4bc u4ap u4ac)]⟩ rfl (fun W => by kernel_rfl) (by kernel_rfl) H ?_
     clear H
     rintro _ _ ⟨r101, rfl, rfl, H⟩
     refine AtM.done _ (by kernel_rfl) rfl ?_
     refine AtD.norm (e' := [(5, .bool ok1), (6, .pointer (some ⟨B10, 0, none⟩)), (8, .pointer (some ⟨B11, 0, none⟩)), (9, .pointer (some ⟨B12, 0, none⟩)), (10, .bool one1), (11, .bool two), (70, .bool false), (73, .bool true), (76, .bool r101)]) (L' := (law5H0 B10 u4 u4tp u4tc u4bp u4bc u4ap u4ac B11 u5 u5tp u5tc u5bp u5bc u5ap u5ac B12 u6 u6tp u6tc u6bp u6bc u6ap u6ac F6)) ?_ (by kernel_rfl)
     refine AtD.tail (by kernel_rfl) ?_
     refine AtE.split 76 (b := r101) (by kernel_rfl) (fun h9' => ?_) (fun h9' => ?_)
     ·replace H := H.1 h9'
      refine AtE.ru 7 ?_
      exact AtE.cutT [0,1,2] 3 H (by kernel_rfl)
     ·replace H := H.2 h9'
      refine AtE.ru 9 ?_
      exact AtE.ret Tryz.func8 (by kernel_rfl) H
   ·replace H := H.2 h7'
    refine AtF.pu ?_
    refine AtF.pu ?_
    refine AtF.pu ?_
    refine AtF.pu ?_
    refine AtF.skip (by kernel_rfl) ?_
    refine AtF.skip (by kernel_rfl) ?_
    refine AtF.skip (by kernel_rfl) ?_
    refine AtF.skip (by kernel_rfl) ?_
    refine AtF.skip (by kernel_rfl) ?_
    refine AtF.done (by kernel_rfl) ?_
    refine AtM.skip _ (by kernel_rfl) rfl ?_
    refine AtM.done _ (by kernel_rfl) rfl ?_
    refine AtD.norm (e' := [(5, .bool ok1), (6, .pointer (some ⟨B10, 0, none⟩)), (8, .pointer (some ⟨B11, 0, none⟩)), (9, .pointer (some ⟨B12, 0, none⟩)), (10, .bool one1), (11, .bool two), (70, .bool true), (73, undef), (76, undef)]) (L' := (law5H0 B10 u4 u4tp u4tc u4bp u4bc u4ap u4ac B11 u5 u5tp u5tc u5bp u5bc u5ap u5ac B12 u6 u6tp u6tc u6bp u6bc u6ap u6ac F6)) ?_ (by kernel_rfl)
    refine AtD.tail (by kernel_rfl) ?_
    refine AtE.ru 9 ?_
    exact AtE.ret Tryz.func8 (by kernel_rfl) H
  ·replace H := H.2 h6'
   refine AtF.skip (by kernel_rfl) ?_
   refine AtF.done (by kernel_rfl) ?_
   refine AtM.skip _ (by kernel_rfl) rfl ?_
   refine AtM.done _ (by kernel_rfl) rfl ?_
   refine AtD.norm (e' := [(5, .bool ok1), (6, .pointer (some ⟨B10, 0, none⟩)), (8, .pointer (some ⟨B11, 0, none⟩)), (9, .pointer (some ⟨B12, 0, none⟩)), (10, .bool one1), (11, .bool two), (61, .bool false), (64, .bool false), (66, undef)]) (L' := (law5H0 B10 u4 u4tp u4tc u4bp u4bc u4ap u4ac B11 u5 u5tp u5tc u5bp u5bc u5ap u5ac B12 u6 u6tp u6tc u6bp u6bc u6ap u6ac F6)) ?_ (by kernel_rfl)
   refine AtD.phase 21 [11,12,13,14,15,16,17,18,19] [20] (law5H2 B10 u4 u4tp u4tc u4bp u4bc u4ap u4ac B11 u5 u5tp u5tc u5bp u5bc u5ap u5ac B12 u6 u6tp u6tc u6bp u6bc u6ap u6ac) (by kernel_rfl) rfl ?_
   refine AtF.skip (by kernel_rfl) ?_
   refine AtF.pu ?_
   refine AtF.pu ?_
   refine AtF.pu ?_
   refine AtF.pu ?_
   refine AtF.split 71 (b := one1) (by kernel_rfl) (fun h10' => ?_) (fun h10' => ?_)
   ·replace H := H.1 h10'
    refine AtF.pu ?_
    refine AtF.pu ?_
    refine AtF.skip (by kernel_rfl) ?_
    refine AtF.skip (by kernel_rfl) ?_
    refine AtF.done (by kernel_rfl) ?_
    refine AtM.skip _ (by kernel_rfl) rfl ?_
    refine AtM.done _ (by kernel_rfl) rfl ?_
    refine AtD.norm (e' := [(5, .bool ok1), (6, .pointer (some ⟨B10, 0, none⟩)), (8, .pointer (some ⟨B11, 0, none⟩)), (9, .pointer (some ⟨B12, 0, none⟩)), (10, .bool one1), (11, .bool two), (70, .bool false), (73, .bool false), (76, undef)]) (L' := (law5H0 B10 u4 u4tp u4tc u4bp u4bc u4ap u4ac B11 u5 u5tp u5tc u5bp u5bc u5ap u5ac B12 u6 u6tp u6tc u6bp u6bc u6ap u6ac F6)) ?_ (by kernel_rfl)
    refine AtD.tail (by kernel_rfl) ?_
    refine AtE.ru 7 ?_
    exact AtE.cutT [0,1,2] 3 H (by kernel_rfl)
   ·replace H := H.2 h10'
    refine AtF.pu ?_
    refine AtF.pu ?_
    refine AtF.load 1 0 (T := 28) (v := .agg (law5A0 u5 u5tp u5tc u5bp u5bc u5ap u5ac)) (by kernel_rfl) ?_
    refine AtF.load 0 0 (T := 28) (v := .agg (law5A4 u4 u4tp u4tc u4bp u4bc u4ap u4ac)) (by kernel_rfl) ?_
    refine AtF.done (by kernel_rfl) ?_
    refine AtM.call _ 22 ⟨[.agg (law5A0 u5 u5tp u5tc u5bp u5bc u5ap u5ac), .agg (law5A4 u4 u4tp u4tc u4bp u4bc u4ap u4ac)]⟩ rfl (fun W => by kernel_rfl) (by kernel_rfl) H ?_
    clear H
    rintro _ _ ⟨r111, rfl, rfl, H⟩
    refine AtM.done _ (by kernel_rfl) rfl ?_
    refine AtD.norm (e' := [(5, .bool ok1), (6, .pointer (some ⟨B10, 0, none⟩)), (8, .pointer (some ⟨B11, 0, none⟩)), (9, .pointer (some ⟨B12, 0, none⟩)), (10, .bool one1), (11, .bool two), (70, .bool false), (73, .bool true), (76, .bool r111)]) (L' := (law5H0 B10 u4 u4tp u4tc u4bp u4bc u4ap u4ac B11 u5 u5tp u5tc u5bp u5bc u5ap u5ac B12 u6 u6tp u6tc u6bp u6bc u6ap u6ac F6)) ?_ (by kernel_rfl)
    refine AtD.tail (by kernel_rfl) ?_
    refine AtE.split 76 (b := r111) (by kernel_rfl) (fun h11' => ?_) (fun h11' => ?_)
    ·replace H := H.1 h11'
     refine AtE.ru 7 ?_
     exact AtE.cutT [0,1,2] 3 H (by kernel_rfl)
    ·replace H := H.2 h11'
     refine AtE.ru 9 ?_
     exact AtE.ret Tryz.func8 (by kernel_rfl) H
 ·replace H := H.2 h5'
  refine AtF.pu ?_
  refine AtF.pu ?_
  refine AtF.skip (by kernel_rfl) ?_
  refine AtF.done (by kernel_rfl) ?_
  refine AtM.skip _ (by kernel_rfl) rfl ?_
  refine AtM.done _ (by kernel_rfl) rfl ?_
  refine AtD.norm (e' := [(5, .bool ok1), (6, .pointer (some ⟨B10, 0, none⟩)), (8, .pointer (some ⟨B11, 0, none⟩)), (9, .pointer (some ⟨B12, 0, none⟩)), (10, .bool one1), (11, .bool two), (61, .bool true), (63, undef)]) (L' := (law5H0 B10 u4 u4tp u4tc u4bp u4bc u4ap u4ac B11 u5 u5tp u5tc u5bp u5bc u5ap u5ac B12 u6 u6tp u6tc u6bp u6bc u6ap u6ac F6)) ?_ (by kernel_rfl)
  refine AtD.phase 11 [8,9] [10] (law5H2 B10 u4 u4tp u4tc u4bp u4bc u4ap u4ac B11 u5 u5tp u5tc u5bp u5bc u5ap u5ac B12 u6 u6tp u6tc u6bp u6bc u6ap u6ac) (by kernel_rfl) rfl ?_
  refine AtF.skip (by kernel_rfl) ?_
  refine AtF.skip (by kernel_rfl) ?_
  refine AtF.done (by kernel_rfl) ?_
  refine AtM.skip _ (by kernel_rfl) rfl ?_
  refine AtM.done _ (by kernel_rfl) rfl ?_
  refine AtD.norm (e' := [(5, .bool ok1), (6, .pointer (some ⟨B10, 0, none⟩)), (8, .pointer (some ⟨B11, 0, none⟩)), (9, .pointer (some ⟨B12, 0, none⟩)), (10, .bool one1), (11, .bool two), (61, .bool true), (64, undef), (66, undef)]) (L' := (law5H0 B10 u4 u4tp u4tc u4bp u4bc u4ap u4ac B11 u5 u5tp u5tc u5bp u5bc u5ap u5ac B12 u6 u6tp u6tc u6bp u6bc u6ap u6ac F6)) ?_ (by kernel_rfl)
  refine AtD.phase 21 [11,12,13,14,15,16,17,18,19] [20] (law5H2 B10 u4 u4tp u4tc u4bp u4bc u4ap u4ac B11 u5 u5tp u5tc u5bp u5bc u5ap u5ac B12 u6 u6tp u6tc u6bp u6bc u6ap u6ac) (by kernel_rfl) rfl ?_
  refine AtF.skip (by kernel_rfl) ?_
  refine AtF.skip (by kernel_rfl) ?_
  refine AtF.pu ?_
  refine AtF.pu ?_
  refine AtF.skip (by kernel_rfl) ?_
  refine AtF.skip (by kernel_rfl) ?_
  refine AtF.skip (by kernel_rfl) ?_
  refine AtF.skip (by kernel_rfl) ?_
  refine AtF.skip (by kernel_rfl) ?_
  refine AtF.done (by kernel_rfl) ?_
  refine AtM.skip _ (by kernel_rfl) rfl ?_
  refine AtM.done _ (by kernel_rfl) rfl ?_
  refine AtD.norm (e' := [(5, .bool ok1), (6, .pointer (some ⟨B10, 0, none⟩)), (8, .pointer (some ⟨B11, 0, none⟩)), (9, .pointer (some ⟨B12, 0, none⟩)), (10, .bool one1), (11, .bool two), (70, .bool true), (73, undef), (76, undef)]) (L' := (law5H0 B10 u4 u4tp u4tc u4bp u4bc u4ap u4ac B11 u5 u5tp u5tc u5bp u5bc u5ap u5ac B12 u6 u6tp u6tc u6bp u6bc u6ap u6ac F6)) ?_ (by kernel_rfl)
  refine AtD.tail (by kernel_rfl) ?_
  refine AtE.ru 9 ?_
  exact AtE.ret Tryz.func8 (by kernel_rfl) H
theorem law5_c2_vc (a : Fct) (atp : Option Addr) (atc : Nat) (abp : Option Addr) (abc : Nat) (aap : Option Addr) (aac : Nat) (b : Fct) (btp : Option Addr) (btc : Nat) (bbp : Option Addr) (bbc : Nat) (bap : Option Addr) (bac : Nat) (B13 : Nat) (B14 : Nat) (B15 : Nat) (ok2 : Bool) (one2 : Bool) (two1 : Bool) (u7 : Fct) (u7tp : Option Addr) (u7tc : Nat) (u7bp : Option Addr) (u7bc : Nat) (u7ap : Option Addr) (u7ac : Nat) (u8 : Fct) (u8tp : Option Addr) (u8tc : Nat) (u8bp : Option Addr) (u8bc : Nat) (u8ap : Option Addr) (u8ac : Nat) (u9 : Fct) (u9tp : Option Addr) (u9tc : Nat) (u9bp : Option Addr) (u9bc : Nat) (u9ap : Option Addr) (u9ac : Nat) (F7 : SHeap) {R : Ending → World → Prop} {w0 : World}
  (H :
   ((one2 = true) →
    ((¬ (u8.kind = (10 : Int))) →
     Fin R (law5H1 B13 u7 u7tp u7tc u7bp u7bc u7ap u7ac B14 u8 u8tp u8tc u8bp u8bc u8ap u8ac B15 u9 u9tp u9tc u9bp u9bc u9ap u9ac F7) [] w0 (.bool false)) ∧
     ((u8.kind = (10 : Int)) →
     ((¬ (u8.n = u7.n)) →
      Fin R (law5H1 B13 u7 u7tp u7tc u7bp u7bc u7ap u7ac B14 u8 u8tp u8tc u8bp u8bc u8ap u8ac B15 u9 u9tp u9tc u9bp u9bc u9ap u9ac F7) [] w0 (.bool false)) ∧
      ((u8.n = u7.n) →
      ((¬ (u8.time = u7.time)) →
       Fin R (law5H1 B13 u7 u7tp u7tc u7bp u7bc u7ap u7ac B14 u8 u8tp u8tc u8bp u8bc u8ap u8ac B15 u9 u9tp u9tc u9bp u9bc u9ap u9ac F7) [] w0 (.bool false)) ∧
       ((u8.time = u7.time) →
       ((¬ (u8.story = u7.story)) →
        Fin R (law5H1 B13 u7 u7tp u7tc u7bp u7bc u7ap u7ac B14 u8 u8tp u8tc u8bp u8bc u8ap u8ac B15 u9 u9tp u9tc u9bp u9bc u9ap u9ac F7) [] w0 (.bool false)) ∧
        ((u8.story = u7.story) →
        ((¬ u8.text = (⟨#[]⟩ : ByteArray)) →
         Fin R (law5H1 B13 u7 u7tp u7tc u7bp u7bc u7ap u7ac B14 u8 u8tp u8tc u8bp u8bc u8ap u8ac B15 u9 u9tp u9tc u9bp u9bc u9ap u9ac F7) [] w0 (.bool false)) ∧
         ((u8.text = (⟨#[]⟩ : ByteArray)) →
         (((0 : Int) < (u8.blocks.length : Int)) →
          Fin R (law5H1 B13 u7 u7tp u7tc u7bp u7bc u7ap u7ac B14 u8 u8tp u8tc u8bp u8bc u8ap u8ac B15 u9 u9tp u9tc u9bp u9bc u9ap u9ac F7) [] w0 (.bool false)) ∧
          ((¬ ((0 : Int) < (u8.blocks.length : Int))) →
          law5_c3 a atp atc abp abc aap aac b btp btc bbp bbc bap bac B14 B15 ok2 one2 two1 u8 u8tp u8tc u8bp u8bc u8ap u8ac u9 u9tp u9tc u9bp u9bc u9ap u9ac F7 w0 R))))))) ∧
    ((one2 = false) →
    law5_c3 a atp atc abp abc aap aac b btp btc bbp bbc bap bac B14 B15 ok2 one2 two1 u8 u8tp u8tc u8bp u8bc u8ap u8ac u9 u9tp u9tc u9bp u9bc u9ap u9ac F7 w0 R)) :
  law5_c2 a atp atc abp abc aap aac b btp btc bbp bbc bap bac B13 B14 B15 ok2 one2 two1 u7 u7tp u7tc u7bp u7bc u7ap u7ac u8 u8tp u8tc u8bp u8bc u8ap u8ac u9 u9tp u9tc u9bp u9bc u9ap u9ac F7 w0 R := by
 unfold law5_c2
 refine AtE.ru 4 ?_
 refine AtE.split 81 (b := one2) (by kernel_rfl) (fun h12' => ?_) (fun h12' => ?_)
 ·replace H := H.1 h12'
  refine AtE.ru 1 ?_
  refine AtE.load 1 2 (T := 3) (v := .int .i64 u8.kind) (by kernel_rfl) ?_
  refine AtE.ru 2 ?_
  refine AtE.splitN 85 (p := u8.kind = (10 : Int)) (by kernel_rfl) (fun h13' => ?_) (fun h13' => ?_)
  ·replace H := H.1 h13'
   refine AtE.ru 38 ?_
   exact AtE.ret Tryz.func8 (by kernel_rfl) H
  ·replace H := H.2 h13'
   refine AtE.ru 1 ?_
   refine AtE.load 1 0 (T := 3) (v := .int .i64 u8.n) (by kernel_rfl) ?_
   refine AtE.ru 1 ?_
   refine AtE.load 0 0 (T := 3) (v := .int .i64 u7.n) (by kernel_rfl) ?_
   refine AtE.ru 3 ?_
   refine AtE.splitN 92 (p := u8.n = u7.n) (by kernel_rfl) (fun h14' => ?_) (fun h14' => ?_)
   ·replace H := H.1 h14'
    refine AtE.ru 31 ?_
    exact AtE.ret Tryz.func8 (by kernel_rfl) H
   ·replace H := H.2 h14'
    refine AtE.ru 1 ?_
    refine AtE.load 1 1 (T := 3) (v := .int .i64 u8.time) (by kernel_rfl) ?_
    refine AtE.norm (k' := [.inRegion (regOps [.code (sub (Eng.body Tryz.f8) [1,1,1,1,1,1,1,1,1,1,1,1,0,0])]) [15,16,17,18,19,20,21,22,23,24,25,26,27,28,29,30,31,32,33,34,35,36,37], .code (sub (Eng.body Tryz.f8) [1,1,1,1,1,1,1,1,1,1,1,1,0,1]), .code (sub (Eng.body Tryz.f8) [1,1,1,1,1,1,1,1,1,1,1,1,1])]) (e' := [(5, .bool ok2), (6, .pointer (some ⟨B13, 0, none⟩)), (8, .pointer (some ⟨B14, 0, none⟩)), (9, .pointer (some ⟨B15, 0, none⟩)), (10, .bool one2), (11, .bool two1), (81, .bool true), (92, .bool false), (94, .int .i64 u8.time)]) (L' := (law5H1 B13 u7 u7tp u7tc u7bp u7bc u7ap u7ac B14 u8 u8tp u8tc u8bp u8bc u8ap u8ac B15 u9 u9tp u9tc u9bp u9bc u9ap u9ac F7)) ?_ (by kernel_rfl)
    refine AtE.ru 1 ?_
    refine AtE.load 0 1 (T := 3) (v := .int .i64 u7.time) (by kernel_rfl) ?_
    refine AtE.ru 3 ?_
    refine AtE.splitN 99 (p := u8.time = u7.time) (by kernel_rfl) (fun h15' => ?_) (fun h15' => ?_)
    ·replace H := H.1 h15'
     refine AtE.ru 24 ?_
     exact AtE.ret Tryz.func8 (by kernel_rfl) H
    ·replace H := H.2 h15'
     refine AtE.ru 1 ?_
     refine AtE.load 1 3 (T := 3) (v := .int .i64 u8.story) (by kernel_rfl) ?_
     refine AtE.ru 1 ?_
     refine AtE.load 0 3 (T := 3) (v := .int .i64 u7.story) (by kernel_rfl) ?_
     refine AtE.ru 3 ?_
     refine AtE.splitN 106 (p := u8.story = u7.story) (by kernel_rfl) (fun h16' => ?_) (fun h16' => ?_)
     ·replace H := H.1 h16'
      refine AtE.ru 17 ?_
      exact AtE.ret Tryz.func8 (by kernel_rfl) H
     ·replace H := H.2 h16'
      refine AtE.ru 1 ?_
      refine AtE.load 1 18 (T := 9) (v := .string u8.text) (by kernel_rfl) ?_
      refine AtE.ru 3 ?_
      refine AtE.splitT 111 (x := u8.text) (y := (⟨#[]⟩ : ByteArray)) (by kernel_rfl) (fun h17' => ?_) (fun h17' => ?_)
      ·replace H := H.1 h17'
       refine AtE.norm (k' := [.inRegion (regOps [.code (sub (Eng.body Tryz.f8) [1,1,1,1,1,1,1,1,1,1,1,1,0,0])]) [32,33,34,35,36,37], .code (sub (Eng.body Tryz.f8) [1,1,1,1,1,1,1,1,1,1,1,1,0,1]), .code (sub (Eng.body Tryz.f8) [1,1,1,1,1,1,1,1,1,1,1,1,1])]) (e' := [(5, .bool ok2), (8, .pointer (some ⟨B14, 0, none⟩)), (9, .pointer (some ⟨B15, 0, none⟩)), (10, .bool one2), (11, .bool two1), (81, .bool true), (111, .bool true)]) (L' := (law5H1 B13 u7 u7tp u7tc u7bp u7bc u7ap u7ac B14 u8 u8tp u8tc u8bp u8bc u8ap u8ac B15 u9 u9tp u9tc u9bp u9bc u9ap u9ac F7)) ?_ (by kernel_rfl)
       refine AtE.ru 12 ?_
       exact AtE.ret Tryz.func8 (by kernel_rfl) H
      ·replace H := H.2 h17'
       refine AtE.norm (k' := [.inRegion (regOps [.code (sub (Eng.body Tryz.f8) [1,1,1,1,1,1,1,1,1,1,1,1,0,0])]) [32,33,34,35,36,37], .code (sub (Eng.body Tryz.f8) [1,1,1,1,1,1,1,1,1,1,1,1,0,1]), .code (sub (Eng.body Tryz.f8) [1,1,1,1,1,1,1,1,1,1,1,1,1])]) (e' := [(5, .bool ok2), (8, .pointer (some ⟨B14, 0, none⟩)), (9, .pointer (some ⟨B15, 0, none⟩)), (10, .bool one2), (11, .bool two1), (81, .bool true), (111, .bool false)]) (L' := (law5H1 B13 u7 u7tp u7tc u7bp u7bc u7ap u7ac B14 u8 u8tp u8tc u8bp u8bc u8ap u8ac B15 u9 u9tp u9tc u9bp u9bc u9ap u9ac F7)) ?_ (by kernel_rfl)
       refine AtE.ru 1 ?_
       refine AtE.load 1 10 (T := 23) (v := .slice u8bp u8.blocks.length u8bc) (by kernel_rfl) ?_
       refine AtE.ru 5 ?_
       refine AtE.splitP 117 (p := (0 : Int) < (u8.blocks.length : Int)) (by kernel_rfl) (fun h18' => ?_) (fun h18' => ?_)
       ·replace H := H.1 h18'
        refine AtE.ru 5 ?_
        exact AtE.ret Tryz.func8 (by kernel_rfl) H
       ·replace H := H.2 h18'
        refine AtE.ru 2 ?_
        exact AtE.cutT [1,2] 3 H (by kernel_rfl)
 ·replace H := H.2 h12'
  refine AtE.ru 39 ?_
  exact AtE.cutT [1,2] 3 H (by kernel_rfl)
theorem law5_c3_vc (a : Fct) (atp : Option Addr) (atc : Nat) (abp : Option Addr) (abc : Nat) (aap : Option Addr) (aac : Nat) (b : Fct) (btp : Option Addr) (btc : Nat) (bbp : Option Addr) (bbc : Nat) (bap : Option Addr) (bac : Nat) (B16 : Nat) (B17 : Nat) (ok3 : Bool) (one3 : Bool) (two2 : Bool) (u10 : Fct) (u10tp : Option Addr) (u10tc : Nat) (u10bp : Option Addr) (u10bc : Nat) (u10ap : Option Addr) (u10ac : Nat) (u11 : Fct) (u11tp : Option Addr) (u11tc : Nat) (u11bp : Option Addr) (u11bc : Nat) (u11ap : Option Addr) (u11ac : Nat) (F8 : SHeap) {R : Ending → World → Prop} {w0 : World}
  (H :
   ((ok3 = true) →
    ((one3 = true) →
     ((two2 = true) →
      CallH Tryz.prog 22 ⟨[.agg (law5A8 u10 u10tp u10tc u10bp u10bc u10ap u10ac), .agg (law5A9 u11 u11tp u11tc u11bp u11bc u11ap u11ac)]⟩ (law5H3 B16 u10 u10tp u10tc u10bp u10bc u10ap u10ac B17 u11 u11tp u11tc u11bp u11bc u11ap u11ac F8) [] w0 (fun v L' => ∃ (r121 : Bool), v = (.bool r121) ∧ L' = (law5H3 B16 u10 u10tp u10tc u10bp u10bc u10ap u10ac B17 u11 u11tp u11tc u11bp u11bc u11ap u11ac F8) ∧
       Fin R (law5H3 B16 u10 u10tp u10tc u10bp u10bc u10ap u10ac B17 u11 u11tp u11tc u11bp u11bc u11ap u11ac F8) [] w0 (.bool r121))) ∧
      ((two2 = false) →
      Fin R (law5H3 B16 u10 u10tp u10tc u10bp u10bc u10ap u10ac B17 u11 u11tp u11tc u11bp u11bc u11ap u11ac F8) [] w0 (.bool true))) ∧
     ((one3 = false) →
     Fin R (law5H3 B16 u10 u10tp u10tc u10bp u10bc u10ap u10ac B17 u11 u11tp u11tc u11bp u11bc u11ap u11ac F8) [] w0 (.bool true))) ∧
    ((ok3 = false) →
    Fin R (law5H3 B16 u10 u10tp u10tc u10bp u10bc u10ap u10ac B17 u11 u11tp u11tc u11bp u11bc u11ap u11ac F8) [] w0 (.bool false))) :
  law5_c3 a atp atc abp abc aap aac b btp btc bbp bbc bap bac B16 B17 ok3 one3 two2 u10 u10tp u10tc u10bp u10bc u10ap u10ac u11 u11tp u11tc u11bp u11bc u11ap u11ac F8 w0 R := by
 unfold law5_c3
 refine AtE.ru 4 ?_
 refine AtE.split 119 (b := ok3) (by kernel_rfl) (fun h19' => ?_) (fun h19' => ?_)
 ·replace H := H.1 h19'
  refine AtE.ru 1 ?_
  refine AtE.split 120 (b := one3) (by kernel_rfl) (fun h20' => ?_) (fun h20' => ?_)
  ·replace H := H.1 h20'
   refine AtE.ru 3 ?_
   refine AtE.split 123 (b := two2) (by kernel_rfl) (fun h21' => ?_) (fun h21' => ?_)
   ·replace H := H.1 h21'
    refine AtE.ru 3 ?_
    refine AtE.load 0 0 (T := 28) (v := .agg (law5A8 u10 u10tp u10tc u10bp u10bc u10ap u10ac)) (by kernel_rfl) ?_
    refine AtE.load 1 0 (T := 28) (v := .agg (law5A9 u11 u11tp u11tc u11bp u11bc u11ap u11ac)) (by kernel_rfl) ?_
    refine AtE.call 22 ⟨[.agg (law5A8 u10 u10tp u10tc u10bp u10bc u10ap u10ac), .agg (law5A9 u11 u11tp u11tc u11bp u11bc u11ap u11ac)]⟩ (fun W => by kernel_rfl) (by kernel_rfl) H ?_
    clear H
    rintro _ _ ⟨r121, rfl, rfl, H⟩
    refine AtE.ru 4 ?_
    exact AtE.ret Tryz.func8 (by kernel_rfl) H
   ·replace H := H.2 h21'
    refine AtE.ru 10 ?_
    exact AtE.ret Tryz.func8 (by kernel_rfl) H
  ·replace H := H.2 h20'
   refine AtE.ru 13 ?_
   exact AtE.ret Tryz.func8 (by kernel_rfl) H
 ·replace H := H.2 h19'
  refine AtE.ru 14 ?_
  exact AtE.ret Tryz.func8 (by kernel_rfl) H
theorem law5_vc (a : Fct) (atp : Option Addr) (atc : Nat) (abp : Option Addr) (abc : Nat) (aap : Option Addr) (aac : Nat) (b : Fct) (btp : Option Addr) (btc : Nat) (bbp : Option Addr) (bbc : Nat) (bap : Option Addr) (bac : Nat) {R : Ending → World → Prop} {w0 W : World} (hm : Mem [] [] w0 W)
  (H :
   ∀ B : Nat,
   ∀ B1 : Nat,
   CallH Tryz.prog 17 ⟨[]⟩ (law5H6 B a atp atc abp abc aap aac B1 b btp btc bbp bbc bap bac) [] w0 (fun v L' => ∃ (r1 : Bool), v = (.bool r1) ∧ L' = (law5H6 B a atp atc abp abc aap aac B1 b btp btc bbp bbc bap bac) ∧
    CallH Tryz.prog 18 ⟨[.agg (law5A1 a atp atc abp abc aap aac)]⟩ (law5H6 B a atp atc abp abc aap aac B1 b btp btc bbp bbc bap bac) [] w0 (fun v L' => ∃ (w : Fct) (wtp : Option Addr) (wtc : Nat) (wbp : Option Addr) (wbc : Nat) (wap : Option Addr) (wac : Nat) (F : SHeap), v = (.agg (law5A3 w wtp wtc wbp wbc wap wac)) ∧ L' = ((B, .cells (law5A1 a atp atc abp abc aap aac) 28) :: (B1, .cells (law5A2 b btp btc bbp bbc bap bac) 28) :: F) ∧
     ∀ B2 : Nat,
     CallH Tryz.prog 18 ⟨[.agg (law5A2 b btp btc bbp bbc bap bac)]⟩ (law5H7 B2 w wtp wtc wbp wbc wap wac B a atp atc abp abc aap aac B1 b btp btc bbp bbc bap bac F) [] w0 (fun v L' => ∃ (w1 : Fct) (w1tp : Option Addr) (w1tc : Nat) (w1bp : Option Addr) (w1bc : Nat) (w1ap : Option Addr) (w1ac : Nat) (F1 : SHeap), v = (.agg (law5A12 w1 w1tp w1tc w1bp w1bc w1ap w1ac)) ∧ L' = ((B2, .cells (law5A3 w wtp wtc wbp wbc wap wac) 28) :: (B, .cells (law5A1 a atp atc abp abc aap aac) 28) :: (B1, .cells (law5A2 b btp btc bbp bbc bap bac) 28) :: F1) ∧
      ∀ B3 : Nat,
      CallH Tryz.prog 26 ⟨[.agg (law5A3 w wtp wtc wbp wbc wap wac)]⟩ ((B3, .cells (law5A5 w w1 w1tp w1tc w1bp w1bc w1ap w1ac) 28) :: (B2, .cells (law5A3 w wtp wtc wbp wbc wap wac) 28) :: (B, .cells (law5A1 a atp atc abp abc aap aac) 28) :: (B1, .cells (law5A2 b btp btc bbp bbc bap bac) 28) :: F1) [] w0 (fun v L' => ∃ (z : Fct) (ztp : Option Addr) (ztc : Nat) (zbp : Option Addr) (zbc : Nat) (zap : Option Addr) (zac : Nat) (F2 : SHeap), v = (.agg (law5A7 z ztp ztc zbp zbc zap zac)) ∧ L' = ((B3, .cells (law5A5 w w1 w1tp w1tc w1bp w1bc w1ap w1ac) 28) :: (B2, .cells (law5A3 w wtp wtc wbp wbc wap wac) 28) :: (B, .cells (law5A1 a atp atc abp abc aap aac) 28) :: (B1, .cells (law5A2 b btp btc bbp bbc bap bac) 28) :: F2) ∧
       ∀ B4 : Nat,
       CallH Tryz.prog 26 ⟨[.agg (law5A5 w w1 w1tp w1tc w1bp w1bc w1ap w1ac)]⟩ (law5H5 B4 z ztp ztc zbp zbc zap zac B3 w w1 w1tp w1tc w1bp w1bc w1ap w1ac B2 wtp wtc wbp wbc wap wac B a atp atc abp abc aap aac B1 b btp btc bbp bbc bap bac F2) [] w0 (fun v L' => ∃ (z1 : Fct) (z1tp : Option Addr) (z1tc : Nat) (z1bp : Option Addr) (z1bc : Nat) (z1ap : Option Addr) (z1ac : Nat) (F3 : SHeap), v = (.agg (law5A11 z1 z1tp z1tc z1bp z1bc z1ap z1ac)) ∧ L' = ((B4, .cells (law5A7 z ztp ztc zbp zbc zap zac) 28) :: (B3, .cells (law5A5 w w1 w1tp w1tc w1bp w1bc w1ap w1ac) 28) :: (B2, .cells (law5A3 w wtp wtc wbp wbc wap wac) 28) :: (B, .cells (law5A1 a atp atc abp abc aap aac) 28) :: (B1, .cells (law5A2 b btp btc bbp bbc bap bac) 28) :: F3) ∧
        ∀ B5 : Nat,
        ((w.kind = (1 : Int)) →
         law5_c0 a atp atc abp abc aap aac b btp btc bbp bbc bap bac B2 B3 B4 B5 r1 true w wtp wtc wbp wbc wap wac ({ w1 with n := w.n, time := w.time, story := w.story } : Fct) w1tp w1tc w1bp w1bc w1ap w1ac z ztp ztc zbp zbc zap zac z1 z1tp z1tc z1bp z1bc z1ap z1ac F3 w0 R) ∧
         ((¬ (w.kind = (1 : Int))) →
         ((w.kind = (4 : Int)) →
          law5_c0 a atp atc abp abc aap aac b btp btc bbp bbc bap bac B2 B3 B4 B5 r1 true w wtp wtc wbp wbc wap wac ({ w1 with n := w.n, time := w.time, story := w.story } : Fct) w1tp w1tc w1bp w1bc w1ap w1ac z ztp ztc zbp zbc zap zac z1 z1tp z1tc z1bp z1bc z1ap z1ac F3 w0 R) ∧
          ((¬ (w.kind = (4 : Int))) →
          law5_c0 a atp atc abp abc aap aac b btp btc bbp bbc bap bac B2 B3 B4 B5 r1 (decide (w.kind = (5 : Int))) w wtp wtc wbp wbc wap wac ({ w1 with n := w.n, time := w.time, story := w.story } : Fct) w1tp w1tc w1bp w1bc w1ap w1ac z ztp ztc zbp zbc zap zac z1 z1tp z1tc z1bp z1bc z1ap z1ac F3 w0 R)))))))) :
  Calls Tryz.prog 8 ⟨[.agg (law5A1 a atp atc abp abc aap aac), .agg (law5A2 b btp btc bbp bbc bap bac)]⟩ W R := by
 refine AtE.calls (nt := 132) Tryz.func8 (by kernel_rfl) hm ?_
 refine AtE.ru 2 ?_
 refine AtE.new (fun B => .pointer (some ⟨B, 0, none⟩)) (.cells (law5A1 a atp atc abp abc aap aac) 28) (fun W => by kernel_rfl) (by kernel_rfl) (fun B => ?_)
 replace H := H B
 refine AtE.new (fun B => .pointer (some ⟨B, 0, none⟩)) (.cells (law5A2 b btp btc bbp bbc bap bac) 28) (fun W => by kernel_rfl) (by kernel_rfl) (fun B1 => ?_)
 replace H := H B1
 refine AtE.ru 4 ?_
 refine AtE.call 17 ⟨[]⟩ (fun W => by kernel_rfl) (by kernel_rfl) H ?_
 clear H
 rintro _ _ ⟨r1, rfl, rfl, H⟩
 refine AtE.ru 4 ?_
 refine AtE.load 0 0 (T := 28) (v := .agg (law5A1 a atp atc abp abc aap aac)) (by kernel_rfl) ?_
 refine AtE.call 18 ⟨[.agg (law5A1 a atp atc abp abc aap aac)]⟩ (fun W => by kernel_rfl) (by kernel_rfl) H ?_
 clear H
 rintro _ _ ⟨w, wtp, wtc, wbp, wbc, wap, wac, F, rfl, rfl, H⟩
 refine AtE.new (fun B => .pointer (some ⟨B, 0, none⟩)) (.cells law5A6 28) (fun W => by kernel_rfl) (by kernel_rfl) (fun B2 => ?_)
 replace H := H B2
 refine AtE.front ?_
 refine AtE.store 0 0 (T := 28) (v := .agg (law5A3 w wtp wtc wbp wbc wap wac)) (by kernel_rfl) ?_
 refine AtE.norm (k' := [.inRegion (regOps [.code (sub (Eng.body Tryz.f8) [1,1,0])]) [], .code (sub (Eng.body Tryz.f8) [1,1,1])]) (e' := [(3, .pointer (some ⟨B1, 0, none⟩)), (5, .bool r1), (6, .pointer (some ⟨B2, 0, none⟩))]) (L' := (law5H7 B2 w wtp wtc wbp wbc wap wac B a atp atc abp abc aap aac B1 b btp btc bbp bbc bap bac F)) ?_ (by kernel_rfl)
 refine AtE.ru 3 ?_
 refine AtE.load 2 0 (T := 28) (v := .agg (law5A2 b btp btc bbp bbc bap bac)) (by kernel_rfl) ?_
 refine AtE.call 18 ⟨[.agg (law5A2 b btp btc bbp bbc bap bac)]⟩ (fun W => by kernel_rfl) (by kernel_rfl) H ?_
 clear H
 rintro _ _ ⟨w1, w1tp, w1tc, w1bp, w1bc, w1ap, w1ac, F1, rfl, rfl, H⟩
 refine AtE.new (fun B => .pointer (some ⟨B, 0, none⟩)) (.cells law5A6 28) (fun W => by kernel_rfl) (by kernel_rfl) (fun B3 => ?_)
 replace H := H B3
 refine AtE.front ?_
 refine AtE.store 0 0 (T := 28) (v := .agg (law5A12 w1 w1tp w1tc w1bp w1bc w1ap w1ac)) (by kernel_rfl) ?_
 refine AtE.ru 4 ?_
 refine AtE.load 1 0 (T := 3) (v := .int .i64 w.n) (by kernel_rfl) ?_
 refine AtE.ru 1 ?_
 refine AtE.store 0 0 (T := 3) (v := .int .i64 w.n) (by kernel_rfl) ?_
 refine AtE.ru 4 ?_
 refine AtE.load 1 1 (T := 3) (v := .int .i64 w.time) (by kernel_rfl) ?_
 refine AtE.norm (k' := [.inRegion (regOps [.code (sub (Eng.body Tryz.f8) [1,1,1,1,1,0])]) [2,3], .code (sub (Eng.body Tryz.f8) [1,1,1,1,1,1])]) (e' := [(5, .bool r1), (6, .pointer (some ⟨B2, 0, none⟩)), (7, .pointer (some ⟨B3, 0, none⟩)), (21, .int .i64 w.time)]) (L' := ((B3, .cells #[.int .i64 w.n, .int .i64 w1.time, .int .i64 w1.kind, .int .i64 w1.story, .string w1.lang, .int .i64 w1.rev, .int .i64 w1.base, .string w1.title, .string w1.author, .slice w1tp w1.topics.length w1tc, .slice w1bp w1.blocks.length w1bc, .int .i64 w1.lab.unt, .slice w1ap w1.lab.after.length w1ac, .int .i64 w1.lab.appr, .int .i64 w1.lab.den, .int .i64 w1.editor, .int .i64 w1.block, .int .i64 w1.sentence, .string w1.text, .string w1.name, .int .i64 w1.partner, .int .i64 w1.cls, .int .i64 w1.unt] 28) :: (B2, .cells (law5A3 w wtp wtc wbp wbc wap wac) 28) :: (B, .cells (law5A1 a atp atc abp abc aap aac) 28) :: (B1, .cells (law5A2 b btp btc bbp bbc bap bac) 28) :: F1)) ?_ (by kernel_rfl)
 refine AtE.ru 1 ?_
 refine AtE.store 0 1 (T := 3) (v := .int .i64 w.time) (by kernel_rfl) ?_
 refine AtE.ru 4 ?_
 refine AtE.load 1 3 (T := 3) (v := .int .i64 w.story) (by kernel_rfl) ?_
 refine AtE.ru 1 ?_
 refine AtE.store 0 3 (T := 3) (v := .int .i64 w.story) (by kernel_rfl) ?_
 refine AtE.ru 3 ?_
 refine AtE.load 1 0 (T := 28) (v := .agg (law5A3 w wtp wtc wbp wbc wap wac)) (by kernel_rfl) ?_
 refine AtE.call 26 ⟨[.agg (law5A3 w wtp wtc wbp wbc wap wac)]⟩ (fun W => by kernel_rfl) (by kernel_rfl) H ?_
 clear H
 rintro _ _ ⟨z, ztp, ztc, zbp, zbc, zap, zac, F2, rfl, rfl, H⟩
 refine AtE.new (fun B => .pointer (some ⟨B, 0, none⟩)) (.cells law5A6 28) (fun W => by kernel_rfl) (by kernel_rfl) (fun B4 => ?_)
 replace H := H B4
 refine AtE.front ?_
 refine AtE.store 0 0 (T := 28) (v := .agg (law5A7 z ztp ztc zbp zbc zap zac)) (by kernel_rfl) ?_
 refine AtE.norm (k' := [.inRegion (regOps [.code (sub (Eng.body Tryz.f8) [1,1,1,1,1,1,1,0])]) [], .code (sub (Eng.body Tryz.f8) [1,1,1,1,1,1,1,1])]) (e' := [(5, .bool r1), (6, .pointer (some ⟨B2, 0, none⟩)), (7, .pointer (some ⟨B3, 0, none⟩)), (8, .pointer (some ⟨B4, 0, none⟩))]) (L' := (law5H5 B4 z ztp ztc zbp zbc zap zac B3 w w1 w1tp w1tc w1bp w1bc w1ap w1ac B2 wtp wtc wbp wbc wap wac B a atp atc abp abc aap aac B1 b btp btc bbp bbc bap bac F2)) ?_ (by kernel_rfl)
 refine AtE.ru 3 ?_
 refine AtE.load 1 0 (T := 28) (v := .agg (law5A5 w w1 w1tp w1tc w1bp w1bc w1ap w1ac)) (by kernel_rfl) ?_
 refine AtE.call 26 ⟨[.agg (law5A5 w w1 w1tp w1tc w1bp w1bc w1ap w1ac)]⟩ (fun W => by kernel_rfl) (by kernel_rfl) H ?_
 clear H
 rintro _ _ ⟨z1, z1tp, z1tc, z1bp, z1bc, z1ap, z1ac, F3, rfl, rfl, H⟩
 refine AtE.new (fun B => .pointer (some ⟨B, 0, none⟩)) (.cells law5A6 28) (fun W => by kernel_rfl) (by kernel_rfl) (fun B5 => ?_)
 replace H := H B5
 refine AtE.front ?_
 refine AtE.store 0 0 (T := 28) (v := .agg (law5A11 z1 z1tp z1tc z1bp z1bc z1ap z1ac)) (by kernel_rfl) ?_
 refine AtE.ru 4 ?_
 refine AtE.load 3 2 (T := 3) (v := .int .i64 w.kind) (by kernel_rfl) ?_
 refine AtE.ru 2 ?_
 refine AtE.splitP 33 (p := w.kind = (1 : Int)) (by kernel_rfl) (fun h1' => ?_) (fun h1' => ?_)
 ·replace H := H.1 h1'
  refine AtE.ru 11 ?_
  exact AtE.cutT [3,2,1,0] 6 H (by kernel_rfl)
 ·replace H := H.2 h1'
  refine AtE.ru 1 ?_
  refine AtE.load 3 2 (T := 3) (v := .int .i64 w.kind) (by kernel_rfl) ?_
  refine AtE.norm (k' := [.inRegion (regOps [.code (sub (Eng.body Tryz.f8) [1,1,1,1,1,1,1,1,1,0])]) [6,7,8,9,10,11,12,13], .code (sub (Eng.body Tryz.f8) [1,1,1,1,1,1,1,1,1,1])]) (e' := [(5, .bool r1), (6, .pointer (some ⟨B2, 0, none⟩)), (7, .pointer (some ⟨B3, 0, none⟩)), (8, .pointer (some ⟨B4, 0, none⟩)), (9, .pointer (some ⟨B5, 0, none⟩)), (33, .bool false), (35, .int .i64 w.kind)]) (L' := ((B5, .cells (law5A11 z1 z1tp z1tc z1bp z1bc z1ap z1ac) 28) :: (B4, .cells (law5A7 z ztp ztc zbp zbc zap zac) 28) :: (B3, .cells (law5A5 w w1 w1tp w1tc w1bp w1bc w1ap w1ac) 28) :: (B2, .cells (law5A3 w wtp wtc wbp wbc wap wac) 28) :: (B, .cells (law5A1 a atp atc abp abc aap aac) 28) :: (B1, .cells (law5A2 b btp btc bbp bbc bap bac) 28) :: F3)) ?_ (by kernel_rfl)
  refine AtE.ru 3 ?_
  refine AtE.splitP 38 (p := w.kind = (4 : Int)) (by kernel_rfl) (fun h2' => ?_) (fun h2' => ?_)
  ·replace H := H.1 h2'
   refine AtE.ru 6 ?_
   exact AtE.cutT [3,2,1,0] 6 H (by kernel_rfl)
  ·replace H := H.2 h2'
   refine AtE.ru 1 ?_
   refine AtE.load 3 2 (T := 3) (v := .int .i64 w.kind) (by kernel_rfl) ?_
   refine AtE.ru 4 ?_
   exact AtE.cutT [3,2,1,0] 6 H (by kernel_rfl)
end Go.Eng
namespace Go.Eng
open Go Go.RowKit Go.Proofs Wire
set_option linter.unusedVariables false
theorem gone_ok {f : Fct} (h : f.ok = true) (hk : aboutB f.kind = true) : (goneF f).ok = true := by
  have hk := of_decide_eq_true hk
  rw [Fct.ok] at h ⊢
  simp only [Bool.and_eq_true, decide_eq_true_eq] at h ⊢
  refine ⟨h.1, ?_, rfl⟩
  have hv := h.2.1
  have hs : f.stOk = true := by
    unfold Fct.vals at hv
    rcases hk with e | e | e <;> · rw [e] at hv; simp at hv; simp [hv]
  unfold Fct.vals
  have e10 : (goneF f).kind = 10 := rfl
  rw [e10]
  simp
  exact hs
theorem red_ok {f : Fct} (h : f.ok = true) : (redF f).ok = true := by
  cases hk : aboutB f.kind with
  | true => rw [redF, if_pos hk]; exact gone_ok h hk
  | false => rw [redF, if_neg (by rw [hk]; decide)]; exact h
theorem red_red (f : Fct) : redF (redF f) = redF f := by
  cases hk : aboutB f.kind with
  | true =>
    have e : redF f = goneF f := if_pos hk
    rw [e]
    exact if_neg (show ¬ aboutB 10 = true by decide)
  | false =>
    have e : redF f = f := if_neg (by rw [hk]; decide)
    rw [e, e]
theorem few_small (f : Fct) : (fewF f).Small :=
  ⟨by show (f.topics.take 6).length ≤ 100; rw [List.length_take]; omega, by rw [fewF_len]; omega, by show (f.lab.after.take 70).length ≤ 100; rw [List.length_take]; omega, fun b hb => by
    obtain ⟨b', _, rfl⟩ := List.mem_map.1 hb
    show (b'.lab.after.take 70).length ≤ 100
    rw [List.length_take]; omega⟩
theorem red_small {f : Fct} (h : f.Small) : (redF f).Small := by
  cases hk : aboutB f.kind with
  | true => rw [redF, if_pos hk]; exact ⟨Nat.zero_le 100, Nat.zero_le 100, Nat.zero_le 100, fun b hb => absurd hb (by simp [goneF])⟩
  | false => rw [redF, if_neg (by rw [hk]; decide)]; exact h
theorem CallH.red {w0 : World} {f : Fct} {tp bp ap : Option Addr} {tc bc ac : Nat} {K : Value → SHeap → Prop} (told : SHeap) {T : SHeap} (h : FAt (lkU T (lkW w0)) f tp tc bp bc ap ac) (hs : f.Small)
    (hK : ∀ tp' tc' bp' bc' ap' ac' F', FAt (lkU (F' ++ T) (lkW w0)) (redF f) tp' tc' bp' bc' ap' ac' → K (.agg ⟨(redF f).cells tp' tc' bp' bc' ap' ac'⟩) (told ++ (F' ++ T))) : CallH Tryz.prog 26 ⟨[.agg ⟨f.cells tp tc bp bc ap ac⟩]⟩ (told ++ T) [] w0 K := by
  refine CallH.effW (L0 := []) (L1 := told ++ T) (redact_e h hs) (fun W hm => lkU_W hm fun x hx => List.mem_append_right _ hx) (List.Perm.refl _) ?_
  rintro _ F' ⟨tp', tc', bp', bc', ap', ac', rfl, hw⟩
  refine ⟨told ++ (F' ++ T), List.perm_append_comm_assoc _ _ _, hK _ _ _ _ _ _ _ (hw.mono ?_)⟩
  rintro b c (hb | hb)
  · exact .inl (lkF_appl b c hb)
  · exact lkU_mono (fun x hx => List.mem_append_right _ hx) b c hb
abbrev R5 (w0 : World) : Ending → World → Prop := fun e W' => e = .returned (.bool true) ∧ Below w0.heap.size w0 W'
theorem law5_3 {w0 : World} {a b f g : Fct} {a1 a3 a5 b1 b3 b5 x1 x3 x5 y1 y3 y5 : Option Addr} {a2 a4 a6 b2 b4 b6 x2 x4 x6 y2 y4 y6 : Nat} {B1 B2 : Nat} {T : SHeap} {one two : Bool} (h1 : one = aboutB f.kind) (h2 : two = aboutB g.kind)
    (hn : g.n = f.n ∧ g.time = f.time ∧ g.story = f.story) (hx : FAt (lkU T (lkW w0)) (redF f) x1 x2 x3 x4 x5 x6) (hy : FAt (lkU T (lkW w0)) (redF g) y1 y2 y3 y4 y5 y6) :
    law5_c3 a a1 a2 a3 a4 a5 a6 b b1 b2 b3 b4 b5 b6 B1 B2 true one two (redF f) x1 x2 x3 x4 x5 x6 (redF g) y1 y2 y3 y4 y5 y6 T w0 (R5 w0) := by
  apply law5_c3_vc
  refine tt rfl ⟨fun h3 => ⟨fun h4 => ?_, fun _ => finPW rfl⟩, fun _ => finPW rfl⟩
  refine CallH.pw (fun W' hm' => fSame_c (hx.mono (lkU_W hm' fun x hx => by simp [hx])) (hy.mono (lkU_W hm' fun x hx => by simp [hx]))) ⟨_, rfl, rfl, finPW ?_⟩
  have e : redF f = redF g := by
    rw [redF, if_pos (h1 ▸ h3), redF, if_pos (h2 ▸ h4), goneF, goneF, hn.1, hn.2.1, hn.2.2]
  rw [e]; simp
theorem law5_2 {w0 : World} {a b f g : Fct} {a1 a3 a5 b1 b3 b5 f1 f3 f5 x1 x3 x5 y1 y3 y5 : Option Addr} {a2 a4 a6 b2 b4 b6 f2 f4 f6 x2 x4 x6 y2 y4 y6 : Nat} {B1 B2 B3 : Nat} {T : SHeap} {one two : Bool} (h1 : one = aboutB f.kind) (h2 : two = aboutB g.kind)
    (hn : g.n = f.n ∧ g.time = f.time ∧ g.story = f.story) (hx : FAt (lkU T (lkW w0)) (redF f) x1 x2 x3 x4 x5 x6) (hy : FAt (lkU T (lkW w0)) (redF g) y1 y2 y3 y4 y5 y6) :
    law5_c2 a a1 a2 a3 a4 a5 a6 b b1 b2 b3 b4 b5 b6 B1 B2 B3 true one two f f1 f2 f3 f4 f5 f6 (redF f) x1 x2 x3 x4 x5 x6 (redF g) y1 y2 y3 y4 y5 y6 T w0 (R5 w0) := by
  apply law5_c2_vc
  refine ⟨fun h3 => ?_, fun _ => law5_3 h1 h2 hn hx hy⟩
  have e : redF f = goneF f := if_pos (h1 ▸ h3)
  exact yes' (by rw [e]; rfl) (yes' (by rw [e]; rfl) (yes' (by rw [e]; rfl) (yes' (by rw [e]; rfl) (yes' (by rw [e]; rfl) (no (by rw [e]; exact show ¬ (0 : Int) < ((0 : Nat) : Int) by decide) (law5_3 h1 h2 hn hx hy))))))
theorem law5_1 {w0 : World} {a b f g : Fct} {a1 a3 a5 b1 b3 b5 f1 f3 f5 x1 x3 x5 y1 y3 y5 : Option Addr} {a2 a4 a6 b2 b4 b6 f2 f4 f6 x2 x4 x6 y2 y4 y6 : Nat} {B1 B2 B3 : Nat} {T : SHeap} {one two : Bool} (h1 : one = aboutB f.kind) (h2 : two = aboutB g.kind)
    (hn : g.n = f.n ∧ g.time = f.time ∧ g.story = f.story) (hf : FAt (lkU T (lkW w0)) f f1 f2 f3 f4 f5 f6) (hx : FAt (lkU T (lkW w0)) (redF f) x1 x2 x3 x4 x5 x6) (hy : FAt (lkU T (lkW w0)) (redF g) y1 y2 y3 y4 y5 y6) (hs : f.Small) :
    law5_c1 a a1 a2 a3 a4 a5 a6 b b1 b2 b3 b4 b5 b6 B1 B2 B3 true one two f f1 f2 f3 f4 f5 f6 (redF f) x1 x2 x3 x4 x5 x6 (redF g) y1 y2 y3 y4 y5 y6 T w0 (R5 w0) := by
  apply law5_c1_vc
  refine CallH.red [_, _, _] hx (red_small hs) fun z1 z2 z3 z4 z5 z6 F' hz => ⟨redF (redF f), z1, z2, z3, z4, z5, z6, _, rfl, rfl, ?_⟩
  have hf := hf.mono (lkU_mono (F' := F' ++ T) fun x hx => List.mem_append_right _ hx)
  have hx := hx.mono (lkU_mono (F' := F' ++ T) fun x hx => List.mem_append_right _ hx)
  have hy := hy.mono (lkU_mono (F' := F' ++ T) fun x hx => List.mem_append_right _ hx)
  refine CallH.pw (fun W' hm' => fSame_c (hz.mono (lkU_W hm' fun x hx => List.mem_cons_of_mem _ (List.mem_cons_of_mem _ (List.mem_cons_of_mem _ hx)))) (hx.mono (lkU_W hm' fun x hx => List.mem_cons_of_mem _ (List.mem_cons_of_mem _ (List.mem_cons_of_mem _ hx))))) ⟨_, rfl, rfl, tt (by rw [red_red]; simp) ?_⟩
  have next : ((one = true) → law5_c2 a a1 a2 a3 a4 a5 a6 b b1 b2 b3 b4 b5 b6 B1 B2 B3 true one two f f1 f2 f3 f4 f5 f6 (redF f) x1 x2 x3 x4 x5 x6 (redF g) y1 y2 y3 y4 y5 y6 (F' ++ T) w0 (R5 w0)) := fun _ => law5_2 h1 h2 hn hx hy
  have fx : one = false → redF f = f := fun h0 => if_neg (by rw [← h1, h0]; decide)
  refine CallH.pw (fun W' hm' => fValid_c (hf.mono (lkU_W hm' fun x hx => List.mem_cons_of_mem _ (List.mem_cons_of_mem _ (List.mem_cons_of_mem _ hx))))) ⟨_, rfl, rfl, fun hv => ?_, fun hv => ⟨next, fun h0 => ?_⟩⟩
  · refine CallH.pw (fun W' hm' => fValid_c (hx.mono (lkU_W hm' fun x hx => List.mem_cons_of_mem _ (List.mem_cons_of_mem _ (List.mem_cons_of_mem _ hx))))) ⟨_, rfl, rfl, tt (red_ok hv) ⟨next, fun h0 => ?_⟩⟩
    exact CallH.pw (fun W' hm' => fSame_c (hx.mono (lkU_W hm' fun x hx => List.mem_cons_of_mem _ (List.mem_cons_of_mem _ (List.mem_cons_of_mem _ hx)))) (hf.mono (lkU_W hm' fun x hx => List.mem_cons_of_mem _ (List.mem_cons_of_mem _ (List.mem_cons_of_mem _ hx))))) ⟨_, rfl, rfl, tt (decide_eq_true (fx h0)) (law5_2 h1 h2 hn hx hy)⟩
  · exact CallH.pw (fun W' hm' => fSame_c (hx.mono (lkU_W hm' fun x hx => List.mem_cons_of_mem _ (List.mem_cons_of_mem _ (List.mem_cons_of_mem _ hx)))) (hf.mono (lkU_W hm' fun x hx => List.mem_cons_of_mem _ (List.mem_cons_of_mem _ (List.mem_cons_of_mem _ hx))))) ⟨_, rfl, rfl, tt (decide_eq_true (fx h0)) (law5_2 h1 h2 hn hx hy)⟩
theorem about_split {k : Int} {A : Bool → Prop} (h : A (aboutB k)) : ((k = (1 : Int)) → A true) ∧ ((¬ (k = (1 : Int))) → ((k = (4 : Int)) → A true) ∧ ((¬ (k = (4 : Int))) → A (decide (k = (5 : Int))))) := by
  refine ⟨fun h1 => ?_, fun h1 => ⟨fun h4 => ?_, fun h4 => ?_⟩⟩
  · rwa [show aboutB k = true from decide_eq_true (.inl h1)] at h
  · rwa [show aboutB k = true from decide_eq_true (.inr (.inl h4))] at h
  · rwa [show aboutB k = decide (k = 5) by rw [aboutB, decide_eq_decide]; exact ⟨fun hh => by omega, fun hh => .inr (.inr hh)⟩] at h
abbrev mixF (f b : Fct) : Fct := { b with n := f.n, time := f.time, story := f.story }
theorem law5_0 {w0 : World} {a b f g : Fct} {a1 a3 a5 b1 b3 b5 f1 f3 f5 g1 g3 g5 x1 x3 x5 y1 y3 y5 : Option Addr} {a2 a4 a6 b2 b4 b6 f2 f4 f6 g2 g4 g6 x2 x4 x6 y2 y4 y6 : Nat} {B1 B2 B3 B4 : Nat} {T : SHeap} {one : Bool} (h1 : one = aboutB f.kind)
    (hn : g.n = f.n ∧ g.time = f.time ∧ g.story = f.story) (hf : FAt (lkU T (lkW w0)) f f1 f2 f3 f4 f5 f6) (hx : FAt (lkU T (lkW w0)) (redF f) x1 x2 x3 x4 x5 x6) (hy : FAt (lkU T (lkW w0)) (redF g) y1 y2 y3 y4 y5 y6) (hs : f.Small) :
    law5_c0 a a1 a2 a3 a4 a5 a6 b b1 b2 b3 b4 b5 b6 B1 B2 B3 B4 true one f f1 f2 f3 f4 f5 f6 g g1 g2 g3 g4 g5 g6 (redF f) x1 x2 x3 x4 x5 x6 (redF g) y1 y2 y3 y4 y5 y6 T w0 (R5 w0) := by
  apply law5_c0_vc
  exact about_split (k := g.kind) (A := fun two => law5_c1 a a1 a2 a3 a4 a5 a6 b b1 b2 b3 b4 b5 b6 B1 B3 B4 true one two f f1 f2 f3 f4 f5 f6 (redF f) x1 x2 x3 x4 x5 x6 (redF g) y1 y2 y3 y4 y5 y6 T w0 (R5 w0)) (law5_1 h1 rfl hn hf hx hy hs)
theorem fact5 {W : World} {a b : Fct} {tp bp ap up cp dp : Option Addr} {tc bc ac uc cc dc : Nat} (h : FArg (lkW W) a tp tc bp bc ap ac) (hb : FArg (lkW W) b up uc cp cc dp dc) :
    PW Tryz.prog 8 ⟨[.agg ⟨a.cells tp tc bp bc ap ac⟩, .agg ⟨b.cells up uc cp cc dp dc⟩]⟩ W (.bool true) := by
  refine law5_vc a tp tc bp bc ap ac b up uc cp cc dp dc (Mem.start [] W) fun B B1 => CallH.pure sane_c5 ⟨_, rfl, rfl, ?_⟩
  refine CallH.few [_, _] (F := []) h fun w1 w2 w3 w4 w5 w6 F hw => ⟨fewF a, w1, w2, w3, w4, w5, w6, _, rfl, rfl, fun B2 => ?_⟩
  refine CallH.few [_, _, _] hb fun x1 x2 x3 x4 x5 x6 F1 hx => ⟨fewF b, x1, x2, x3, x4, x5, x6, _, rfl, rfl, fun B3 => ?_⟩
  have hf : FAt (lkU (F1 ++ (F ++ [])) (lkW W)) (fewF a) w1 w2 w3 w4 w5 w6 := hw.mono (lkU_mono fun x hx => by simp [hx])
  have hg0 : FAt (lkU (F1 ++ (F ++ [])) (lkW W)) (fewF b) x1 x2 x3 x4 x5 x6 := hx.mono (lkU_mono fun x hx => by simp [hx])
  have hg : FAt (lkU (F1 ++ (F ++ [])) (lkW W)) (mixF (fewF a) (fewF b)) x1 x2 x3 x4 x5 x6 := ⟨hg0.tops, hg0.blks, hg0.ints, hg0.ct, hg0.cb, hg0.ca, hg0.fits⟩
  have sg : (mixF (fewF a) (fewF b)).Small := ⟨(few_small b).tops, (few_small b).blks, (few_small b).ints, (few_small b).each⟩
  have hs := few_small a
  generalize F1 ++ (F ++ []) = T at *
  refine CallH.red [_, _, _, _] hf hs fun y1 y2 y3 y4 y5 y6 F2 hy => ⟨redF (fewF a), y1, y2, y3, y4, y5, y6, _, rfl, rfl, fun B4 => ?_⟩
  have hf := hf.mono (lkU_mono (F' := F2 ++ T) fun x hx => List.mem_append_right _ hx)
  have hg := hg.mono (lkU_mono (F' := F2 ++ T) fun x hx => List.mem_append_right _ hx)
  generalize F2 ++ T = T' at *
  refine CallH.red (f := mixF (fewF a) (fewF b)) [_, _, _, _, _] hg sg fun z1 z2 z3 z4 z5 z6 F3 hz => ⟨redF (mixF (fewF a) (fewF b)), z1, z2, z3, z4, z5, z6, _, rfl, rfl, fun B5 => ?_⟩
  have hf := hf.mono (lkU_mono (F' := F3 ++ T') fun x hx => List.mem_append_right _ hx)
  have hy := hy.mono (lkU_mono (F' := F3 ++ T') fun x hx => List.mem_append_right _ hx)
  exact about_split (k := (fewF a).kind) (A := fun one => law5_c0 a tp tc bp bc ap ac b up uc cp cc dp dc B2 B3 B4 B5 true one (fewF a) w1 w2 w3 w4 w5 w6 (mixF (fewF a) (fewF b)) x1 x2 x3 x4 x5 x6 (redF (fewF a)) y1 y2 y3 y4 y5 y6 (redF (mixF (fewF a) (fewF b))) z1 z2 z3 z4 z5 z6 (F3 ++ T') W (R5 W)) (law5_0 rfl ⟨rfl, rfl, rfl⟩ hf hy hz hs)
end Go.Eng
