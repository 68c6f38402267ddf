/- A part of the proof: the engine by which functions are walked, verification conditions that a program of the prover wrote, contracts and plain laws; no claim of its own. -/
import Derived.Test.YtombejccmojjbaaGreatDoorChecked
import Derived.Test.YtombejccmojjbaaGreatDoorFieF
namespace Go.Eng
open Go Go.RowKit Go.Proofs
set_option linter.unusedVariables false
set_option maxRecDepth 100000
abbrev few5A0 : Array Value := #[.int .i64 (0 : Int), .int .i64 (0 : Int), .int .i64 (0 : Int), .int .i64 (0 : Int), .string (⟨#[]⟩), .int .i64 (0 : Int), .int .i64 (0 : Int), .string (⟨#[]⟩), .string (⟨#[]⟩), .slice none 0 0, .slice none 0 0, .int .i64 (0 : Int), .slice none 0 0, .int .i64 (0 : Int), .int .i64 (0 : Int), .int .i64 (0 : Int), .int .i64 (0 : Int), .int .i64 (0 : Int), .string (⟨#[]⟩), .string (⟨#[]⟩), .int .i64 (0 : Int), .int .i64 (0 : Int), .int .i64 (0 : Int)]
abbrev few5A1 (f : Fct) (m91_p : Option Addr) (m91_l : Nat) (m91_c : Nat) (B9 : Nat) (l_l : Nat) (l_c : Nat) (m121_p : Option Addr) (m121_l : Nat) (m121_c : Nat) : Array Value := #[.int .i64 f.n, .int .i64 f.time, .int .i64 f.kind, .int .i64 f.story, .string f.lang, .int .i64 f.rev, .int .i64 f.base, .string (f.title.extract 0 (Int.toNat (if (400 : Int) < (f.title.size : Int) then (400 : Int) else (f.title.size : Int)))), .string f.author, .slice m91_p m91_l m91_c, .slice (some ⟨B9, 0, none⟩) l_l l_c, .int .i64 f.lab.unt, .slice m121_p m121_l m121_c, .int .i64 f.lab.appr, .int .i64 f.lab.den, .int .i64 f.editor, .int .i64 f.block, .int .i64 f.sentence, .string (f.text.extract 0 (Int.toNat (if (1200 : Int) < (f.text.size : Int) then (1200 : Int) else (f.text.size : Int)))), .string f.name, .int .i64 f.partner, .int .i64 f.cls, .int .i64 f.unt]
abbrev few5A2 (f : Fct) (m9_p : Option Addr) (m9_l : Nat) (m9_c : Nat) (m12_p : Option Addr) (m12_l : Nat) (m12_c : Nat) : Array Value := #[.int .i64 f.n, .int .i64 f.time, .int .i64 f.kind, .int .i64 f.story, .string f.lang, .int .i64 f.rev, .int .i64 f.base, .string (f.title.extract 0 (Int.toNat (if (400 : Int) < (f.title.size : Int) then (400 : Int) else (f.title.size : Int)))), .string f.author, .slice m9_p m9_l m9_c, .slice none 0 0, .int .i64 f.lab.unt, .slice m12_p m12_l m12_c, .int .i64 f.lab.appr, .int .i64 f.lab.den, .int .i64 f.editor, .int .i64 f.block, .int .i64 f.sentence, .string (f.text.extract 0 (Int.toNat (if (1200 : Int) < (f.text.size : Int) then (1200 : Int) else (f.text.size : Int)))), .string f.name, .int .i64 f.partner, .int .i64 f.cls, .int .i64 f.unt]
abbrev few5A3 (f : Fct) (m9_p : Option Addr) (m9_l : Nat) (m9_c : Nat) (m10_p : Option Addr) (m10_l : Nat) (m10_c : Nat) (m12_p : Option Addr) (m12_l : Nat) (m12_c : Nat) : Array Value := #[.int .i64 f.n, .int .i64 f.time, .int .i64 f.kind, .int .i64 f.story, .string f.lang, .int .i64 f.rev, .int .i64 f.base, .string f.title, .string f.author, .slice m9_p m9_l m9_c, .slice m10_p m10_l m10_c, .int .i64 f.lab.unt, .slice m12_p m12_l m12_c, .int .i64 f.lab.appr, .int .i64 f.lab.den, .int .i64 f.editor, .int .i64 f.block, .int .i64 f.sentence, .string f.text, .string f.name, .int .i64 f.partner, .int .i64 f.cls, .int .i64 f.unt]
abbrev few5A4 (f : Fct) (m91_p : Option Addr) (m91_l : Nat) (m91_c : Nat) (m101_p : Option Addr) (m101_l : Nat) (m101_c : Nat) (m121_p : Option Addr) (m121_l : Nat) (m121_c : Nat) : Array Value := #[.int .i64 f.n, .int .i64 f.time, .int .i64 f.kind, .int .i64 f.story, .string f.lang, .int .i64 f.rev, .int .i64 f.base, .string f.title, .string f.author, .slice m91_p m91_l m91_c, .slice m101_p m101_l m101_c, .int .i64 f.lab.unt, .slice m121_p m121_l m121_c, .int .i64 f.lab.appr, .int .i64 f.lab.den, .int .i64 f.editor, .int .i64 f.block, .int .i64 f.sentence, .string f.text, .string f.name, .int .i64 f.partner, .int .i64 f.cls, .int .i64 f.unt]
abbrev few5A5 : Array Value := #[.int .i64 (0 : Int), .int .i64 (0 : Int), .string (⟨#[]⟩), .int .i64 (0 : Int), .int .i64 (0 : Int), .int .i64 (0 : Int), .slice none 0 0, .int .i64 (0 : Int), .int .i64 (0 : Int)]
abbrev few5A6 (f : Fct) (ftp : Option Addr) (ftc : Nat) (fbp : Option Addr) (fbc : Nat) (fap : Option Addr) (fac : Nat) : Array Value := #[.int .i64 f.n, .int .i64 f.time, .int .i64 f.kind, .int .i64 f.story, .string f.lang, .int .i64 f.rev, .int .i64 f.base, .string f.title, .string f.author, .slice ftp f.topics.length ftc, .slice fbp f.blocks.length fbc, .int .i64 f.lab.unt, .slice fap f.lab.after.length fac, .int .i64 f.lab.appr, .int .i64 f.lab.den, .int .i64 f.editor, .int .i64 f.block, .int .i64 f.sentence, .string f.text, .string f.name, .int .i64 f.partner, .int .i64 f.cls, .int .i64 f.unt]
abbrev few5A7 (m21 : Blk) (m21p : Option Addr) (m21c : Nat) : Array Value := #[.int .i64 m21.id, .int .i64 m21.kind, .string (m21.text.extract 0 (Int.toNat (if (400 : Int) < (m21.text.size : Int) then (400 : Int) else (m21.text.size : Int)))), .int .i64 m21.story, .int .i64 m21.ref, .int .i64 m21.lab.unt, .slice m21p (Int.toNat (if (70 : Int) < (m21.lab.after.length : Int) then (70 : Int) else (m21.lab.after.length : Int))) m21c, .int .i64 m21.lab.appr, .int .i64 m21.lab.den]
abbrev few5A8 (m1 : Blk) (m1p : Option Addr) (m1c : Nat) : Array Value := #[.int .i64 m1.id, .int .i64 m1.kind, .string (m1.text.extract 0 (Int.toNat (if (400 : Int) < (m1.text.size : Int) then (400 : Int) else (m1.text.size : Int)))), .int .i64 m1.story, .int .i64 m1.ref, .int .i64 m1.lab.unt, .slice m1p (Int.toNat (if (70 : Int) < (m1.lab.after.length : Int) then (70 : Int) else (m1.lab.after.length : Int))) m1c, .int .i64 m1.lab.appr, .int .i64 m1.lab.den]
abbrev few5A9 (m21 : Blk) (m21p : Option Addr) (m21c : Nat) : Array Value := #[.int .i64 m21.id, .int .i64 m21.kind, .string m21.text, .int .i64 m21.story, .int .i64 m21.ref, .int .i64 m21.lab.unt, .slice m21p m21.lab.after.length m21c, .int .i64 m21.lab.appr, .int .i64 m21.lab.den]
abbrev few5A10 (m1 : Blk) (m1p : Option Addr) (m1c : Nat) : Array Value := #[.int .i64 m1.id, .int .i64 m1.kind, .string m1.text, .int .i64 m1.story, .int .i64 m1.ref, .int .i64 m1.lab.unt, .slice m1p m1.lab.after.length m1c, .int .i64 m1.lab.appr, .int .i64 m1.lab.den]
def few5_c0 (f : Fct) (ftp : Option Addr) (ftc : Nat) (fbp : Option Addr) (fbc : Nat) (fap : Option Addr) (fac : Nat) (B2 : Nat) (B3 : Nat) (i : Int) (m9_p : Option Addr) (m9_l : Nat) (m9_c : Nat) (m10_p : Option Addr) (m10_l : Nat) (m10_c : Nat) (m12_p : Option Addr) (m12_l : Nat) (m12_c : Nat) (w0 : World) (R : Ending → World → Prop) : Prop :=
 AtE Tryz.prog 18 87 [.code (sub (Eng.body Tryz.f18) [1,1,1,1,1,0,1,0,0]), .inLoop (sub (Eng.body Tryz.f18) [1,1,1,1,1,0,1,0,0]), .inBlock 0, .code (sub (Eng.body Tryz.f18) [1,1,1,1,1,1])] [(1, .pointer (some ⟨B2, 0, none⟩)), (2, .pointer (some ⟨B3, 0, none⟩)), (3, .slice none 0 0), (4, .int .i64 i)] [(B2, .cells (few5A3 f m9_p m9_l m9_c m10_p m10_l m10_c m12_p m12_l m12_c) 28), (B3, .cells few5A0 28)] [] w0 (nrm R)
def few5_c1 (f : Fct) (ftp : Option Addr) (ftc : Nat) (fbp : Option Addr) (fbc : Nat) (fap : Option Addr) (fac : Nat) (B7 : Nat) (B8 : Nat) (B9 : Nat) (l_l : Nat) (l_c : Nat) (i2 : Int) (m91_p : Option Addr) (m91_l : Nat) (m91_c : Nat) (m101_p : Option Addr) (m101_l : Nat) (m101_c : Nat) (m121_p : Option Addr) (m121_l : Nat) (m121_c : Nat) (cs : List Value) (w0 : World) (R : Ending → World → Prop) : Prop :=
 AtE Tryz.prog 18 87 [.code (sub (Eng.body Tryz.f18) [1,1,1,1,1,0,1,0,0]), .inLoop (sub (Eng.body Tryz.f18) [1,1,1,1,1,0,1,0,0]), .inBlock 0, .code (sub (Eng.body Tryz.f18) [1,1,1,1,1,1])] [(1, .pointer (some ⟨B7, 0, none⟩)), (2, .pointer (some ⟨B8, 0, none⟩)), (3, .slice (some ⟨B9, 0, none⟩) l_l l_c), (4, .int .i64 i2)] [(B7, .cells (few5A4 f m91_p m91_l m91_c m101_p m101_l m101_c m121_p m121_l m121_c) 28), (B8, .cells few5A0 28), (B9, .cells ⟨cs⟩ 89)] [] w0 (nrm R)
theorem few5_c0_vc (f : Fct) (ftp : Option Addr) (ftc : Nat) (fbp : Option Addr) (fbc : Nat) (fap : Option Addr) (fac : Nat) (B2 : Nat) (B3 : Nat) (i : Int) (m9_p : Option Addr) (m9_l : Nat) (m9_c : Nat) (m10_p : Option Addr) (m10_l : Nat) (m10_c : Nat) (m12_p : Option Addr) (m12_l : Nat) (m12_c : Nat) {R : Ending → World → Prop} {w0 : World}
  (H :
   ((i < (m10_l : Int)) →
    ∃ m10_pb m10_po : Nat, m10_p = some ⟨m10_pb, m10_po, none⟩ ∧ (0 ≤ i ∧ i < m10_l) ∧
    ∃ (cw : List Value) (m1 : Blk) (m1p : Option Addr) (m1c : Nat), blkW w0 m10_pb = some cw ∧ ((cw.drop (m10_po + ((Int.toNat i) * 9))).take 9 = [.int .i64 m1.id, .int .i64 m1.kind, .string m1.text, .int .i64 m1.story, .int .i64 m1.ref, .int .i64 m1.lab.unt, .slice m1p m1.lab.after.length m1c, .int .i64 m1.lab.appr, .int .i64 m1.lab.den] ∧ (m10_po + ((Int.toNat i) * 9)) + 9 ≤ cw.length) ∧
    ∀ B4 : Nat,
    (0 ≤ (0 : Int) ∧ (0 : Int) ≤ (if (400 : Int) < (m1.text.size : Int) then (400 : Int) else (m1.text.size : Int)) ∧ (if (400 : Int) < (m1.text.size : Int) then (400 : Int) else (m1.text.size : Int)) ≤ m1.text.size) ∧
    (0 ≤ (if (70 : Int) < (m1.lab.after.length : Int) then (70 : Int) else (m1.lab.after.length : Int)) ∧ (if (70 : Int) < (m1.lab.after.length : Int) then (70 : Int) else (m1.lab.after.length : Int)) ≤ (m1c : Int)) ∧
    ∀ B5 : Nat,
    ∀ (B6 cap : Nat) (r : List Value), 1 ≤ cap → (([.int .i64 m1.id, .int .i64 m1.kind, .string (m1.text.extract 0 (Int.toNat (if (400 : Int) < (m1.text.size : Int) then (400 : Int) else (m1.text.size : Int)))), .int .i64 m1.story, .int .i64 m1.ref, .int .i64 m1.lab.unt, .slice m1p (Int.toNat (if (70 : Int) < (m1.lab.after.length : Int) then (70 : Int) else (m1.lab.after.length : Int))) m1c, .int .i64 m1.lab.appr, .int .i64 m1.lab.den] : List Value) ++ r).length = cap * 9 →
    ∀ i1 : Int, i1 = (IntKind.i64.wrap (i + (1 : Int))) →
    few5_c1 f ftp ftc fbp fbc fap fac B2 B3 B6 1 cap i1 m9_p m9_l m9_c m10_p m10_l m10_c m12_p m12_l m12_c (([.int .i64 m1.id, .int .i64 m1.kind, .string (m1.text.extract 0 (Int.toNat (if (400 : Int) < (m1.text.size : Int) then (400 : Int) else (m1.text.size : Int)))), .int .i64 m1.story, .int .i64 m1.ref, .int .i64 m1.lab.unt, .slice m1p (Int.toNat (if (70 : Int) < (m1.lab.after.length : Int) then (70 : Int) else (m1.lab.after.length : Int))) m1c, .int .i64 m1.lab.appr, .int .i64 m1.lab.den] : List Value) ++ r) w0 R) ∧
    ((¬ (i < (m10_l : Int))) →
    (0 ≤ (0 : Int) ∧ (0 : Int) ≤ (if (400 : Int) < (f.title.size : Int) then (400 : Int) else (f.title.size : Int)) ∧ (if (400 : Int) < (f.title.size : Int) then (400 : Int) else (f.title.size : Int)) ≤ f.title.size) ∧
    (0 ≤ (0 : Int) ∧ (0 : Int) ≤ (if (1200 : Int) < (f.text.size : Int) then (1200 : Int) else (f.text.size : Int)) ∧ (if (1200 : Int) < (f.text.size : Int) then (1200 : Int) else (f.text.size : Int)) ≤ f.text.size) ∧
    Fin R [(B2, .cells (few5A2 f m9_p m9_l m9_c m12_p m12_l m12_c) 28), (B3, .cells (few5A2 f m9_p m9_l m9_c m12_p m12_l m12_c) 28)] [] w0 (.agg (few5A2 f m9_p m9_l m9_c m12_p m12_l m12_c)))) :
  few5_c0 f ftp ftc fbp fbc fap fac B2 B3 i m9_p m9_l m9_c m10_p m10_l m10_c m12_p m12_l m12_c w0 R := by
 unfold few5_c0
 refine AtE.ru 5 ?_
 refine AtE.load 0 10 (T := 23) (v := .slice m10_p m10_l m10_c) (by kernel_rfl) ?_
 refine AtE.ru 3 ?_
 refine AtE.splitP 37 (p := i < (m10_l : Int)) (by kernel_rfl) (fun h1' => ?_) (fun h1' => ?_)
 ·replace H := H.1 h1'
  refine AtE.ru 7 ?_
  refine AtE.load 0 10 (T := 23) (v := .slice m10_p m10_l m10_c) (by kernel_rfl) ?_
  refine AtE.ru 1 ?_
  obtain ⟨m10_pb, m10_po, hp, H⟩ := H
  refine AtE.indexAddrP (E := 89) (p := m10_p) (b := m10_pb) (o := m10_po) (len := m10_l) (cap := m10_c) (sz := 9) (o' := (m10_po + ((Int.toNat i) * 9))) (kd := .i64) (i := i) hp (by kernel_rfl) H.1 (by omega) ?_
  replace H := H.2
  obtain ⟨cw, m1, m1p, m1c, hw, hx, H⟩ := H
  refine AtE.loadW (b := m10_pb) (off := (m10_po + ((Int.toNat i) * 9))) (T := 89) (v := .agg (few5A10 m1 m1p m1c)) (by kernel_rfl) List.not_mem_nil hw (valAt_agg hx.1 hx.2 (by kernel_rfl) (by kernel_rfl)) ?_
  refine AtE.new (fun B => .pointer (some ⟨B, 0, none⟩)) (.cells few5A5 89) (fun W => by kernel_rfl) (by kernel_rfl) (fun B4 => ?_)
  replace H := H B4
  refine AtE.store 2 0 (T := 89) (v := .agg (few5A10 m1 m1p m1c)) (by kernel_rfl) ?_
  refine AtE.norm (k' := [.inRegion (regOps [.code (sub (Eng.body Tryz.f18) [1,1,1,1,1,0,1,0,0,1,0,0,0])]) [], .code (sub (Eng.body Tryz.f18) [1,1,1,1,1,0,1,0,0,1,0,0,1]), .inBlock 1, .code (sub (Eng.body Tryz.f18) [1,1,1,1,1,0,1,0,0,1,1]), .inLoop (sub (Eng.body Tryz.f18) [1,1,1,1,1,0,1,0,0]), .inBlock 0, .code (sub (Eng.body Tryz.f18) [1,1,1,1,1,1])]) (e' := [(1, .pointer (some ⟨B2, 0, none⟩)), (2, .pointer (some ⟨B3, 0, none⟩)), (3, .slice none 0 0), (4, .int .i64 i), (5, .pointer (some ⟨B4, 0, none⟩))]) (L' := [(B2, .cells (few5A3 f m9_p m9_l m9_c m10_p m10_l m10_c m12_p m12_l m12_c) 28), (B3, .cells few5A0 28), (B4, .cells (few5A10 m1 m1p m1c) 89)]) ?_ (by kernel_rfl)
  refine AtE.ru 4 ?_
  refine AtE.load 2 2 (T := 9) (v := .string m1.text) (by kernel_rfl) ?_
  refine AtE.ru 1 ?_
  refine AtE.load 2 2 (T := 9) (v := .string m1.text) (by kernel_rfl) ?_
  refine AtE.ru 2 ?_
  refine AtE.sliceS (s := m1.text) (lo := none) (hi := some (.int .i64 (if (400 : Int) < (m1.text.size : Int) then (400 : Int) else (m1.text.size : Int)))) (a := (0 : Int)) (b := (if (400 : Int) < (m1.text.size : Int) then (400 : Int) else (m1.text.size : Int))) (by kernel_rfl) (.inr ⟨rfl, rfl⟩) (.inl ⟨.i64, rfl⟩) H.1 ?_
  replace H := H.2
  refine AtE.ru 1 ?_
  refine AtE.store 2 2 (T := 9) (v := .string (m1.text.extract 0 (Int.toNat (if (400 : Int) < (m1.text.size : Int) then (400 : Int) else (m1.text.size : Int))))) (by kernel_rfl) ?_
  refine AtE.ru 5 ?_
  refine AtE.load 2 6 (T := 24) (v := .slice m1p m1.lab.after.length m1c) (by kernel_rfl) ?_
  refine AtE.ru 2 ?_
  refine AtE.load 2 6 (T := 24) (v := .slice m1p m1.lab.after.length m1c) (by kernel_rfl) ?_
  refine AtE.ru 2 ?_
  refine AtE.sliceU (E := 3) (p := m1p) (len := m1.lab.after.length) (cap := m1c) (sz := 1) (lo := none) (hi := some (.int .i64 (if (70 : Int) < (m1.lab.after.length : Int) then (70 : Int) else (m1.lab.after.length : Int)))) (y := (if (70 : Int) < (m1.lab.after.length : Int) then (70 : Int) else (m1.lab.after.length : Int))) (by kernel_rfl) (.inr rfl) (.inl ⟨.i64, rfl⟩) H.1 ?_
  replace H := H.2
  refine AtE.norm (k' := [.inRegion (regOps [.code (sub (Eng.body Tryz.f18) [1,1,1,1,1,0,1,0,0,1,0,0,1,1,0])]) [9,10,11], .code (sub (Eng.body Tryz.f18) [1,1,1,1,1,0,1,0,0,1,0,0,1,1,1]), .inBlock 1, .code (sub (Eng.body Tryz.f18) [1,1,1,1,1,0,1,0,0,1,1]), .inLoop (sub (Eng.body Tryz.f18) [1,1,1,1,1,0,1,0,0]), .inBlock 0, .code (sub (Eng.body Tryz.f18) [1,1,1,1,1,1])]) (e' := [(1, .pointer (some ⟨B2, 0, none⟩)), (2, .pointer (some ⟨B3, 0, none⟩)), (3, .slice none 0 0), (4, .int .i64 i), (5, .pointer (some ⟨B4, 0, none⟩)), (61, .slice m1p (Int.toNat (if (70 : Int) < (m1.lab.after.length : Int) then (70 : Int) else (m1.lab.after.length : Int))) m1c)]) (L' := [(B2, .cells (few5A3 f m9_p m9_l m9_c m10_p m10_l m10_c m12_p m12_l m12_c) 28), (B3, .cells few5A0 28), (B4, .cells #[.int .i64 m1.id, .int .i64 m1.kind, .string (m1.text.extract 0 (Int.toNat (if (400 : Int) < (m1.text.size : Int) then (400 : Int) else (m1.text.size : Int)))), .int .i64 m1.story, .int .i64 m1.ref, .int .i64 m1.lab.unt, .slice m1p m1.lab.after.length m1c, .int .i64 m1.lab.appr, .int .i64 m1.lab.den] 89)]) ?_ (by kernel_rfl)
  refine AtE.ru 2 ?_
  refine AtE.store 2 6 (T := 24) (v := .slice m1p (Int.toNat (if (70 : Int) < (m1.lab.after.length : Int) then (70 : Int) else (m1.lab.after.length : Int))) m1c) (by kernel_rfl) ?_
  refine AtE.ru 3 ?_
  refine AtE.load 2 0 (T := 89) (v := .agg (few5A8 m1 m1p m1c)) (by kernel_rfl) ?_
  refine AtE.new (fun B => .slice (some ⟨B, 0, none⟩) 1 1) (.cells (few5A8 m1 m1p m1c) 89) (fun W => by kernel_rfl) (by kernel_rfl) (fun B5 => ?_)
  replace H := H B5
  refine AtE.appendN (T := 23) (E := 89) (z := .agg few5A5) (sz := 9) (bytes := 96) (a := ⟨B5, 0, none⟩) (m := 1) (c := 1) ([.int .i64 m1.id, .int .i64 m1.kind, .string (m1.text.extract 0 (Int.toNat (if (400 : Int) < (m1.text.size : Int) then (400 : Int) else (m1.text.size : Int)))), .int .i64 m1.story, .int .i64 m1.ref, .int .i64 m1.lab.unt, .slice m1p (Int.toNat (if (70 : Int) < (m1.lab.after.length : Int) then (70 : Int) else (m1.lab.after.length : Int))) m1c, .int .i64 m1.lab.appr, .int .i64 m1.lab.den] : List Value) (by kernel_rfl) (show Src _ _ _ _ ([.int .i64 m1.id, .int .i64 m1.kind, .string (m1.text.extract 0 (Int.toNat (if (400 : Int) < (m1.text.size : Int) then (400 : Int) else (m1.text.size : Int)))), .int .i64 m1.story, .int .i64 m1.ref, .int .i64 m1.lab.unt, .slice m1p (Int.toNat (if (70 : Int) < (m1.lab.after.length : Int) then (70 : Int) else (m1.lab.after.length : Int))) m1c, .int .i64 m1.lab.appr, .int .i64 m1.lab.den] : List Value) from Src.own (j := 3) (o := 0) (n := 9) (c := ([.int .i64 m1.id, .int .i64 m1.kind, .string (m1.text.extract 0 (Int.toNat (if (400 : Int) < (m1.text.size : Int) then (400 : Int) else (m1.text.size : Int)))), .int .i64 m1.story, .int .i64 m1.ref, .int .i64 m1.lab.unt, .slice m1p (Int.toNat (if (70 : Int) < (m1.lab.after.length : Int) then (70 : Int) else (m1.lab.after.length : Int))) m1c, .int .i64 m1.lab.appr, .int .i64 m1.lab.den] : List Value)) (by kernel_rfl)) (by simp) (by omega) (by omega) (fun B6 cap r h1 h2 => ?_)
  replace H := H B6 cap r h1 h2
  refine AtE.ru 7 ?_
  refine AtE.letI 4 (kd := .i64) (n := (IntKind.i64.wrap (i + (1 : Int)))) (by kernel_rfl) (fun i1 hi1 => ?_)
  replace H := H i1 hi1
  refine AtE.ru 2 ?_
  exact AtE.cut [0,1,4] H (by kernel_rfl)
 ·replace H := H.2 h1'
  refine AtE.ru 6 ?_
  refine AtE.store 0 10 (T := 23) (v := .slice none 0 0) (by kernel_rfl) ?_
  refine AtE.ru 4 ?_
  refine AtE.load 0 7 (T := 9) (v := .string f.title) (by kernel_rfl) ?_
  refine AtE.ru 1 ?_
  refine AtE.load 0 7 (T := 9) (v := .string f.title) (by kernel_rfl) ?_
  refine AtE.ru 2 ?_
  refine AtE.sliceS (s := f.title) (lo := none) (hi := some (.int .i64 (if (400 : Int) < (f.title.size : Int) then (400 : Int) else (f.title.size : Int)))) (a := (0 : Int)) (b := (if (400 : Int) < (f.title.size : Int) then (400 : Int) else (f.title.size : Int))) (by kernel_rfl) (.inr ⟨rfl, rfl⟩) (.inl ⟨.i64, rfl⟩) H.1 ?_
  replace H := H.2
  refine AtE.ru 1 ?_
  refine AtE.store 0 7 (T := 9) (v := .string (f.title.extract 0 (Int.toNat (if (400 : Int) < (f.title.size : Int) then (400 : Int) else (f.title.size : Int))))) (by kernel_rfl) ?_
  refine AtE.norm (k' := [.inRegion (regOps [.code (sub (Eng.body Tryz.f18) [1,1,1,1,1,1,1,0])]) [], .code (sub (Eng.body Tryz.f18) [1,1,1,1,1,1,1,1])]) (e' := [(1, .pointer (some ⟨B2, 0, none⟩)), (2, .pointer (some ⟨B3, 0, none⟩))]) (L' := [(B2, .cells #[.int .i64 f.n, .int .i64 f.time, .int .i64 f.kind, .int .i64 f.story, .string f.lang, .int .i64 f.rev, .int .i64 f.base, .string (f.title.extract 0 (Int.toNat (if (400 : Int) < (f.title.size : Int) then (400 : Int) else (f.title.size : Int)))), .string f.author, .slice m9_p m9_l m9_c, .slice none 0 0, .int .i64 f.lab.unt, .slice m12_p m12_l m12_c, .int .i64 f.lab.appr, .int .i64 f.lab.den, .int .i64 f.editor, .int .i64 f.block, .int .i64 f.sentence, .string f.text, .string f.name, .int .i64 f.partner, .int .i64 f.cls, .int .i64 f.unt] 28), (B3, .cells few5A0 28)]) ?_ (by kernel_rfl)
  refine AtE.ru 4 ?_
  refine AtE.load 0 18 (T := 9) (v := .string f.text) (by kernel_rfl) ?_
  refine AtE.ru 1 ?_
  refine AtE.load 0 18 (T := 9) (v := .string f.text) (by kernel_rfl) ?_
  refine AtE.ru 2 ?_
  refine AtE.sliceS (s := f.text) (lo := none) (hi := some (.int .i64 (if (1200 : Int) < (f.text.size : Int) then (1200 : Int) else (f.text.size : Int)))) (a := (0 : Int)) (b := (if (1200 : Int) < (f.text.size : Int) then (1200 : Int) else (f.text.size : Int))) (by kernel_rfl) (.inr ⟨rfl, rfl⟩) (.inl ⟨.i64, rfl⟩) H.1 ?_
  replace H := H.2
  refine AtE.ru 1 ?_
  refine AtE.store 0 18 (T := 9) (v := .string (f.text.extract 0 (Int.toNat (if (1200 : Int) < (f.text.size : Int) then (1200 : Int) else (f.text.size : Int))))) (by kernel_rfl) ?_
  refine AtE.ru 3 ?_
  refine AtE.load 0 0 (T := 28) (v := .agg (few5A2 f m9_p m9_l m9_c m12_p m12_l m12_c)) (by kernel_rfl) ?_
  refine AtE.store 1 0 (T := 28) (v := .agg (few5A2 f m9_p m9_l m9_c m12_p m12_l m12_c)) (by kernel_rfl) ?_
  refine AtE.ru 1 ?_
  exact AtE.retC 1 0 (a := 2) (T := 28) (v := .agg (few5A2 f m9_p m9_l m9_c m12_p m12_l m12_c)) Tryz.func18 (by kernel_rfl) (by kernel_rfl) H
theorem few5_c1_vc (f : Fct) (ftp : Option Addr) (ftc : Nat) (fbp : Option Addr) (fbc : Nat) (fap : Option Addr) (fac : Nat) (B7 : Nat) (B8 : Nat) (B9 : Nat) (l_l : Nat) (l_c : Nat) (i2 : Int) (m91_p : Option Addr) (m91_l : Nat) (m91_c : Nat) (m101_p : Option Addr) (m101_l : Nat) (m101_c : Nat) (m121_p : Option Addr) (m121_l : Nat) (m121_c : Nat) (cs : List Value) {R : Ending → World → Prop} {w0 : World}
  (H :
   ((i2 < (m101_l : Int)) →
    ∃ m101_pb m101_po : Nat, m101_p = some ⟨m101_pb, m101_po, none⟩ ∧ (0 ≤ i2 ∧ i2 < m101_l) ∧
    ∃ (cw1 : List Value) (m21 : Blk) (m21p : Option Addr) (m21c : Nat), blkW w0 m101_pb = some cw1 ∧ ((cw1.drop (m101_po + ((Int.toNat i2) * 9))).take 9 = [.int .i64 m21.id, .int .i64 m21.kind, .string m21.text, .int .i64 m21.story, .int .i64 m21.ref, .int .i64 m21.lab.unt, .slice m21p m21.lab.after.length m21c, .int .i64 m21.lab.appr, .int .i64 m21.lab.den] ∧ (m101_po + ((Int.toNat i2) * 9)) + 9 ≤ cw1.length) ∧
    ∀ B10 : Nat,
    (0 ≤ (0 : Int) ∧ (0 : Int) ≤ (if (400 : Int) < (m21.text.size : Int) then (400 : Int) else (m21.text.size : Int)) ∧ (if (400 : Int) < (m21.text.size : Int) then (400 : Int) else (m21.text.size : Int)) ≤ m21.text.size) ∧
    (0 ≤ (if (70 : Int) < (m21.lab.after.length : Int) then (70 : Int) else (m21.lab.after.length : Int)) ∧ (if (70 : Int) < (m21.lab.after.length : Int) then (70 : Int) else (m21.lab.after.length : Int)) ≤ (m21c : Int)) ∧
    ∀ B11 : Nat,
    (l_l ≤ l_c ∧ (cs).length = l_c * 9) ∧ ((l_l + 1) ≤ 9223372036854775807 ∧ (l_l + 1) * 96 ≤ 140737488355328) ∧
    ∀ (B12 cap1 : Nat) (r1 : List Value), (l_l + 1) ≤ cap1 → ((cs).take (l_l * 9) ++ ([.int .i64 m21.id, .int .i64 m21.kind, .string (m21.text.extract 0 (Int.toNat (if (400 : Int) < (m21.text.size : Int) then (400 : Int) else (m21.text.size : Int)))), .int .i64 m21.story, .int .i64 m21.ref, .int .i64 m21.lab.unt, .slice m21p (Int.toNat (if (70 : Int) < (m21.lab.after.length : Int) then (70 : Int) else (m21.lab.after.length : Int))) m21c, .int .i64 m21.lab.appr, .int .i64 m21.lab.den] : List Value) ++ r1).length = cap1 * 9 →
    ∀ i3 : Int, i3 = (IntKind.i64.wrap (i2 + (1 : Int))) →
    few5_c1 f ftp ftc fbp fbc fap fac B7 B8 B12 (l_l + 1) cap1 i3 m91_p m91_l m91_c m101_p m101_l m101_c m121_p m121_l m121_c ((cs).take (l_l * 9) ++ ([.int .i64 m21.id, .int .i64 m21.kind, .string (m21.text.extract 0 (Int.toNat (if (400 : Int) < (m21.text.size : Int) then (400 : Int) else (m21.text.size : Int)))), .int .i64 m21.story, .int .i64 m21.ref, .int .i64 m21.lab.unt, .slice m21p (Int.toNat (if (70 : Int) < (m21.lab.after.length : Int) then (70 : Int) else (m21.lab.after.length : Int))) m21c, .int .i64 m21.lab.appr, .int .i64 m21.lab.den] : List Value) ++ r1) w0 R) ∧
    ((¬ (i2 < (m101_l : Int))) →
    (0 ≤ (0 : Int) ∧ (0 : Int) ≤ (if (400 : Int) < (f.title.size : Int) then (400 : Int) else (f.title.size : Int)) ∧ (if (400 : Int) < (f.title.size : Int) then (400 : Int) else (f.title.size : Int)) ≤ f.title.size) ∧
    (0 ≤ (0 : Int) ∧ (0 : Int) ≤ (if (1200 : Int) < (f.text.size : Int) then (1200 : Int) else (f.text.size : Int)) ∧ (if (1200 : Int) < (f.text.size : Int) then (1200 : Int) else (f.text.size : Int)) ≤ f.text.size) ∧
    Fin R [(B7, .cells (few5A1 f m91_p m91_l m91_c B9 l_l l_c m121_p m121_l m121_c) 28), (B8, .cells (few5A1 f m91_p m91_l m91_c B9 l_l l_c m121_p m121_l m121_c) 28), (B9, .cells ⟨cs⟩ 89)] [] w0 (.agg (few5A1 f m91_p m91_l m91_c B9 l_l l_c m121_p m121_l m121_c)))) :
  few5_c1 f ftp ftc fbp fbc fap fac B7 B8 B9 l_l l_c i2 m91_p m91_l m91_c m101_p m101_l m101_c m121_p m121_l m121_c cs w0 R := by
 unfold few5_c1
 refine AtE.ru 5 ?_
 refine AtE.load 0 10 (T := 23) (v := .slice m101_p m101_l m101_c) (by kernel_rfl) ?_
 refine AtE.ru 3 ?_
 refine AtE.splitP 37 (p := i2 < (m101_l : Int)) (by kernel_rfl) (fun h2' => ?_) (fun h2' => ?_)
 ·replace H := H.1 h2'
  refine AtE.ru 7 ?_
  refine AtE.load 0 10 (T := 23) (v := .slice m101_p m101_l m101_c) (by kernel_rfl) ?_
  refine AtE.ru 1 ?_
  obtain ⟨m101_pb, m101_po, hp, H⟩ := H
  refine AtE.indexAddrP (E := 89) (p := m101_p) (b := m101_pb) (o := m101_po) (len := m101_l) (cap := m101_c) (sz := 9) (o' := (m101_po + ((Int.toNat i2) * 9))) (kd := .i64) (i := i2) hp (by kernel_rfl) H.1 (by omega) ?_
  replace H := H.2
  obtain ⟨cw1, m21, m21p, m21c, hw, hx, H⟩ := H
  refine AtE.loadW (b := m101_pb) (off := (m101_po + ((Int.toNat i2) * 9))) (T := 89) (v := .agg (few5A9 m21 m21p m21c)) (by kernel_rfl) List.not_mem_nil hw (valAt_agg hx.1 hx.2 (by kernel_rfl) (by kernel_rfl)) ?_
  refine AtE.new (fun B => .pointer (some ⟨B, 0, none⟩)) (.cells few5A5 89) (fun W => by kernel_rfl) (by kernel_rfl) (fun B10 => ?_)
  replace H := H B10
  refine AtE.store 3 0 (T := 89) (v := .agg (few5A9 m21 m21p m21c)) (by kernel_rfl) ?_
  refine AtE.norm (k' := [.inRegion (regOps [.code (sub (Eng.body Tryz.f18) [1,1,1,1,1,0,1,0,0,1,0,0,0])]) [], .code (sub (Eng.body Tryz.f18) [1,1,1,1,1,0,1,0,0,1,0,0,1]), .inBlock 1, .code (sub (Eng.body Tryz.f18) [1,1,1,1,1,0,1,0,0,1,1]), .inLoop (sub (Eng.body Tryz.f18) [1,1,1,1,1,0,1,0,0]), .inBlock 0, .code (sub (Eng.body Tryz.f18) [1,1,1,1,1,1])]) (e' := [(1, .pointer (some ⟨B7, 0, none⟩)), (2, .pointer (some ⟨B8, 0, none⟩)), (3, .slice (some ⟨B9, 0, none⟩) l_l l_c), (4, .int .i64 i2), (5, .pointer (some ⟨B10, 0, none⟩))]) (L' := [(B7, .cells (few5A4 f m91_p m91_l m91_c m101_p m101_l m101_c m121_p m121_l m121_c) 28), (B8, .cells few5A0 28), (B9, .cells ⟨cs⟩ 89), (B10, .cells (few5A9 m21 m21p m21c) 89)]) ?_ (by kernel_rfl)
  refine AtE.ru 4 ?_
  refine AtE.load 3 2 (T := 9) (v := .string m21.text) (by kernel_rfl) ?_
  refine AtE.ru 1 ?_
  refine AtE.load 3 2 (T := 9) (v := .string m21.text) (by kernel_rfl) ?_
  refine AtE.ru 2 ?_
  refine AtE.sliceS (s := m21.text) (lo := none) (hi := some (.int .i64 (if (400 : Int) < (m21.text.size : Int) then (400 : Int) else (m21.text.size : Int)))) (a := (0 : Int)) (b := (if (400 : Int) < (m21.text.size : Int) then (400 : Int) else (m21.text.size : Int))) (by kernel_rfl) (.inr ⟨rfl, rfl⟩) (.inl ⟨.i64, rfl⟩) H.1 ?_
  replace H := H.2
  refine AtE.ru 1 ?_
  refine AtE.store 3 2 (T := 9) (v := .string (m21.text.extract 0 (Int.toNat (if (400 : Int) < (m21.text.size : Int) then (400 : Int) else (m21.text.size : Int))))) (by kernel_rfl) ?_
  refine AtE.ru 5 ?_
  refine AtE.load 3 6 (T := 24) (v := .slice m21p m21.lab.after.length m21c) (by kernel_rfl) ?_
  refine AtE.ru 2 ?_
  refine AtE.load 3 6 (T := 24) (v := .slice m21p m21.lab.after.length m21c) (by kernel_rfl) ?_
  refine AtE.ru 2 ?_
  refine AtE.sliceU (E := 3) (p := m21p) (len := m21.lab.after.length) (cap := m21c) (sz := 1) (lo := none) (hi := some (.int .i64 (if (70 : Int) < (m21.lab.after.length : Int) then (70 : Int) else (m21.lab.after.length : Int)))) (y := (if (70 : Int) < (m21.lab.after.length : Int) then (70 : Int) else (m21.lab.after.length : Int))) (by kernel_rfl) (.inr rfl) (.inl ⟨.i64, rfl⟩) H.1 ?_
  replace H := H.2
  refine AtE.norm (k' := [.inRegion (regOps [.code (sub (Eng.body Tryz.f18) [1,1,1,1,1,0,1,0,0,1,0,0,1,1,0])]) [9,10,11], .code (sub (Eng.body Tryz.f18) [1,1,1,1,1,0,1,0,0,1,0,0,1,1,1]), .inBlock 1, .code (sub (Eng.body Tryz.f18) [1,1,1,1,1,0,1,0,0,1,1]), .inLoop (sub (Eng.body Tryz.f18) [1,1,1,1,1,0,1,0,0]), .inBlock 0, .code (sub (Eng.body Tryz.f18) [1,1,1,1,1,1])]) (e' := [(1, .pointer (some ⟨B7, 0, none⟩)), (2, .pointer (some ⟨B8, 0, none⟩)), (3, .slice (some ⟨B9, 0, none⟩) l_l l_c), (4, .int .i64 i2), (5, .pointer (some ⟨B10, 0, none⟩)), (61, .slice m21p (Int.toNat (if (70 : Int) < (m21.lab.after.length : Int) then (70 : Int) else (m21.lab.after.length : Int))) m21c)]) (L' := [(B7, .cells (few5A4 f m91_p m91_l m91_c m101_p m101_l m101_c m121_p m121_l m121_c) 28), (B8, .cells few5A0 28), (B9, .cells ⟨cs⟩ 89), (B10, .cells #[.int .i64 m21.id, .int .i64 m21.kind, .string (m21.text.extract 0 (Int.toNat (if (400 : Int) < (m21.text.size : Int) then (400 : Int) else (m21.text.size : Int)))), .int .i64 m21.story, .int .i64 m21.ref, .int .i64 m21.lab.unt, .slice m21p m21.lab.after.length m21c, .int .i64 m21.lab.appr, .int .i64 m21.lab.den] 89)]) ?_ (by kernel_rfl)
  refine AtE.ru 2 ?_
  refine AtE.store 3 6 (T := 24) (v := .slice m21p (Int.toNat (if (70 : Int) < (m21.lab.after.length : Int) then (70 : Int) else (m21.lab.after.length : Int))) m21c) (by kernel_rfl) ?_
  refine AtE.ru 3 ?_
  refine AtE.load 3 0 (T := 89) (v := .agg (few5A7 m21 m21p m21c)) (by kernel_rfl) ?_
  refine AtE.new (fun B => .slice (some ⟨B, 0, none⟩) 1 1) (.cells (few5A7 m21 m21p m21c) 89) (fun W => by kernel_rfl) (by kernel_rfl) (fun B11 => ?_)
  replace H := H B11
  refine AtE.appendO 2 (T := 23) (E := 89) (z := .agg few5A5) (sz := 9) (bytes := 96) (n := l_l) (cap := l_c) (a := ⟨B11, 0, none⟩) (m := 1) (c := 1) (cs := cs) ([.int .i64 m21.id, .int .i64 m21.kind, .string (m21.text.extract 0 (Int.toNat (if (400 : Int) < (m21.text.size : Int) then (400 : Int) else (m21.text.size : Int)))), .int .i64 m21.story, .int .i64 m21.ref, .int .i64 m21.lab.unt, .slice m21p (Int.toNat (if (70 : Int) < (m21.lab.after.length : Int) then (70 : Int) else (m21.lab.after.length : Int))) m21c, .int .i64 m21.lab.appr, .int .i64 m21.lab.den] : List Value) (by kernel_rfl) (show Src _ _ _ _ ([.int .i64 m21.id, .int .i64 m21.kind, .string (m21.text.extract 0 (Int.toNat (if (400 : Int) < (m21.text.size : Int) then (400 : Int) else (m21.text.size : Int)))), .int .i64 m21.story, .int .i64 m21.ref, .int .i64 m21.lab.unt, .slice m21p (Int.toNat (if (70 : Int) < (m21.lab.after.length : Int) then (70 : Int) else (m21.lab.after.length : Int))) m21c, .int .i64 m21.lab.appr, .int .i64 m21.lab.den] : List Value) from Src.own (j := 4) (o := 0) (n := 9) (c := ([.int .i64 m21.id, .int .i64 m21.kind, .string (m21.text.extract 0 (Int.toNat (if (400 : Int) < (m21.text.size : Int) then (400 : Int) else (m21.text.size : Int)))), .int .i64 m21.story, .int .i64 m21.ref, .int .i64 m21.lab.unt, .slice m21p (Int.toNat (if (70 : Int) < (m21.lab.after.length : Int) then (70 : Int) else (m21.lab.after.length : Int))) m21c, .int .i64 m21.lab.appr, .int .i64 m21.lab.den] : List Value)) (by kernel_rfl)) (by simp) (by simp [Value.oneCell']) H.1 H.2.1 (fun B12 cap1 r1 h1 h2 => ?_)
  replace H := H.2.2 B12 cap1 r1 h1 h2
  refine AtE.ru 7 ?_
  refine AtE.letI 4 (kd := .i64) (n := (IntKind.i64.wrap (i2 + (1 : Int)))) (by kernel_rfl) (fun i3 hi3 => ?_)
  replace H := H i3 hi3
  refine AtE.ru 2 ?_
  exact AtE.cut [0,1,4] H (by kernel_rfl)
 ·replace H := H.2 h2'
  refine AtE.ru 6 ?_
  refine AtE.store 0 10 (T := 23) (v := .slice (some ⟨B9, 0, none⟩) l_l l_c) (by kernel_rfl) ?_
  refine AtE.ru 4 ?_
  refine AtE.load 0 7 (T := 9) (v := .string f.title) (by kernel_rfl) ?_
  refine AtE.ru 1 ?_
  refine AtE.load 0 7 (T := 9) (v := .string f.title) (by kernel_rfl) ?_
  refine AtE.ru 2 ?_
  refine AtE.sliceS (s := f.title) (lo := none) (hi := some (.int .i64 (if (400 : Int) < (f.title.size : Int) then (400 : Int) else (f.title.size : Int)))) (a := (0 : Int)) (b := (if (400 : Int) < (f.title.size : Int) then (400 : Int) else (f.title.size : Int))) (by kernel_rfl) (.inr ⟨rfl, rfl⟩) (.inl ⟨.i64, rfl⟩) H.1 ?_
  replace H := H.2
  refine AtE.ru 1 ?_
  refine AtE.store 0 7 (T := 9) (v := .string (f.title.extract 0 (Int.toNat (if (400 : Int) < (f.title.size : Int) then (400 : Int) else (f.title.size : Int))))) (by kernel_rfl) ?_
  refine AtE.norm (k' := [.inRegion (regOps [.code (sub (Eng.body Tryz.f18) [1,1,1,1,1,1,1,0])]) [], .code (sub (Eng.body Tryz.f18) [1,1,1,1,1,1,1,1])]) (e' := [(1, .pointer (some ⟨B7, 0, none⟩)), (2, .pointer (some ⟨B8, 0, none⟩))]) (L' := [(B7, .cells #[.int .i64 f.n, .int .i64 f.time, .int .i64 f.kind, .int .i64 f.story, .string f.lang, .int .i64 f.rev, .int .i64 f.base, .string (f.title.extract 0 (Int.toNat (if (400 : Int) < (f.title.size : Int) then (400 : Int) else (f.title.size : Int)))), .string f.author, .slice m91_p m91_l m91_c, .slice (some ⟨B9, 0, none⟩) l_l l_c, .int .i64 f.lab.unt, .slice m121_p m121_l m121_c, .int .i64 f.lab.appr, .int .i64 f.lab.den, .int .i64 f.editor, .int .i64 f.block, .int .i64 f.sentence, .string f.text, .string f.name, .int .i64 f.partner, .int .i64 f.cls, .int .i64 f.unt] 28), (B8, .cells few5A0 28), (B9, .cells ⟨cs⟩ 89)]) ?_ (by kernel_rfl)
  refine AtE.ru 4 ?_
  refine AtE.load 0 18 (T := 9) (v := .string f.text) (by kernel_rfl) ?_
  refine AtE.ru 1 ?_
  refine AtE.load 0 18 (T := 9) (v := .string f.text) (by kernel_rfl) ?_
  refine AtE.ru 2 ?_
  refine AtE.sliceS (s := f.text) (lo := none) (hi := some (.int .i64 (if (1200 : Int) < (f.text.size : Int) then (1200 : Int) else (f.text.size : Int)))) (a := (0 : Int)) (b := (if (1200 : Int) < (f.text.size : Int) then (1200 : Int) else (f.text.size : Int))) (by kernel_rfl) (.inr ⟨rfl, rfl⟩) (.inl ⟨.i64, rfl⟩) H.1 ?_
  replace H := H.2
  refine AtE.ru 1 ?_
  refine AtE.store 0 18 (T := 9) (v := .string (f.text.extract 0 (Int.toNat (if (1200 : Int) < (f.text.size : Int) then (1200 : Int) else (f.text.size : Int))))) (by kernel_rfl) ?_
  refine AtE.ru 3 ?_
  refine AtE.load 0 0 (T := 28) (v := .agg (few5A1 f m91_p m91_l m91_c B9 l_l l_c m121_p m121_l m121_c)) (by kernel_rfl) ?_
  refine AtE.store 1 0 (T := 28) (v := .agg (few5A1 f m91_p m91_l m91_c B9 l_l l_c m121_p m121_l m121_c)) (by kernel_rfl) ?_
  refine AtE.ru 1 ?_
  exact AtE.retC 1 0 (a := 2) (T := 28) (v := .agg (few5A1 f m91_p m91_l m91_c B9 l_l l_c m121_p m121_l m121_c)) Tryz.func18 (by kernel_rfl) (by kernel_rfl) H
theorem few5_vc (f : Fct) (ftp : Option Addr) (ftc : Nat) (fbp : Option Addr) (fbc : Nat) (fap : Option Addr) (fac : Nat) {R : Ending → World → Prop} {w0 W : World} (hm : Mem [] [] w0 W)
  (H :
   ∀ B : Nat,
   ∀ B1 : Nat,
   (0 ≤ (if (6 : Int) < (f.topics.length : Int) then (6 : Int) else (f.topics.length : Int)) ∧ (if (6 : Int) < (f.topics.length : Int) then (6 : Int) else (f.topics.length : Int)) ≤ (ftc : Int)) ∧
   (0 ≤ (if (26 : Int) < (f.blocks.length : Int) then (26 : Int) else (f.blocks.length : Int)) ∧ (if (26 : Int) < (f.blocks.length : Int) then (26 : Int) else (f.blocks.length : Int)) ≤ (fbc : Int)) ∧
   (0 ≤ (if (70 : Int) < (f.lab.after.length : Int) then (70 : Int) else (f.lab.after.length : Int)) ∧ (if (70 : Int) < (f.lab.after.length : Int) then (70 : Int) else (f.lab.after.length : Int)) ≤ (fac : Int)) ∧
   few5_c0 f ftp ftc fbp fbc fap fac B B1 (0 : Int) ftp (Int.toNat (if (6 : Int) < (f.topics.length : Int) then (6 : Int) else (f.topics.length : Int))) ftc fbp (Int.toNat (if (26 : Int) < (f.blocks.length : Int) then (26 : Int) else (f.blocks.length : Int))) fbc fap (Int.toNat (if (70 : Int) < (f.lab.after.length : Int) then (70 : Int) else (f.lab.after.length : Int))) fac w0 R) :
  Calls Tryz.prog 18 ⟨[.agg (few5A6 f ftp ftc fbp fbc fap fac)]⟩ W R := by
 refine AtE.calls (nt := 87) Tryz.func18 (by kernel_rfl) hm ?_
 refine AtE.ru 2 ?_
 refine AtE.new (fun B => .pointer (some ⟨B, 0, none⟩)) (.cells (few5A6 f ftp ftc fbp fbc fap fac) 28) (fun W => by kernel_rfl) (by kernel_rfl) (fun B => ?_)
 replace H := H B
 refine AtE.new (fun B => .pointer (some ⟨B, 0, none⟩)) (.cells few5A0 28) (fun W => by kernel_rfl) (by kernel_rfl) (fun B1 => ?_)
 replace H := H B1
 refine AtE.ru 4 ?_
 refine AtE.load 0 9 (T := 22) (v := .slice ftp f.topics.length ftc) (by kernel_rfl) ?_
 refine AtE.ru 1 ?_
 refine AtE.load 0 9 (T := 22) (v := .slice ftp f.topics.length ftc) (by kernel_rfl) ?_
 refine AtE.ru 2 ?_
 refine AtE.sliceU (E := 9) (p := ftp) (len := f.topics.length) (cap := ftc) (sz := 1) (lo := none) (hi := some (.int .i64 (if (6 : Int) < (f.topics.length : Int) then (6 : Int) else (f.topics.length : Int)))) (y := (if (6 : Int) < (f.topics.length : Int) then (6 : Int) else (f.topics.length : Int))) (by kernel_rfl) (.inr rfl) (.inl ⟨.i64, rfl⟩) H.1 ?_
 replace H := H.2
 refine AtE.ru 1 ?_
 refine AtE.store 0 9 (T := 22) (v := .slice ftp (Int.toNat (if (6 : Int) < (f.topics.length : Int) then (6 : Int) else (f.topics.length : Int))) ftc) (by kernel_rfl) ?_
 refine AtE.ru 4 ?_
 refine AtE.load 0 10 (T := 23) (v := .slice fbp f.blocks.length fbc) (by kernel_rfl) ?_
 refine AtE.norm (k' := [.inRegion (regOps [.code (sub (Eng.body Tryz.f18) [1,1,0])]) [2,3,4,5,6,7,8], .code (sub (Eng.body Tryz.f18) [1,1,1])]) (e' := [(1, .pointer (some ⟨B, 0, none⟩)), (2, .pointer (some ⟨B1, 0, none⟩)), (15, .slice fbp f.blocks.length fbc)]) (L' := [(B, .cells #[.int .i64 f.n, .int .i64 f.time, .int .i64 f.kind, .int .i64 f.story, .string f.lang, .int .i64 f.rev, .int .i64 f.base, .string f.title, .string f.author, .slice ftp (Int.toNat (if (6 : Int) < (f.topics.length : Int) then (6 : Int) else (f.topics.length : Int))) ftc, .slice fbp f.blocks.length fbc, .int .i64 f.lab.unt, .slice fap f.lab.after.length fac, .int .i64 f.lab.appr, .int .i64 f.lab.den, .int .i64 f.editor, .int .i64 f.block, .int .i64 f.sentence, .string f.text, .string f.name, .int .i64 f.partner, .int .i64 f.cls, .int .i64 f.unt] 28), (B1, .cells few5A0 28)]) ?_ (by kernel_rfl)
 refine AtE.ru 1 ?_
 refine AtE.load 0 10 (T := 23) (v := .slice fbp f.blocks.length fbc) (by kernel_rfl) ?_
 refine AtE.ru 2 ?_
 refine AtE.sliceU (E := 89) (p := fbp) (len := f.blocks.length) (cap := fbc) (sz := 9) (lo := none) (hi := some (.int .i64 (if (26 : Int) < (f.blocks.length : Int) then (26 : Int) else (f.blocks.length : Int)))) (y := (if (26 : Int) < (f.blocks.length : Int) then (26 : Int) else (f.blocks.length : Int))) (by kernel_rfl) (.inr rfl) (.inl ⟨.i64, rfl⟩) H.1 ?_
 replace H := H.2
 refine AtE.ru 1 ?_
 refine AtE.store 0 10 (T := 23) (v := .slice fbp (Int.toNat (if (26 : Int) < (f.blocks.length : Int) then (26 : Int) else (f.blocks.length : Int))) fbc) (by kernel_rfl) ?_
 refine AtE.ru 5 ?_
 refine AtE.load 0 12 (T := 24) (v := .slice fap f.lab.after.length fac) (by kernel_rfl) ?_
 refine AtE.ru 2 ?_
 refine AtE.load 0 12 (T := 24) (v := .slice fap f.lab.after.length fac) (by kernel_rfl) ?_
 refine AtE.ru 2 ?_
 refine AtE.sliceU (E := 3) (p := fap) (len := f.lab.after.length) (cap := fac) (sz := 1) (lo := none) (hi := some (.int .i64 (if (70 : Int) < (f.lab.after.length : Int) then (70 : Int) else (f.lab.after.length : Int)))) (y := (if (70 : Int) < (f.lab.after.length : Int) then (70 : Int) else (f.lab.after.length : Int))) (by kernel_rfl) (.inr rfl) (.inl ⟨.i64, rfl⟩) H.1 ?_
 replace H := H.2
 refine AtE.ru 2 ?_
 refine AtE.store 0 12 (T := 24) (v := .slice fap (Int.toNat (if (70 : Int) < (f.lab.after.length : Int) then (70 : Int) else (f.lab.after.length : Int))) fac) (by kernel_rfl) ?_
 refine AtE.norm (k' := [.inRegion (regOps [.code (sub (Eng.body Tryz.f18) [1,1,1,0])]) [], .code (sub (Eng.body Tryz.f18) [1,1,1,1])]) (e' := [(1, .pointer (some ⟨B, 0, none⟩)), (2, .pointer (some ⟨B1, 0, none⟩))]) (L' := [(B, .cells #[.int .i64 f.n, .int .i64 f.time, .int .i64 f.kind, .int .i64 f.story, .string f.lang, .int .i64 f.rev, .int .i64 f.base, .string f.title, .string f.author, .slice ftp (Int.toNat (if (6 : Int) < (f.topics.length : Int) then (6 : Int) else (f.topics.length : Int))) ftc, .slice fbp (Int.toNat (if (26 : Int) < (f.blocks.length : Int) then (26 : Int) else (f.blocks.length : Int))) fbc, .int .i64 f.lab.unt, .slice fap (Int.toNat (if (70 : Int) < (f.lab.after.length : Int) then (70 : Int) else (f.lab.after.length : Int))) fac, .int .i64 f.lab.appr, .int .i64 f.lab.den, .int .i64 f.editor, .int .i64 f.block, .int .i64 f.sentence, .string f.text, .string f.name, .int .i64 f.partner, .int .i64 f.cls, .int .i64 f.unt] 28), (B1, .cells few5A0 28)]) ?_ (by kernel_rfl)
 refine AtE.ru 12 ?_
 exact AtE.cut [0,1] H (by kernel_rfl)
abbrev fRedactH0 (B6 : Nat) (f : Fct) (m92_p : Option Addr) (m92_l : Nat) (m92_c : Nat) (B7 : Nat) (m10_l : Nat) (m10_c : Nat) (fap : Option Addr) (fac : Nat) (cs : List Value) (B8 : Nat) (m93_p : Option Addr) (m93_l : Nat) (m93_c : Nat) (m121_p : Option Addr) (m121_l : Nat) (m121_c : Nat) (F2 : SHeap) : SHeap := ((B6, .cells #[.int .i64 f.n, .int .i64 f.time, .int .i64 f.kind, .int .i64 f.story, .string f.lang, .int .i64 f.rev, .int .i64 f.base, .string f.title, .string f.author, .slice m92_p m92_l m92_c, .slice (some ⟨B7, 0, none⟩) m10_l m10_c, .int .i64 f.lab.unt, .slice fap f.lab.after.length fac, .int .i64 f.lab.appr, .int .i64 f.lab.den, .int .i64 f.editor, .int .i64 f.block, .int .i64 f.sentence, .string f.text, .string f.name, .int .i64 f.partner, .int .i64 f.cls, .int .i64 f.unt] 28) :: (B7, .cells ⟨cs⟩ 89) :: (B8, .cells #[.int .i64 (0 : Int), .int .i64 (0 : Int), .int .i64 (0 : Int), .int .i64 (0 : Int), .string (⟨#[]⟩), .int .i64 (0 : Int), .int .i64 (0 : Int), .string (⟨#[]⟩), .string (⟨#[]⟩), .slice m93_p m93_l m93_c, .slice none 0 0, .int .i64 (0 : Int), .slice m121_p m121_l m121_c, .int .i64 (0 : Int), .int .i64 (0 : Int), .int .i64 (0 : Int), .int .i64 (0 : Int), .int .i64 (0 : Int), .string (⟨#[]⟩), .string (⟨#[]⟩), .int .i64 (0 : Int), .int .i64 (0 : Int), .int .i64 (0 : Int)] 28) :: F2)
abbrev fRedactH1 (B1 : Nat) (B : Nat) (f : Fct) (ftp : Option Addr) (ftc : Nat) (fbp : Option Addr) (fbc : Nat) (fap : Option Addr) (fac : Nat) (F : SHeap) : SHeap := ((B1, .cells #[.int .i64 (0 : Int), .int .i64 (0 : Int), .int .i64 (0 : Int), .int .i64 (0 : Int), .string (⟨#[]⟩), .int .i64 (0 : Int), .int .i64 (0 : Int), .string (⟨#[]⟩), .string (⟨#[]⟩), .slice none 0 0, .slice none 0 0, .int .i64 (0 : Int), .slice none 0 0, .int .i64 (0 : Int), .int .i64 (0 : Int), .int .i64 (0 : Int), .int .i64 (0 : Int), .int .i64 (0 : Int), .string (⟨#[]⟩), .string (⟨#[]⟩), .int .i64 (0 : Int), .int .i64 (0 : Int), .int .i64 (0 : Int)] 28) :: (B, .cells #[.int .i64 f.n, .int .i64 f.time, .int .i64 f.kind, .int .i64 f.story, .string f.lang, .int .i64 f.rev, .int .i64 f.base, .string f.title, .string f.author, .slice ftp f.topics.length ftc, .slice fbp f.blocks.length fbc, .int .i64 f.lab.unt, .slice fap f.lab.after.length fac, .int .i64 f.lab.appr, .int .i64 f.lab.den, .int .i64 f.editor, .int .i64 f.block, .int .i64 f.sentence, .string f.text, .string f.name, .int .i64 f.partner, .int .i64 f.cls, .int .i64 f.unt] 28) :: F)
abbrev fRedactH2 (B4 : Nat) (f : Fct) (m9_p : Option Addr) (m9_l : Nat) (m9_c : Nat) (fap : Option Addr) (fac : Nat) (B5 : Nat) (m91_p : Option Addr) (m91_l : Nat) (m91_c : Nat) (m12_p : Option Addr) (m12_l : Nat) (m12_c : Nat) (F1 : SHeap) : SHeap := ((B4, .cells #[.int .i64 f.n, .int .i64 f.time, .int .i64 f.kind, .int .i64 f.story, .string f.lang, .int .i64 f.rev, .int .i64 f.base, .string f.title, .string f.author, .slice m9_p m9_l m9_c, .slice none 0 0, .int .i64 f.lab.unt, .slice fap f.lab.after.length fac, .int .i64 f.lab.appr, .int .i64 f.lab.den, .int .i64 f.editor, .int .i64 f.block, .int .i64 f.sentence, .string f.text, .string f.name, .int .i64 f.partner, .int .i64 f.cls, .int .i64 f.unt] 28) :: (B5, .cells #[.int .i64 (0 : Int), .int .i64 (0 : Int), .int .i64 (0 : Int), .int .i64 (0 : Int), .string (⟨#[]⟩), .int .i64 (0 : Int), .int .i64 (0 : Int), .string (⟨#[]⟩), .string (⟨#[]⟩), .slice m91_p m91_l m91_c, .slice none 0 0, .int .i64 (0 : Int), .slice m12_p m12_l m12_c, .int .i64 (0 : Int), .int .i64 (0 : Int), .int .i64 (0 : Int), .int .i64 (0 : Int), .int .i64 (0 : Int), .string (⟨#[]⟩), .string (⟨#[]⟩), .int .i64 (0 : Int), .int .i64 (0 : Int), .int .i64 (0 : Int)] 28) :: F1)
abbrev fRedactH3 (B1 : Nat) (f : Fct) (B : Nat) (ftp : Option Addr) (ftc : Nat) (fbp : Option Addr) (fbc : Nat) (fap : Option Addr) (fac : Nat) (F : SHeap) : SHeap := ((B1, .cells #[.int .i64 f.n, .int .i64 f.time, .int .i64 (10 : Int), .int .i64 f.story, .string (⟨#[]⟩), .int .i64 (0 : Int), .int .i64 (0 : Int), .string (⟨#[]⟩), .string (⟨#[]⟩), .slice none 0 0, .slice none 0 0, .int .i64 (0 : Int), .slice none 0 0, .int .i64 (0 : Int), .int .i64 (0 : Int), .int .i64 (0 : Int), .int .i64 (0 : Int), .int .i64 (0 : Int), .string (⟨#[]⟩), .string (⟨#[]⟩), .int .i64 (0 : Int), .int .i64 (0 : Int), .int .i64 (0 : Int)] 28) :: (B, .cells #[.int .i64 f.n, .int .i64 f.time, .int .i64 f.kind, .int .i64 f.story, .string f.lang, .int .i64 f.rev, .int .i64 f.base, .string f.title, .string f.author, .slice ftp f.topics.length ftc, .slice fbp f.blocks.length fbc, .int .i64 f.lab.unt, .slice fap f.lab.after.length fac, .int .i64 f.lab.appr, .int .i64 f.lab.den, .int .i64 f.editor, .int .i64 f.block, .int .i64 f.sentence, .string f.text, .string f.name, .int .i64 f.partner, .int .i64 f.cls, .int .i64 f.unt] 28) :: F)
abbrev fRedactA0 (f : Fct) : Array Value := #[.int .i64 f.n, .int .i64 f.time, .int .i64 (10 : Int), .int .i64 f.story, .string (⟨#[]⟩), .int .i64 (0 : Int), .int .i64 (0 : Int), .string (⟨#[]⟩), .string (⟨#[]⟩), .slice none 0 0, .slice none 0 0, .int .i64 (0 : Int), .slice none 0 0, .int .i64 (0 : Int), .int .i64 (0 : Int), .int .i64 (0 : Int), .int .i64 (0 : Int), .int .i64 (0 : Int), .string (⟨#[]⟩), .string (⟨#[]⟩), .int .i64 (0 : Int), .int .i64 (0 : Int), .int .i64 (0 : Int)]
abbrev fRedactA5 : Array Value := #[.int .i64 (0 : Int), .int .i64 (0 : Int), .int .i64 (0 : Int), .int .i64 (0 : Int), .string (⟨#[]⟩), .int .i64 (0 : Int), .int .i64 (0 : Int), .string (⟨#[]⟩), .string (⟨#[]⟩), .slice none 0 0, .slice none 0 0, .int .i64 (0 : Int), .slice none 0 0, .int .i64 (0 : Int), .int .i64 (0 : Int), .int .i64 (0 : Int), .int .i64 (0 : Int), .int .i64 (0 : Int), .string (⟨#[]⟩), .string (⟨#[]⟩), .int .i64 (0 : Int), .int .i64 (0 : Int), .int .i64 (0 : Int)]
abbrev fRedactA6 (f : Fct) (ftp : Option Addr) (ftc : Nat) (fbp : Option Addr) (fbc : Nat) (fap : Option Addr) (fac : Nat) : Array Value := #[.int .i64 f.n, .int .i64 f.time, .int .i64 f.kind, .int .i64 f.story, .string f.lang, .int .i64 f.rev, .int .i64 f.base, .string f.title, .string f.author, .slice ftp f.topics.length ftc, .slice fbp f.blocks.length fbc, .int .i64 f.lab.unt, .slice fap f.lab.after.length fac, .int .i64 f.lab.appr, .int .i64 f.lab.den, .int .i64 f.editor, .int .i64 f.block, .int .i64 f.sentence, .string f.text, .string f.name, .int .i64 f.partner, .int .i64 f.cls, .int .i64 f.unt]
def fRedact_c0 (f : Fct) (ftp : Option Addr) (ftc : Nat) (fbp : Option Addr) (fbc : Nat) (fap : Option Addr) (fac : Nat) (B4 : Nat) (B5 : Nat) (t27 : Int) (t28 : Int) (m9_p : Option Addr) (m9_l : Nat) (m9_c : Nat) (m91_p : Option Addr) (m91_l : Nat) (m91_c : Nat) (m12_p : Option Addr) (m12_l : Nat) (m12_c : Nat) (F1 : SHeap) (w0 : World) (R : Ending → World → Prop) : Prop :=
 AtE Tryz.prog 26 53 [.code (sub (Eng.body Tryz.f26) [1,1,1,1,0,1,0,0]), .inLoop (sub (Eng.body Tryz.f26) [1,1,1,1,0,1,0,0]), .inBlock 1, .code (sub (Eng.body Tryz.f26) [1,1,1,1,1])] [(1, .pointer (some ⟨B4, 0, none⟩)), (2, .pointer (some ⟨B5, 0, none⟩)), (27, .int .i64 t27), (28, .int .i64 t28)] (fRedactH2 B4 f m9_p m9_l m9_c fap fac B5 m91_p m91_l m91_c m12_p m12_l m12_c F1) [] w0 (nrm R)
def fRedact_c1 (f : Fct) (ftp : Option Addr) (ftc : Nat) (fbp : Option Addr) (fbc : Nat) (fap : Option Addr) (fac : Nat) (B6 : Nat) (B7 : Nat) (B8 : Nat) (t281 : Int) (m92_p : Option Addr) (m92_l : Nat) (m92_c : Nat) (m10_l : Nat) (m10_c : Nat) (cs : List Value) (m93_p : Option Addr) (m93_l : Nat) (m93_c : Nat) (m121_p : Option Addr) (m121_l : Nat) (m121_c : Nat) (F2 : SHeap) (w0 : World) (R : Ending → World → Prop) : Prop :=
 AtE Tryz.prog 26 53 [.code (sub (Eng.body Tryz.f26) [1,1,1,1,0,1,0,0]), .inLoop (sub (Eng.body Tryz.f26) [1,1,1,1,0,1,0,0]), .inBlock 1, .code (sub (Eng.body Tryz.f26) [1,1,1,1,1])] [(1, .pointer (some ⟨B6, 0, none⟩)), (2, .pointer (some ⟨B8, 0, none⟩)), (27, .int .i64 (f.blocks.length : Int)), (28, .int .i64 t281)] (fRedactH0 B6 f m92_p m92_l m92_c B7 m10_l m10_c fap fac cs B8 m93_p m93_l m93_c m121_p m121_l m121_c F2) [] w0 (nrm R)
theorem fRedact_vc (f : Fct) (ftp : Option Addr) (ftc : Nat) (fbp : Option Addr) (fbc : Nat) (fap : Option Addr) (fac : Nat) (F : SHeap) {R : Ending → World → Prop} {w0 W : World} (hm : Mem (F) [] w0 W)
  (H :
   ∀ B : Nat,
   ∀ B1 : Nat,
   ((f.kind = (1 : Int)) →
    Fin R (fRedactH3 B1 f B ftp ftc fbp fbc fap fac F) [] w0 (.agg (fRedactA0 f))) ∧
    ((¬ (f.kind = (1 : Int))) →
    ((f.kind = (4 : Int)) →
     Fin R (fRedactH3 B1 f B ftp ftc fbp fbc fap fac F) [] w0 (.agg (fRedactA0 f))) ∧
     ((¬ (f.kind = (4 : Int))) →
     ((f.kind = (5 : Int)) →
      Fin R (fRedactH3 B1 f B ftp ftc fbp fbc fap fac F) [] w0 (.agg (fRedactA0 f))) ∧
      ((¬ (f.kind = (5 : Int))) →
      ∃ news : List Value, (∀ W, Mem (fRedactH1 B1 B f ftp ftc fbp fbc fap fac F) [] w0 W → Go.Src Tryz.prog 1 22 (.slice ftp f.topics.length ftc) f.topics.length news W) ∧
      (f.topics.length ≤ 9223372036854775807 ∧ f.topics.length * 16 ≤ 140737488355328) ∧ ((f.topics.length = 0 →
       ∃ news1 : List Value, (∀ W, Mem ((B1, .cells fRedactA5 28) :: (B, .cells #[.int .i64 f.n, .int .i64 f.time, .int .i64 f.kind, .int .i64 f.story, .string f.lang, .int .i64 f.rev, .int .i64 f.base, .string f.title, .string f.author, .slice none 0 0, .slice fbp f.blocks.length fbc, .int .i64 f.lab.unt, .slice fap f.lab.after.length fac, .int .i64 f.lab.appr, .int .i64 f.lab.den, .int .i64 f.editor, .int .i64 f.block, .int .i64 f.sentence, .string f.text, .string f.name, .int .i64 f.partner, .int .i64 f.cls, .int .i64 f.unt] 28) :: F) [] w0 W → Go.Src Tryz.prog 9 23 (.slice fbp f.blocks.length fbc) f.blocks.length news1 W) ∧
       (f.blocks.length ≤ 9223372036854775807 ∧ f.blocks.length * 96 ≤ 140737488355328) ∧ ((f.blocks.length = 0 →
        fRedact_c0 f ftp ftc fbp fbc fap fac B B1 (0 : Int) (0 : Int) none 0 0 none 0 0 none 0 0 F w0 R) ∧
        (0 < f.blocks.length → ∀ (B3 cap1 : Nat) (r1 : List Value), f.blocks.length ≤ cap1 → (news1 ++ r1).length = cap1 * 9 →
        fRedact_c1 f ftp ftc fbp fbc fap fac B B3 B1 (0 : Int) none 0 0 f.blocks.length cap1 (news1 ++ r1) none 0 0 none 0 0 F w0 R))) ∧
       (0 < f.topics.length → ∀ (B2 cap : Nat) (r : List Value), f.topics.length ≤ cap → (news ++ r).length = cap * 1 →
       ∃ news2 : List Value, (∀ W, Mem ((B2, .cells ⟨(news ++ r)⟩ 9) :: (B1, .cells fRedactA5 28) :: (B, .cells #[.int .i64 f.n, .int .i64 f.time, .int .i64 f.kind, .int .i64 f.story, .string f.lang, .int .i64 f.rev, .int .i64 f.base, .string f.title, .string f.author, .slice (some ⟨B2, 0, none⟩) f.topics.length cap, .slice fbp f.blocks.length fbc, .int .i64 f.lab.unt, .slice fap f.lab.after.length fac, .int .i64 f.lab.appr, .int .i64 f.lab.den, .int .i64 f.editor, .int .i64 f.block, .int .i64 f.sentence, .string f.text, .string f.name, .int .i64 f.partner, .int .i64 f.cls, .int .i64 f.unt] 28) :: F) [] w0 W → Go.Src Tryz.prog 9 23 (.slice fbp f.blocks.length fbc) f.blocks.length news2 W) ∧
       (f.blocks.length ≤ 9223372036854775807 ∧ f.blocks.length * 96 ≤ 140737488355328) ∧ ((f.blocks.length = 0 →
        fRedact_c0 f ftp ftc fbp fbc fap fac B B1 (0 : Int) (0 : Int) (some ⟨B2, 0, none⟩) f.topics.length cap none 0 0 none 0 0 ((B2, .cells ⟨(news ++ r)⟩ 9) :: F) w0 R) ∧
        (0 < f.blocks.length → ∀ (B9 cap2 : Nat) (r2 : List Value), f.blocks.length ≤ cap2 → (news2 ++ r2).length = cap2 * 9 →
        fRedact_c1 f ftp ftc fbp fbc fap fac B B9 B1 (0 : Int) (some ⟨B2, 0, none⟩) f.topics.length cap f.blocks.length cap2 (news2 ++ r2) none 0 0 none 0 0 ((B2, .cells ⟨(news ++ r)⟩ 9) :: F) w0 R)))))))) :
  Calls Tryz.prog 26 ⟨[.agg (fRedactA6 f ftp ftc fbp fbc fap fac)]⟩ W R := by
 refine AtE.calls (nt := 53) Tryz.func26 (by kernel_rfl) hm ?_
 refine AtE.ru 2 ?_
 refine AtE.new (fun B => .pointer (some ⟨B, 0, none⟩)) (.cells (fRedactA6 f ftp ftc fbp fbc fap fac) 28) (fun W => by kernel_rfl) (by kernel_rfl) (fun B => ?_)
 replace H := H B
 refine AtE.front ?_
 refine AtE.new (fun B => .pointer (some ⟨B, 0, none⟩)) (.cells fRedactA5 28) (fun W => by kernel_rfl) (by kernel_rfl) (fun B1 => ?_)
 replace H := H B1
 refine AtE.front ?_
 refine AtE.ru 5 ?_
 refine AtE.load 1 2 (T := 3) (v := .int .i64 f.kind) (by kernel_rfl) ?_
 refine AtE.ru 8 ?_
 refine AtE.splitP 6 (p := f.kind = (1 : Int)) (by kernel_rfl) (fun h1' => ?_) (fun h1' => ?_)
 ·replace H := H.1 h1'
  refine AtE.ru 6 ?_
  refine AtE.load 1 0 (T := 3) (v := .int .i64 f.n) (by kernel_rfl) ?_
  refine AtE.ru 1 ?_
  refine AtE.load 1 1 (T := 3) (v := .int .i64 f.time) (by kernel_rfl) ?_
  refine AtE.ru 1 ?_
  refine AtE.load 1 3 (T := 3) (v := .int .i64 f.story) (by kernel_rfl) ?_
  refine AtE.norm (k' := [.inRegion (regOps [.code (sub (Eng.body Tryz.f26) [1,0,1,0,1,0,0])]) [6,7], .code (sub (Eng.body Tryz.f26) [1,0,1,0,1,0,1]), .inBlock 0, .code (sub (Eng.body Tryz.f26) [1,1])]) (e' := [(2, .pointer (some ⟨B1, 0, none⟩)), (11, .int .i64 f.n), (13, .int .i64 f.time), (15, .int .i64 f.story)]) (L' := (fRedactH1 B1 B f ftp ftc fbp fbc fap fac F)) ?_ (by kernel_rfl)
  refine AtE.ru 1 ?_
  refine AtE.store 0 0 (T := 28) (v := .agg (fRedactA0 f)) (by kernel_rfl) ?_
  refine AtE.ru 1 ?_
  exact AtE.retC 0 0 (a := 2) (T := 28) (v := .agg (fRedactA0 f)) Tryz.func26 (by kernel_rfl) (by kernel_rfl) H
 ·replace H := H.2 h1'
  refine AtE.ru 6 ?_
  refine AtE.splitP 6 (p := f.kind = (4 : Int)) (by kernel_rfl) (fun h2' => ?_) (fun h2' => ?_)
  ·replace H := H.1 h2'
   refine AtE.ru 6 ?_
   refine AtE.load 1 0 (T := 3) (v := .int .i64 f.n) (by kernel_rfl) ?_
   refine AtE.ru 1 ?_
   refine AtE.load 1 1 (T := 3) (v := .int .i64 f.time) (by kernel_rfl) ?_
   refine AtE.norm (k' := [.inRegion (regOps [.code (sub (Eng.body Tryz.f26) [1,0,1,0,1,0,0])]) [4,5,6,7], .code (sub (Eng.body Tryz.f26) [1,0,1,0,1,0,1]), .inBlock 0, .code (sub (Eng.body Tryz.f26) [1,1])]) (e' := [(1, .pointer (some ⟨B, 0, none⟩)), (2, .pointer (some ⟨B1, 0, none⟩)), (11, .int .i64 f.n), (13, .int .i64 f.time)]) (L' := (fRedactH1 B1 B f ftp ftc fbp fbc fap fac F)) ?_ (by kernel_rfl)
   refine AtE.ru 1 ?_
   refine AtE.load 1 3 (T := 3) (v := .int .i64 f.story) (by kernel_rfl) ?_
   refine AtE.ru 1 ?_
   refine AtE.store 0 0 (T := 28) (v := .agg (fRedactA0 f)) (by kernel_rfl) ?_
   refine AtE.ru 1 ?_
   exact AtE.retC 0 0 (a := 2) (T := 28) (v := .agg (fRedactA0 f)) Tryz.func26 (by kernel_rfl) (by kernel_rfl) H
  ·replace H := H.2 h2'
   refine AtE.ru 5 ?_
   refine AtE.splitP 6 (p := f.kind = (5 : Int)) (by kernel_rfl) (fun h3' => ?_) (fun h3' => ?_)
   ·replace H := H.1 h3'
    refine AtE.ru 4 ?_
    refine AtE.load 1 0 (T := 3) (v := .int .i64 f.n) (by kernel_rfl) ?_
    refine AtE.norm (k' := [.inRegion (regOps [.code (sub (Eng.body Tryz.f26) [1,0,1,0,1,0,0])]) [2,3,4,5,6,7], .code (sub (Eng.body Tryz.f26) [1,0,1,0,1,0,1]), .inBlock 0, .code (sub (Eng.body Tryz.f26) [1,1])]) (e' := [(1, .pointer (some ⟨B, 0, none⟩)), (2, .pointer (some ⟨B1, 0, none⟩)), (11, .int .i64 f.n)]) (L' := (fRedactH1 B1 B f ftp ftc fbp fbc fap fac F)) ?_ (by kernel_rfl)
    refine AtE.ru 1 ?_
    refine AtE.load 1 1 (T := 3) (v := .int .i64 f.time) (by kernel_rfl) ?_
    refine AtE.ru 1 ?_
    refine AtE.load 1 3 (T := 3) (v := .int .i64 f.story) (by kernel_rfl) ?_
    refine AtE.ru 1 ?_
    refine AtE.store 0 0 (T := 28) (v := .agg (fRedactA0 f)) (by kernel_rfl) ?_
    refine AtE.ru 1 ?_
    exact AtE.retC 0 0 (a := 2) (T := 28) (v := .agg (fRedactA0 f)) Tryz.func26 (by kernel_rfl) (by kernel_rfl) H
   ·replace H := H.2 h3'
    refine AtE.ru 6 ?_
    refine AtE.load 1 9 (T := 22) (v := .slice ftp f.topics.length ftc) (by kernel_rfl) ?_
    refine AtE.norm (k' := [.inRegion (regOps [.code (sub (Eng.body Tryz.f26) [1,1,0])]) [2,3,4], .code (sub (Eng.body Tryz.f26) [1,1,1])]) (e' := [(1, .pointer (some ⟨B, 0, none⟩)), (2, .pointer (some ⟨B1, 0, none⟩)), (18, .slice ftp f.topics.length ftc)]) (L' := (fRedactH1 B1 B f ftp ftc fbp fbc fap fac F)) ?_ (by kernel_rfl)
    obtain ⟨news, hsrc, H⟩ := H
    refine AtE.appendS (T := 22) (U := 22) (E := 9) (z := .string (⟨#[]⟩)) (sz := 1) (bytes := 16) (x := .slice ftp f.topics.length ftc) f.topics.length news (by kernel_rfl) hsrc H.1 (fun h0 => ?_) (fun h0 B2 cap r h1 h2 => ?_)
    ·replace H := H.2.1 h0
     refine AtE.ru 1 ?_
     refine AtE.store 1 9 (T := 22) (v := .slice none 0 0) (by kernel_rfl) ?_
     refine AtE.ru 4 ?_
     refine AtE.load 1 10 (T := 23) (v := .slice fbp f.blocks.length fbc) (by kernel_rfl) ?_
     obtain ⟨news1, hsrc, H⟩ := H
     refine AtE.appendS (T := 23) (U := 23) (E := 89) (z := .agg #[.int .i64 (0 : Int), .int .i64 (0 : Int), .string (⟨#[]⟩), .int .i64 (0 : Int), .int .i64 (0 : Int), .int .i64 (0 : Int), .slice none 0 0, .int .i64 (0 : Int), .int .i64 (0 : Int)]) (sz := 9) (bytes := 96) (x := .slice fbp f.blocks.length fbc) f.blocks.length news1 (by kernel_rfl) hsrc H.1 (fun h0 => ?_) (fun h0 B3 cap1 r1 h1 h2 => ?_)
     ·replace H := H.2.1 h0
      refine AtE.ru 1 ?_
      refine AtE.store 1 10 (T := 23) (v := .slice none 0 0) (by kernel_rfl) ?_
      refine AtE.ru 5 ?_
      refine AtE.load 1 10 (T := 23) (v := .slice none 0 0) (by kernel_rfl) ?_
      refine AtE.ru 5 ?_
      exact AtE.cutT [1,0] 2 H (by kernel_rfl)
     ·skip
      replace H := H.2.2 h0 B3 cap1 r1 h1 h2
      refine AtE.front ?_
      refine AtE.ru 1 ?_
      refine AtE.store 2 10 (T := 23) (v := .slice (some ⟨B3, 0, none⟩) f.blocks.length cap1) (by kernel_rfl) ?_
      refine AtE.ru 5 ?_
      refine AtE.load 2 10 (T := 23) (v := .slice (some ⟨B3, 0, none⟩) f.blocks.length cap1) (by kernel_rfl) ?_
      refine AtE.ru 5 ?_
      exact AtE.cutT [2,0,1] 3 H (by kernel_rfl)
    ·skip
     replace H := H.2.2 h0 B2 cap r h1 h2
     refine AtE.front ?_
     refine AtE.ru 1 ?_
     refine AtE.store 2 9 (T := 22) (v := .slice (some ⟨B2, 0, none⟩) f.topics.length cap) (by kernel_rfl) ?_
     refine AtE.ru 4 ?_
     refine AtE.load 2 10 (T := 23) (v := .slice fbp f.blocks.length fbc) (by kernel_rfl) ?_
     obtain ⟨news2, hsrc, H⟩ := H
     refine AtE.appendS (T := 23) (U := 23) (E := 89) (z := .agg #[.int .i64 (0 : Int), .int .i64 (0 : Int), .string (⟨#[]⟩), .int .i64 (0 : Int), .int .i64 (0 : Int), .int .i64 (0 : Int), .slice none 0 0, .int .i64 (0 : Int), .int .i64 (0 : Int)]) (sz := 9) (bytes := 96) (x := .slice fbp f.blocks.length fbc) f.blocks.length news2 (by kernel_rfl) hsrc H.1 (fun h0 => ?_) (fun h0 B9 cap2 r2 h1 h2 => ?_)
     ·replace H := H.2.1 h0
      refine AtE.ru 1 ?_
      refine AtE.store 2 10 (T := 23) (v := .slice none 0 0) (by kernel_rfl) ?_
      refine AtE.ru 5 ?_
      refine AtE.load 2 10 (T := 23) (v := .slice none 0 0) (by kernel_rfl) ?_
      refine AtE.ru 5 ?_
      exact AtE.cutT [2,1,0] 3 H (by kernel_rfl)
     ·skip
      replace H := H.2.2 h0 B9 cap2 r2 h1 h2
      refine AtE.front ?_
      refine AtE.ru 1 ?_
      refine AtE.store 3 10 (T := 23) (v := .slice (some ⟨B9, 0, none⟩) f.blocks.length cap2) (by kernel_rfl) ?_
      refine AtE.ru 5 ?_
      refine AtE.load 3 10 (T := 23) (v := .slice (some ⟨B9, 0, none⟩) f.blocks.length cap2) (by kernel_rfl) ?_
      refine AtE.ru 5 ?_
      exact AtE.cutT [3,0,2,1] 4 H (by kernel_rfl)
abbrev usesH0 (B3 : Nat) (kind : Int) : SHeap := [(B3, .cells #[.bool (decide (kind = (2 : Int))), .bool (decide (kind = (7 : Int))), .bool (decide (kind = (9 : Int))), .bool (decide (kind = (8 : Int))), .bool (decide (kind = (4 : Int))), .bool (decide (kind = (1 : Int))), .bool (decide (kind = (3 : Int))), .bool (decide (kind = (1 : Int))), .bool (decide (kind = (4 : Int)))] 4)]
abbrev usesH1 (B1 : Nat) (kind : Int) : SHeap := [(B1, .cells #[.bool (decide (kind = (2 : Int))), .bool (decide (kind = (7 : Int))), .bool true, .bool (decide (kind = (8 : Int))), .bool (decide (kind = (4 : Int))), .bool (decide (kind = (1 : Int))), .bool (decide (kind = (3 : Int))), .bool (decide (kind = (1 : Int))), .bool (decide (kind = (4 : Int)))] 4)]
abbrev usesH2 (B2 : Nat) (kind : Int) : SHeap := [(B2, .cells #[.bool (decide (kind = (2 : Int))), .bool (decide (kind = (7 : Int))), .bool (decide (kind = (9 : Int))), .bool (decide (kind = (8 : Int))), .bool true, .bool (decide (kind = (1 : Int))), .bool true, .bool (decide (kind = (1 : Int))), .bool (decide (kind = (4 : Int)))] 4)]
abbrev usesH3 (B : Nat) (kind : Int) : SHeap := [(B, .cells #[.bool (decide (kind = (2 : Int))), .bool (decide (kind = (7 : Int))), .bool true, .bool (decide (kind = (8 : Int))), .bool true, .bool (decide (kind = (1 : Int))), .bool true, .bool (decide (kind = (1 : Int))), .bool (decide (kind = (4 : Int)))] 4)]
theorem uses_vc (kind : Int) (field : Int) {R : Ending → World → Prop} {w0 W : World} (hm : Mem [] [] w0 W)
  (H :
   ((kind = (8 : Int)) →
    ((kind = (1 : Int)) →
     ∀ B : Nat,
     CallH Tryz.prog 23 ⟨[.int .i64 field, .int .i64 (9 : Int)]⟩ (usesH3 B kind) [] w0 (fun v L' => ∃ (r1 : Int), v = (.int .i64 r1) ∧ L' = (usesH3 B kind) ∧
      (0 ≤ r1 ∧ r1 < 9) ∧
      ∃ (m1 : Bool), (([.bool (decide (kind = (2 : Int))), .bool (decide (kind = (7 : Int))), .bool true, .bool (decide (kind = (8 : Int))), .bool true, .bool (decide (kind = (1 : Int))), .bool true, .bool (decide (kind = (1 : Int))), .bool (decide (kind = (4 : Int)))] : List Value))[(Int.toNat r1)]? = some (.bool m1) ∧
      Fin R (usesH3 B kind) [] w0 (.bool m1))) ∧
     ((¬ (kind = (1 : Int))) →
     ∀ B1 : Nat,
     CallH Tryz.prog 23 ⟨[.int .i64 field, .int .i64 (9 : Int)]⟩ (usesH1 B1 kind) [] w0 (fun v L' => ∃ (r21 : Int), v = (.int .i64 r21) ∧ L' = (usesH1 B1 kind) ∧
      (0 ≤ r21 ∧ r21 < 9) ∧
      ∃ (m21 : Bool), (([.bool (decide (kind = (2 : Int))), .bool (decide (kind = (7 : Int))), .bool true, .bool (decide (kind = (8 : Int))), .bool (decide (kind = (4 : Int))), .bool (decide (kind = (1 : Int))), .bool (decide (kind = (3 : Int))), .bool (decide (kind = (1 : Int))), .bool (decide (kind = (4 : Int)))] : List Value))[(Int.toNat r21)]? = some (.bool m21) ∧
      Fin R (usesH1 B1 kind) [] w0 (.bool m21)))) ∧
    ((¬ (kind = (8 : Int))) →
    ((kind = (1 : Int)) →
     ∀ B2 : Nat,
     CallH Tryz.prog 23 ⟨[.int .i64 field, .int .i64 (9 : Int)]⟩ (usesH2 B2 kind) [] w0 (fun v L' => ∃ (r31 : Int), v = (.int .i64 r31) ∧ L' = (usesH2 B2 kind) ∧
      (0 ≤ r31 ∧ r31 < 9) ∧
      ∃ (m31 : Bool), (([.bool (decide (kind = (2 : Int))), .bool (decide (kind = (7 : Int))), .bool (decide (kind = (9 : Int))), .bool (decide (kind = (8 : Int))), .bool true, .bool (decide (kind = (1 : Int))), .bool true, .bool (decide (kind = (1 : Int))), .bool (decide (kind = (4 : Int)))] : List Value))[(Int.toNat r31)]? = some (.bool m31) ∧
      Fin R (usesH2 B2 kind) [] w0 (.bool m31))) ∧
     ((¬ (kind = (1 : Int))) →
     ∀ B3 : Nat,
     CallH Tryz.prog 23 ⟨[.int .i64 field, .int .i64 (9 : Int)]⟩ (usesH0 B3 kind) [] w0 (fun v L' => ∃ (r41 : Int), v = (.int .i64 r41) ∧ L' = (usesH0 B3 kind) ∧
      (0 ≤ r41 ∧ r41 < 9) ∧
      ∃ (m41 : Bool), (([.bool (decide (kind = (2 : Int))), .bool (decide (kind = (7 : Int))), .bool (decide (kind = (9 : Int))), .bool (decide (kind = (8 : Int))), .bool (decide (kind = (4 : Int))), .bool (decide (kind = (1 : Int))), .bool (decide (kind = (3 : Int))), .bool (decide (kind = (1 : Int))), .bool (decide (kind = (4 : Int)))] : List Value))[(Int.toNat r41)]? = some (.bool m41) ∧
      Fin R (usesH0 B3 kind) [] w0 (.bool m41))))) :
  Calls Tryz.prog 24 ⟨[.int .i64 kind, .int .i64 field]⟩ W R := by
 refine AtE.calls (nt := 39) Tryz.func24 (by kernel_rfl) hm ?_
 refine AtE.ru 19 ?_
 refine AtE.splitP 14 (p := kind = (8 : Int)) (by kernel_rfl) (fun h1' => ?_) (fun h1' => ?_)
 ·replace H := H.1 h1'
  refine AtE.ru 7 ?_
  refine AtE.splitP 21 (p := kind = (1 : Int)) (by kernel_rfl) (fun h2' => ?_) (fun h2' => ?_)
  ·replace H := H.1 h2'
   refine AtE.ru 6 ?_
   refine AtE.splitP 27 (p := kind = (1 : Int)) (by kernel_rfl) (fun h3' => ?_) (fun h3' => ?_)
   ·skip
    refine AtE.ru 6 ?_
    refine AtE.new (fun B => .slice (some ⟨B, 0, none⟩) 9 9) (.cells #[.bool (decide (kind = (2 : Int))), .bool (decide (kind = (7 : Int))), .bool true, .bool (decide (kind = (8 : Int))), .bool true, .bool (decide (kind = (1 : Int))), .bool true, .bool (decide (kind = (1 : Int))), .bool (decide (kind = (4 : Int)))] 4) (fun W => by kernel_rfl) (by kernel_rfl) (fun B => ?_)
    replace H := H B
    refine AtE.ru 1 ?_
    refine AtE.call 23 ⟨[.int .i64 field, .int .i64 (9 : Int)]⟩ (fun W => by kernel_rfl) (by kernel_rfl) H ?_
    clear H
    rintro _ _ ⟨r1, rfl, rfl, H⟩
    refine AtE.indexAddrL (E := 4) (b := B) (o := 0) (len := 9) (cap := 9) (sz := 1) (o' := (Int.toNat r1)) (kd := .i64) (i := r1) (by kernel_rfl) H.1 (by omega) ?_
    replace H := H.2
    obtain ⟨m1, hx, H⟩ := H
    refine AtE.loadS 0 (off := (Int.toNat r1)) (T := 4) (v := .bool m1) (by kernel_rfl) (valAt_one hx (by kernel_rfl)) ?_
    refine AtE.norm (k' := [.inRegion (regOps [.code (sub (Eng.body Tryz.f24) [1,1,0])]) [31], .code (sub (Eng.body Tryz.f24) [1,1,1])]) (e' := [(38, .bool m1)]) (L' := (usesH3 B kind)) ?_ (by kernel_rfl)
    refine AtE.ru 2 ?_
    exact AtE.ret Tryz.func24 (by kernel_rfl) H
   ·first | exact absurd h2' h3' | exact absurd h3' h2' | simp_all
  ·replace H := H.2 h2'
   refine AtE.ru 6 ?_
   refine AtE.splitP 27 (p := kind = (1 : Int)) (by kernel_rfl) (fun h4' => ?_) (fun h4' => ?_)
   ·first | exact absurd h2' h4' | exact absurd h4' h2' | simp_all
   ·skip
    refine AtE.ru 6 ?_
    refine AtE.new (fun B => .slice (some ⟨B, 0, none⟩) 9 9) (.cells #[.bool (decide (kind = (2 : Int))), .bool (decide (kind = (7 : Int))), .bool true, .bool (decide (kind = (8 : Int))), .bool (decide (kind = (4 : Int))), .bool (decide (kind = (1 : Int))), .bool (decide (kind = (3 : Int))), .bool (decide (kind = (1 : Int))), .bool (decide (kind = (4 : Int)))] 4) (fun W => by kernel_rfl) (by kernel_rfl) (fun B1 => ?_)
    replace H := H B1
    refine AtE.ru 1 ?_
    refine AtE.call 23 ⟨[.int .i64 field, .int .i64 (9 : Int)]⟩ (fun W => by kernel_rfl) (by kernel_rfl) H ?_
    clear H
    rintro _ _ ⟨r21, rfl, rfl, H⟩
    refine AtE.indexAddrL (E := 4) (b := B1) (o := 0) (len := 9) (cap := 9) (sz := 1) (o' := (Int.toNat r21)) (kd := .i64) (i := r21) (by kernel_rfl) H.1 (by omega) ?_
    replace H := H.2
    obtain ⟨m21, hx, H⟩ := H
    refine AtE.loadS 0 (off := (Int.toNat r21)) (T := 4) (v := .bool m21) (by kernel_rfl) (valAt_one hx (by kernel_rfl)) ?_
    refine AtE.norm (k' := [.inRegion (regOps [.code (sub (Eng.body Tryz.f24) [1,1,0])]) [31], .code (sub (Eng.body Tryz.f24) [1,1,1])]) (e' := [(38, .bool m21)]) (L' := (usesH1 B1 kind)) ?_ (by kernel_rfl)
    refine AtE.ru 2 ?_
    exact AtE.ret Tryz.func24 (by kernel_rfl) H
 ·replace H := H.2 h1'
  refine AtE.ru 7 ?_
  refine AtE.splitP 21 (p := kind = (1 : Int)) (by kernel_rfl) (fun h5' => ?_) (fun h5' => ?_)
  ·replace H := H.1 h5'
   refine AtE.ru 6 ?_
   refine AtE.splitP 27 (p := kind = (1 : Int)) (by kernel_rfl) (fun h6' => ?_) (fun h6' => ?_)
   ·skip
    refine AtE.ru 6 ?_
    refine AtE.new (fun B => .slice (some ⟨B, 0, none⟩) 9 9) (.cells #[.bool (decide (kind = (2 : Int))), .bool (decide (kind = (7 : Int))), .bool (decide (kind = (9 : Int))), .bool (decide (kind = (8 : Int))), .bool true, .bool (decide (kind = (1 : Int))), .bool true, .bool (decide (kind = (1 : Int))), .bool (decide (kind = (4 : Int)))] 4) (fun W => by kernel_rfl) (by kernel_rfl) (fun B2 => ?_)
    replace H := H B2
    refine AtE.ru 1 ?_
    refine AtE.call 23 ⟨[.int .i64 field, .int .i64 (9 : Int)]⟩ (fun W => by kernel_rfl) (by kernel_rfl) H ?_
    clear H
    rintro _ _ ⟨r31, rfl, rfl, H⟩
    refine AtE.indexAddrL (E := 4) (b := B2) (o := 0) (len := 9) (cap := 9) (sz := 1) (o' := (Int.toNat r31)) (kd := .i64) (i := r31) (by kernel_rfl) H.1 (by omega) ?_
    replace H := H.2
    obtain ⟨m31, hx, H⟩ := H
    refine AtE.loadS 0 (off := (Int.toNat r31)) (T := 4) (v := .bool m31) (by kernel_rfl) (valAt_one hx (by kernel_rfl)) ?_
    refine AtE.norm (k' := [.inRegion (regOps [.code (sub (Eng.body Tryz.f24) [1,1,0])]) [31], .code (sub (Eng.body Tryz.f24) [1,1,1])]) (e' := [(38, .bool m31)]) (L' := (usesH2 B2 kind)) ?_ (by kernel_rfl)
    refine AtE.ru 2 ?_
    exact AtE.ret Tryz.func24 (by kernel_rfl) H
   ·first | exact absurd h5' h6' | exact absurd h6' h5' | simp_all
  ·replace H := H.2 h5'
   refine AtE.ru 6 ?_
   refine AtE.splitP 27 (p := kind = (1 : Int)) (by kernel_rfl) (fun h7' => ?_) (fun h7' => ?_)
   ·first | exact absurd h5' h7' | exact absurd h7' h5' | simp_all
   ·skip
    refine AtE.ru 6 ?_
    refine AtE.new (fun B => .slice (some ⟨B, 0, none⟩) 9 9) (.cells #[.bool (decide (kind = (2 : Int))), .bool (decide (kind = (7 : Int))), .bool (decide (kind = (9 : Int))), .bool (decide (kind = (8 : Int))), .bool (decide (kind = (4 : Int))), .bool (decide (kind = (1 : Int))), .bool (decide (kind = (3 : Int))), .bool (decide (kind = (1 : Int))), .bool (decide (kind = (4 : Int)))] 4) (fun W => by kernel_rfl) (by kernel_rfl) (fun B3 => ?_)
    replace H := H B3
    refine AtE.ru 1 ?_
    refine AtE.call 23 ⟨[.int .i64 field, .int .i64 (9 : Int)]⟩ (fun W => by kernel_rfl) (by kernel_rfl) H ?_
    clear H
    rintro _ _ ⟨r41, rfl, rfl, H⟩
    refine AtE.indexAddrL (E := 4) (b := B3) (o := 0) (len := 9) (cap := 9) (sz := 1) (o' := (Int.toNat r41)) (kd := .i64) (i := r41) (by kernel_rfl) H.1 (by omega) ?_
    replace H := H.2
    obtain ⟨m41, hx, H⟩ := H
    refine AtE.loadS 0 (off := (Int.toNat r41)) (T := 4) (v := .bool m41) (by kernel_rfl) (valAt_one hx (by kernel_rfl)) ?_
    refine AtE.norm (k' := [.inRegion (regOps [.code (sub (Eng.body Tryz.f24) [1,1,0])]) [31], .code (sub (Eng.body Tryz.f24) [1,1,1])]) (e' := [(38, .bool m41)]) (L' := (usesH0 B3 kind)) ?_ (by kernel_rfl)
    refine AtE.ru 2 ?_
    exact AtE.ret Tryz.func24 (by kernel_rfl) H
abbrev spoiledH0 (B : Nat) (f : Fct) (ftp : Option Addr) (ftc : Nat) (fbp : Option Addr) (fbc : Nat) (fap : Option Addr) (fac : Nat) (B1 : Nat) : SHeap := [(B, .cells #[.int .i64 f.n, .int .i64 f.time, .int .i64 f.kind, .int .i64 f.story, .string f.lang, .int .i64 f.rev, .int .i64 f.base, .string f.title, .string f.author, .slice ftp f.topics.length ftc, .slice fbp f.blocks.length fbc, .int .i64 f.lab.unt, .slice fap f.lab.after.length fac, .int .i64 f.lab.appr, .int .i64 f.lab.den, .int .i64 f.editor, .int .i64 f.block, .int .i64 f.sentence, .string f.text, .string f.name, .int .i64 f.partner, .int .i64 f.cls, .int .i64 f.unt] 28), (B1, .cells #[.int .i64 (0 : Int), .int .i64 (0 : Int), .int .i64 (0 : Int), .int .i64 (0 : Int), .string (⟨#[]⟩), .int .i64 (0 : Int), .int .i64 (0 : Int), .string (⟨#[]⟩), .string (⟨#[]⟩), .slice none 0 0, .slice none 0 0, .int .i64 (0 : Int), .slice none 0 0, .int .i64 (0 : Int), .int .i64 (0 : Int), .int .i64 (0 : Int), .int .i64 (0 : Int), .int .i64 (0 : Int), .string (⟨#[]⟩), .string (⟨#[]⟩), .int .i64 (0 : Int), .int .i64 (0 : Int), .int .i64 (0 : Int)] 28)]
abbrev spoiledH1 (B : Nat) (f : Fct) (ftp : Option Addr) (ftc : Nat) (fbp : Option Addr) (fbc : Nat) (fap : Option Addr) (fac : Nat) (B1 : Nat) : SHeap := [(B, .cells #[.int .i64 f.n, .int .i64 f.time, .int .i64 f.kind, .int .i64 f.story, .string f.lang, .int .i64 f.rev, .int .i64 f.base, .string f.title, .string f.author, .slice ftp f.topics.length ftc, .slice fbp f.blocks.length fbc, .int .i64 f.lab.unt, .slice fap f.lab.after.length fac, .int .i64 (IntKind.i64.wrap (f.lab.appr + (1 : Int))), .int .i64 f.lab.den, .int .i64 f.editor, .int .i64 f.block, .int .i64 f.sentence, .string f.text, .string f.name, .int .i64 f.partner, .int .i64 f.cls, .int .i64 f.unt] 28), (B1, .cells #[.int .i64 f.n, .int .i64 f.time, .int .i64 f.kind, .int .i64 f.story, .string f.lang, .int .i64 f.rev, .int .i64 f.base, .string f.title, .string f.author, .slice ftp f.topics.length ftc, .slice fbp f.blocks.length fbc, .int .i64 f.lab.unt, .slice fap f.lab.after.length fac, .int .i64 (IntKind.i64.wrap (f.lab.appr + (1 : Int))), .int .i64 f.lab.den, .int .i64 f.editor, .int .i64 f.block, .int .i64 f.sentence, .string f.text, .string f.name, .int .i64 f.partner, .int .i64 f.cls, .int .i64 f.unt] 28)]
abbrev spoiledA0 (f : Fct) (ftp : Option Addr) (ftc : Nat) (fbp : Option Addr) (fbc : Nat) (fap : Option Addr) (fac : Nat) : Array Value := #[.int .i64 f.n, .int .i64 f.time, .int .i64 f.kind, .int .i64 f.story, .string f.lang, .int .i64 f.rev, .int .i64 f.base, .string f.title, .string f.author, .slice ftp f.topics.length ftc, .slice fbp f.blocks.length fbc, .int .i64 f.lab.unt, .slice fap f.lab.after.length fac, .int .i64 f.lab.appr, .int .i64 f.lab.den, .int .i64 (IntKind.i64.wrap (f.editor + (1 : Int))), .int .i64 f.block, .int .i64 f.sentence, .string f.text, .string f.name, .int .i64 f.partner, .int .i64 f.cls, .int .i64 f.unt]
abbrev spoiledA1 (f : Fct) (ftp : Option Addr) (ftc : Nat) (fbp : Option Addr) (fbc : Nat) (fap : Option Addr) (fac : Nat) : Array Value := #[.int .i64 f.n, .int .i64 f.time, .int .i64 f.kind, .int .i64 f.story, .string f.lang, .int .i64 f.rev, .int .i64 f.base, .string f.title, .string f.author, .slice ftp f.topics.length ftc, .slice fbp f.blocks.length fbc, .int .i64 f.lab.unt, .slice fap f.lab.after.length fac, .int .i64 f.lab.appr, .int .i64 f.lab.den, .int .i64 f.editor, .int .i64 (IntKind.i64.wrap (f.block + (1 : Int))), .int .i64 f.sentence, .string f.text, .string f.name, .int .i64 f.partner, .int .i64 f.cls, .int .i64 f.unt]
abbrev spoiledA2 (f : Fct) (ftp : Option Addr) (ftc : Nat) (fbp : Option Addr) (fbc : Nat) (fap : Option Addr) (fac : Nat) : Array Value := #[.int .i64 f.n, .int .i64 f.time, .int .i64 f.kind, .int .i64 f.story, .string f.lang, .int .i64 f.rev, .int .i64 f.base, .string f.title, .string f.author, .slice ftp f.topics.length ftc, .slice fbp f.blocks.length fbc, .int .i64 f.lab.unt, .slice fap f.lab.after.length fac, .int .i64 f.lab.appr, .int .i64 f.lab.den, .int .i64 f.editor, .int .i64 f.block, .int .i64 f.sentence, .string f.text, .string f.name, .int .i64 (IntKind.i64.wrap (f.partner + (1 : Int))), .int .i64 f.cls, .int .i64 f.unt]
abbrev spoiledA3 (f : Fct) (ftp : Option Addr) (ftc : Nat) (fbp : Option Addr) (fbc : Nat) (fap : Option Addr) (fac : Nat) : Array Value := #[.int .i64 f.n, .int .i64 f.time, .int .i64 f.kind, .int .i64 f.story, .string f.lang, .int .i64 f.rev, .int .i64 f.base, .string f.title, .string f.author, .slice ftp f.topics.length ftc, .slice fbp f.blocks.length fbc, .int .i64 f.lab.unt, .slice fap f.lab.after.length fac, .int .i64 f.lab.appr, .int .i64 f.lab.den, .int .i64 f.editor, .int .i64 f.block, .int .i64 f.sentence, .string f.text, .string f.name, .int .i64 f.partner, .int .i64 (IntKind.i64.wrap (f.cls + (1 : Int))), .int .i64 f.unt]
abbrev spoiledA4 (f : Fct) (ftp : Option Addr) (ftc : Nat) (fbp : Option Addr) (fbc : Nat) (fap : Option Addr) (fac : Nat) : Array Value := #[.int .i64 f.n, .int .i64 f.time, .int .i64 f.kind, .int .i64 f.story, .string f.lang, .int .i64 (IntKind.i64.wrap (f.rev + (1 : Int))), .int .i64 f.base, .string f.title, .string f.author, .slice ftp f.topics.length ftc, .slice fbp f.blocks.length fbc, .int .i64 f.lab.unt, .slice fap f.lab.after.length fac, .int .i64 f.lab.appr, .int .i64 f.lab.den, .int .i64 f.editor, .int .i64 f.block, .int .i64 f.sentence, .string f.text, .string f.name, .int .i64 f.partner, .int .i64 f.cls, .int .i64 f.unt]
abbrev spoiledA5 (f : Fct) (B5 : Nat) (cap1 : Nat) (fbp : Option Addr) (fbc : Nat) (fap : Option Addr) (fac : Nat) : Array Value := #[.int .i64 f.n, .int .i64 f.time, .int .i64 f.kind, .int .i64 f.story, .string f.lang, .int .i64 f.rev, .int .i64 f.base, .string f.title, .string f.author, .slice (some ⟨B5, 0, none⟩) ((0 + f.topics.length) + 1) cap1, .slice fbp f.blocks.length fbc, .int .i64 f.lab.unt, .slice fap f.lab.after.length fac, .int .i64 f.lab.appr, .int .i64 f.lab.den, .int .i64 f.editor, .int .i64 f.block, .int .i64 f.sentence, .string f.text, .string f.name, .int .i64 f.partner, .int .i64 f.cls, .int .i64 f.unt]
abbrev spoiledA6 (f : Fct) (ftp : Option Addr) (ftc : Nat) (fbp : Option Addr) (fbc : Nat) (fap : Option Addr) (fac : Nat) : Array Value := #[.int .i64 f.n, .int .i64 f.time, .int .i64 f.kind, .int .i64 f.story, .string (f.lang ++ (⟨#[101]⟩ : ByteArray)), .int .i64 f.rev, .int .i64 f.base, .string f.title, .string f.author, .slice ftp f.topics.length ftc, .slice fbp f.blocks.length fbc, .int .i64 f.lab.unt, .slice fap f.lab.after.length fac, .int .i64 f.lab.appr, .int .i64 f.lab.den, .int .i64 f.editor, .int .i64 f.block, .int .i64 f.sentence, .string f.text, .string f.name, .int .i64 f.partner, .int .i64 f.cls, .int .i64 f.unt]
abbrev spoiledA7 (f : Fct) (ftp : Option Addr) (ftc : Nat) (fbp : Option Addr) (fbc : Nat) (fap : Option Addr) (fac : Nat) : Array Value := #[.int .i64 f.n, .int .i64 f.time, .int .i64 f.kind, .int .i64 f.story, .string f.lang, .int .i64 f.rev, .int .i64 f.base, .string f.title, .string f.author, .slice ftp f.topics.length ftc, .slice fbp f.blocks.length fbc, .int .i64 f.lab.unt, .slice fap f.lab.after.length fac, .int .i64 f.lab.appr, .int .i64 f.lab.den, .int .i64 f.editor, .int .i64 f.block, .int .i64 f.sentence, .string f.text, .string (f.name ++ (⟨#[97]⟩ : ByteArray)), .int .i64 f.partner, .int .i64 f.cls, .int .i64 f.unt]
abbrev spoiledA8 : Array Value := #[.int .i64 (0 : Int), .int .i64 (0 : Int), .int .i64 (0 : Int), .int .i64 (0 : Int), .string (⟨#[]⟩), .int .i64 (0 : Int), .int .i64 (0 : Int), .string (⟨#[]⟩), .string (⟨#[]⟩), .slice none 0 0, .slice none 0 0, .int .i64 (0 : Int), .slice none 0 0, .int .i64 (0 : Int), .int .i64 (0 : Int), .int .i64 (0 : Int), .int .i64 (0 : Int), .int .i64 (0 : Int), .string (⟨#[]⟩), .string (⟨#[]⟩), .int .i64 (0 : Int), .int .i64 (0 : Int), .int .i64 (0 : Int)]
abbrev spoiledA9 (f : Fct) (ftp : Option Addr) (ftc : Nat) (fbp : Option Addr) (fbc : Nat) (fap : Option Addr) (fac : Nat) : Array Value := #[.int .i64 f.n, .int .i64 f.time, .int .i64 f.kind, .int .i64 f.story, .string f.lang, .int .i64 f.rev, .int .i64 f.base, .string f.title, .string f.author, .slice ftp f.topics.length ftc, .slice fbp f.blocks.length fbc, .int .i64 f.lab.unt, .slice fap f.lab.after.length fac, .int .i64 (IntKind.i64.wrap (f.lab.appr + (1 : Int))), .int .i64 f.lab.den, .int .i64 f.editor, .int .i64 f.block, .int .i64 f.sentence, .string f.text, .string f.name, .int .i64 f.partner, .int .i64 f.cls, .int .i64 f.unt]
abbrev spoiledA10 (f : Fct) (ftp : Option Addr) (ftc : Nat) (fbp : Option Addr) (fbc : Nat) (fap : Option Addr) (fac : Nat) : Array Value := #[.int .i64 f.n, .int .i64 f.time, .int .i64 f.kind, .int .i64 f.story, .string f.lang, .int .i64 f.rev, .int .i64 f.base, .string f.title, .string f.author, .slice ftp f.topics.length ftc, .slice fbp f.blocks.length fbc, .int .i64 f.lab.unt, .slice fap f.lab.after.length fac, .int .i64 f.lab.appr, .int .i64 f.lab.den, .int .i64 f.editor, .int .i64 f.block, .int .i64 f.sentence, .string f.text, .string f.name, .int .i64 f.partner, .int .i64 f.cls, .int .i64 f.unt]
theorem spoiled_vc (f : Fct) (ftp : Option Addr) (ftc : Nat) (fbp : Option Addr) (fbc : Nat) (fap : Option Addr) (fac : Nat) (field : Int) {R : Ending → World → Prop} {w0 W : World} (hm : Mem [] [] w0 W)
  (H :
   ∀ B : Nat,
   ∀ B1 : Nat,
   CallH Tryz.prog 23 ⟨[.int .i64 field, .int .i64 (9 : Int)]⟩ (spoiledH0 B f ftp ftc fbp fbc fap fac B1) [] w0 (fun v L' => ∃ (r1 : Int), v = (.int .i64 r1) ∧ L' = (spoiledH0 B f ftp ftc fbp fbc fap fac B1) ∧
    ((r1 = (0 : Int)) →
     Fin R [(B, .cells (spoiledA0 f ftp ftc fbp fbc fap fac) 28), (B1, .cells (spoiledA0 f ftp ftc fbp fbc fap fac) 28)] [] w0 (.agg (spoiledA0 f ftp ftc fbp fbc fap fac))) ∧
     ((¬ (r1 = (0 : Int))) →
     ((r1 = (1 : Int)) →
      (f.name.size + (⟨#[97]⟩ : ByteArray).size ≤ 9223372036854775807) ∧
      Fin R [(B, .cells (spoiledA7 f ftp ftc fbp fbc fap fac) 28), (B1, .cells (spoiledA7 f ftp ftc fbp fbc fap fac) 28)] [] w0 (.agg (spoiledA7 f ftp ftc fbp fbc fap fac))) ∧
      ((¬ (r1 = (1 : Int))) →
      ((r1 = (2 : Int)) →
       Fin R [(B, .cells (spoiledA2 f ftp ftc fbp fbc fap fac) 28), (B1, .cells (spoiledA2 f ftp ftc fbp fbc fap fac) 28)] [] w0 (.agg (spoiledA2 f ftp ftc fbp fbc fap fac))) ∧
       ((¬ (r1 = (2 : Int))) →
       ((r1 = (3 : Int)) →
        Fin R [(B, .cells (spoiledA3 f ftp ftc fbp fbc fap fac) 28), (B1, .cells (spoiledA3 f ftp ftc fbp fbc fap fac) 28)] [] w0 (.agg (spoiledA3 f ftp ftc fbp fbc fap fac))) ∧
        ((¬ (r1 = (3 : Int))) →
        ((r1 = (4 : Int)) →
         (f.lang.size + (⟨#[101]⟩ : ByteArray).size ≤ 9223372036854775807) ∧
         Fin R [(B, .cells (spoiledA6 f ftp ftc fbp fbc fap fac) 28), (B1, .cells (spoiledA6 f ftp ftc fbp fbc fap fac) 28)] [] w0 (.agg (spoiledA6 f ftp ftc fbp fbc fap fac))) ∧
         ((¬ (r1 = (4 : Int))) →
         ((r1 = (5 : Int)) →
          Fin R [(B, .cells (spoiledA4 f ftp ftc fbp fbc fap fac) 28), (B1, .cells (spoiledA4 f ftp ftc fbp fbc fap fac) 28)] [] w0 (.agg (spoiledA4 f ftp ftc fbp fbc fap fac))) ∧
          ((¬ (r1 = (5 : Int))) →
          ((r1 = (6 : Int)) →
           Fin R (spoiledH1 B f ftp ftc fbp fbc fap fac B1) [] w0 (.agg (spoiledA9 f ftp ftc fbp fbc fap fac))) ∧
           ((¬ (r1 = (6 : Int))) →
           ((r1 = (7 : Int)) →
            ∀ B2 : Nat,
            ∃ news : List Value, (∀ W, Mem [(B, .cells (spoiledA10 f ftp ftc fbp fbc fap fac) 28), (B1, .cells spoiledA8 28), (B2, .cells #[] 9)] [] w0 W → Go.Src Tryz.prog 1 22 (.slice ftp f.topics.length ftc) f.topics.length news W) ∧
            (0 ≤ 0 ∧ (([] : List Value)).length = 0 * 1) ∧ ((0 + f.topics.length) ≤ 9223372036854775807 ∧ (0 + f.topics.length) * 16 ≤ 140737488355328) ∧
            ∀ (B3 cap : Nat) (r2 : List Value), (0 + f.topics.length) ≤ cap → ((([] : List Value)).take (0 * 1) ++ news ++ r2).length = cap * 1 →
            ∀ B4 : Nat,
            ((0 + f.topics.length) ≤ cap ∧ (((([] : List Value)).take (0 * 1) ++ news ++ r2)).length = cap * 1) ∧ (((0 + f.topics.length) + 1) ≤ 9223372036854775807 ∧ ((0 + f.topics.length) + 1) * 16 ≤ 140737488355328) ∧
            ∀ (B5 cap1 : Nat) (r3 : List Value), ((0 + f.topics.length) + 1) ≤ cap1 → ((((([] : List Value)).take (0 * 1) ++ news ++ r2)).take ((0 + f.topics.length) * 1) ++ ([.string (⟨#[122]⟩)] : List Value) ++ r3).length = cap1 * 1 →
            Fin R [(B, .cells (spoiledA5 f B5 cap1 fbp fbc fap fac) 28), (B1, .cells (spoiledA5 f B5 cap1 fbp fbc fap fac) 28), (B4, .cells #[.string (⟨#[122]⟩)] 9), (B5, .cells ⟨((((([] : List Value)).take (0 * 1) ++ news ++ r2)).take ((0 + f.topics.length) * 1) ++ ([.string (⟨#[122]⟩)] : List Value) ++ r3)⟩ 9)] [] w0 (.agg (spoiledA5 f B5 cap1 fbp fbc fap fac))) ∧
            ((¬ (r1 = (7 : Int))) →
            Fin R [(B, .cells (spoiledA1 f ftp ftc fbp fbc fap fac) 28), (B1, .cells (spoiledA1 f ftp ftc fbp fbc fap fac) 28)] [] w0 (.agg (spoiledA1 f ftp ftc fbp fbc fap fac)))))))))))) :
  Calls Tryz.prog 25 ⟨[.agg (spoiledA10 f ftp ftc fbp fbc fap fac), .int .i64 field]⟩ W R := by
 refine AtE.calls (nt := 65) Tryz.func25 (by kernel_rfl) hm ?_
 refine AtE.ru 2 ?_
 refine AtE.new (fun B => .pointer (some ⟨B, 0, none⟩)) (.cells (spoiledA10 f ftp ftc fbp fbc fap fac) 28) (fun W => by kernel_rfl) (by kernel_rfl) (fun B => ?_)
 replace H := H B
 refine AtE.new (fun B => .pointer (some ⟨B, 0, none⟩)) (.cells spoiledA8 28) (fun W => by kernel_rfl) (by kernel_rfl) (fun B1 => ?_)
 replace H := H B1
 refine AtE.ru 5 ?_
 refine AtE.call 23 ⟨[.int .i64 field, .int .i64 (9 : Int)]⟩ (fun W => by kernel_rfl) (by kernel_rfl) H ?_
 clear H
 rintro _ _ ⟨r1, rfl, rfl, H⟩
 refine AtE.ru 7 ?_
 refine AtE.splitP 11 (p := r1 = (0 : Int)) (by kernel_rfl) (fun h1' => ?_) (fun h1' => ?_)
 ·replace H := H.1 h1'
  refine AtE.ru 3 ?_
  refine AtE.load 0 15 (T := 3) (v := .int .i64 f.editor) (by kernel_rfl) ?_
  refine AtE.ru 2 ?_
  refine AtE.store 0 15 (T := 3) (v := .int .i64 (IntKind.i64.wrap (f.editor + (1 : Int)))) (by kernel_rfl) ?_
  refine AtE.ru 4 ?_
  refine AtE.load 0 0 (T := 28) (v := .agg (spoiledA0 f ftp ftc fbp fbc fap fac)) (by kernel_rfl) ?_
  refine AtE.norm (k' := [.inRegion (regOps [.code (sub (Eng.body Tryz.f25) [1,1,0])]) [1], .code (sub (Eng.body Tryz.f25) [1,1,1])]) (e' := [(4, .pointer (some ⟨B1, 0, none⟩)), (64, .agg (spoiledA0 f ftp ftc fbp fbc fap fac))]) (L' := [(B, .cells (spoiledA0 f ftp ftc fbp fbc fap fac) 28), (B1, .cells spoiledA8 28)]) ?_ (by kernel_rfl)
  refine AtE.store 1 0 (T := 28) (v := .agg (spoiledA0 f ftp ftc fbp fbc fap fac)) (by kernel_rfl) ?_
  refine AtE.ru 1 ?_
  exact AtE.retC 1 0 (a := 4) (T := 28) (v := .agg (spoiledA0 f ftp ftc fbp fbc fap fac)) Tryz.func25 (by kernel_rfl) (by kernel_rfl) H
 ·replace H := H.2 h1'
  refine AtE.ru 6 ?_
  refine AtE.splitP 17 (p := r1 = (1 : Int)) (by kernel_rfl) (fun h2' => ?_) (fun h2' => ?_)
  ·replace H := H.1 h2'
   refine AtE.ru 3 ?_
   refine AtE.load 0 19 (T := 9) (v := .string f.name) (by kernel_rfl) ?_
   refine AtE.concat (x := f.name) (y := ⟨#[97]⟩) (by kernel_rfl) H.1 ?_
   replace H := H.2
   refine AtE.norm (k' := [.inRegion (regOps [.code (sub (Eng.body Tryz.f25) [1,0,1,0,1,1,1,0])]) [3,4], .inBlock 0, .code (sub (Eng.body Tryz.f25) [1,1])]) (e' := [(2, .pointer (some ⟨B, 0, none⟩)), (4, .pointer (some ⟨B1, 0, none⟩)), (21, .string (f.name ++ (⟨#[97]⟩ : ByteArray)))]) (L' := (spoiledH0 B f ftp ftc fbp fbc fap fac B1)) ?_ (by kernel_rfl)
   refine AtE.ru 1 ?_
   refine AtE.store 0 19 (T := 9) (v := .string (f.name ++ (⟨#[97]⟩ : ByteArray))) (by kernel_rfl) ?_
   refine AtE.ru 4 ?_
   refine AtE.load 0 0 (T := 28) (v := .agg (spoiledA7 f ftp ftc fbp fbc fap fac)) (by kernel_rfl) ?_
   refine AtE.store 1 0 (T := 28) (v := .agg (spoiledA7 f ftp ftc fbp fbc fap fac)) (by kernel_rfl) ?_
   refine AtE.ru 1 ?_
   exact AtE.retC 1 0 (a := 4) (T := 28) (v := .agg (spoiledA7 f ftp ftc fbp fbc fap fac)) Tryz.func25 (by kernel_rfl) (by kernel_rfl) H
  ·replace H := H.2 h2'
   refine AtE.ru 6 ?_
   refine AtE.splitP 23 (p := r1 = (2 : Int)) (by kernel_rfl) (fun h3' => ?_) (fun h3' => ?_)
   ·replace H := H.1 h3'
    refine AtE.ru 3 ?_
    refine AtE.load 0 20 (T := 3) (v := .int .i64 f.partner) (by kernel_rfl) ?_
    refine AtE.norm (k' := [.inRegion (regOps [.code (sub (Eng.body Tryz.f25) [1,0,1,0,1,1,1,1,1,0])]) [2,3,4], .inBlock 0, .code (sub (Eng.body Tryz.f25) [1,1])]) (e' := [(2, .pointer (some ⟨B, 0, none⟩)), (4, .pointer (some ⟨B1, 0, none⟩)), (26, .int .i64 f.partner)]) (L' := (spoiledH0 B f ftp ftc fbp fbc fap fac B1)) ?_ (by kernel_rfl)
    refine AtE.ru 2 ?_
    refine AtE.store 0 20 (T := 3) (v := .int .i64 (IntKind.i64.wrap (f.partner + (1 : Int)))) (by kernel_rfl) ?_
    refine AtE.ru 4 ?_
    refine AtE.load 0 0 (T := 28) (v := .agg (spoiledA2 f ftp ftc fbp fbc fap fac)) (by kernel_rfl) ?_
    refine AtE.store 1 0 (T := 28) (v := .agg (spoiledA2 f ftp ftc fbp fbc fap fac)) (by kernel_rfl) ?_
    refine AtE.ru 1 ?_
    exact AtE.retC 1 0 (a := 4) (T := 28) (v := .agg (spoiledA2 f ftp ftc fbp fbc fap fac)) Tryz.func25 (by kernel_rfl) (by kernel_rfl) H
   ·replace H := H.2 h3'
    refine AtE.ru 6 ?_
    refine AtE.splitP 29 (p := r1 = (3 : Int)) (by kernel_rfl) (fun h4' => ?_) (fun h4' => ?_)
    ·replace H := H.1 h4'
     refine AtE.norm (k' := [.code (sub (Eng.body Tryz.f25) [1,0,1,0,1,1,1,1,1,1,1]), .inBlock 0, .code (sub (Eng.body Tryz.f25) [1,1])]) (e' := [(2, .pointer (some ⟨B, 0, none⟩)), (4, .pointer (some ⟨B1, 0, none⟩)), (6, .int .i64 r1), (29, .bool true)]) (L' := (spoiledH0 B f ftp ftc fbp fbc fap fac B1)) ?_ (by kernel_rfl)
     refine AtE.ru 3 ?_
     refine AtE.load 0 21 (T := 3) (v := .int .i64 f.cls) (by kernel_rfl) ?_
     refine AtE.ru 2 ?_
     refine AtE.store 0 21 (T := 3) (v := .int .i64 (IntKind.i64.wrap (f.cls + (1 : Int)))) (by kernel_rfl) ?_
     refine AtE.ru 4 ?_
     refine AtE.load 0 0 (T := 28) (v := .agg (spoiledA3 f ftp ftc fbp fbc fap fac)) (by kernel_rfl) ?_
     refine AtE.store 1 0 (T := 28) (v := .agg (spoiledA3 f ftp ftc fbp fbc fap fac)) (by kernel_rfl) ?_
     refine AtE.ru 1 ?_
     exact AtE.retC 1 0 (a := 4) (T := 28) (v := .agg (spoiledA3 f ftp ftc fbp fbc fap fac)) Tryz.func25 (by kernel_rfl) (by kernel_rfl) H
    ·replace H := H.2 h4'
     refine AtE.norm (k' := [.code (sub (Eng.body Tryz.f25) [1,0,1,0,1,1,1,1,1,1,1]), .inBlock 0, .code (sub (Eng.body Tryz.f25) [1,1])]) (e' := [(2, .pointer (some ⟨B, 0, none⟩)), (4, .pointer (some ⟨B1, 0, none⟩)), (6, .int .i64 r1), (29, .bool false)]) (L' := (spoiledH0 B f ftp ftc fbp fbc fap fac B1)) ?_ (by kernel_rfl)
     refine AtE.ru 6 ?_
     refine AtE.splitP 35 (p := r1 = (4 : Int)) (by kernel_rfl) (fun h5' => ?_) (fun h5' => ?_)
     ·replace H := H.1 h5'
      refine AtE.ru 3 ?_
      refine AtE.load 0 4 (T := 9) (v := .string f.lang) (by kernel_rfl) ?_
      refine AtE.concat (x := f.lang) (y := ⟨#[101]⟩) (by kernel_rfl) H.1 ?_
      replace H := H.2
      refine AtE.ru 1 ?_
      refine AtE.store 0 4 (T := 9) (v := .string (f.lang ++ (⟨#[101]⟩ : ByteArray))) (by kernel_rfl) ?_
      refine AtE.ru 4 ?_
      refine AtE.load 0 0 (T := 28) (v := .agg (spoiledA6 f ftp ftc fbp fbc fap fac)) (by kernel_rfl) ?_
      refine AtE.store 1 0 (T := 28) (v := .agg (spoiledA6 f ftp ftc fbp fbc fap fac)) (by kernel_rfl) ?_
      refine AtE.ru 1 ?_
      exact AtE.retC 1 0 (a := 4) (T := 28) (v := .agg (spoiledA6 f ftp ftc fbp fbc fap fac)) Tryz.func25 (by kernel_rfl) (by kernel_rfl) H
     ·replace H := H.2 h5'
      refine AtE.ru 6 ?_
      refine AtE.splitP 41 (p := r1 = (5 : Int)) (by kernel_rfl) (fun h6' => ?_) (fun h6' => ?_)
      ·replace H := H.1 h6'
       refine AtE.ru 3 ?_
       refine AtE.load 0 5 (T := 3) (v := .int .i64 f.rev) (by kernel_rfl) ?_
       refine AtE.ru 2 ?_
       refine AtE.store 0 5 (T := 3) (v := .int .i64 (IntKind.i64.wrap (f.rev + (1 : Int)))) (by kernel_rfl) ?_
       refine AtE.ru 4 ?_
       refine AtE.load 0 0 (T := 28) (v := .agg (spoiledA4 f ftp ftc fbp fbc fap fac)) (by kernel_rfl) ?_
       refine AtE.store 1 0 (T := 28) (v := .agg (spoiledA4 f ftp ftc fbp fbc fap fac)) (by kernel_rfl) ?_
       refine AtE.ru 1 ?_
       exact AtE.retC 1 0 (a := 4) (T := 28) (v := .agg (spoiledA4 f ftp ftc fbp fbc fap fac)) Tryz.func25 (by kernel_rfl) (by kernel_rfl) H
      ·replace H := H.2 h6'
       refine AtE.ru 6 ?_
       refine AtE.splitP 47 (p := r1 = (6 : Int)) (by kernel_rfl) (fun h7' => ?_) (fun h7' => ?_)
       ·replace H := H.1 h7'
        refine AtE.ru 4 ?_
        refine AtE.load 0 13 (T := 3) (v := .int .i64 f.lab.appr) (by kernel_rfl) ?_
        refine AtE.ru 3 ?_
        refine AtE.store 0 13 (T := 3) (v := .int .i64 (IntKind.i64.wrap (f.lab.appr + (1 : Int)))) (by kernel_rfl) ?_
        refine AtE.ru 4 ?_
        refine AtE.load 0 0 (T := 28) (v := .agg (spoiledA9 f ftp ftc fbp fbc fap fac)) (by kernel_rfl) ?_
        refine AtE.store 1 0 (T := 28) (v := .agg (spoiledA9 f ftp ftc fbp fbc fap fac)) (by kernel_rfl) ?_
        refine AtE.norm (k' := [.inRegion (regOps [.code (sub (Eng.body Tryz.f25) [1,1,0])]) [], .code (sub (Eng.body Tryz.f25) [1,1,1])]) (e' := [(4, .pointer (some ⟨B1, 0, none⟩))]) (L' := (spoiledH1 B f ftp ftc fbp fbc fap fac B1)) ?_ (by kernel_rfl)
        refine AtE.ru 1 ?_
        exact AtE.retC 1 0 (a := 4) (T := 28) (v := .agg (spoiledA9 f ftp ftc fbp fbc fap fac)) Tryz.func25 (by kernel_rfl) (by kernel_rfl) H
       ·replace H := H.2 h7'
        refine AtE.ru 6 ?_
        refine AtE.splitP 55 (p := r1 = (7 : Int)) (by kernel_rfl) (fun h8' => ?_) (fun h8' => ?_)
        ·replace H := H.1 h8'
         refine AtE.ru 2 ?_
         refine AtE.new (fun B => .slice (some ⟨B, 0, none⟩) 0 0) (.cells #[] 9) (fun W => by kernel_rfl) (by kernel_rfl) (fun B2 => ?_)
         replace H := H B2
         refine AtE.ru 1 ?_
         refine AtE.load 0 9 (T := 22) (v := .slice ftp f.topics.length ftc) (by kernel_rfl) ?_
         obtain ⟨news, hsrc, H⟩ := H
         refine AtE.appendOS 2 (T := 22) (U := 22) (E := 9) (z := .string (⟨#[]⟩)) (sz := 1) (bytes := 16) (len := 0) (cap := 0) (x := .slice ftp f.topics.length ftc) (cs := ([] : List Value)) f.topics.length news (by kernel_rfl) hsrc H.1 H.2.1 (fun B3 cap r2 h1 h2 => ?_)
         replace H := H.2.2 B3 cap r2 h1 h2
         refine AtE.norm (k' := [.inRegion (regOps [.code (sub (Eng.body Tryz.f25) [1,0,1,0,1,1,1,1,1,1,1,1,1,1,1,1,1,1,1,0])]) [4,5,6,7], .inBlock 0, .code (sub (Eng.body Tryz.f25) [1,1])]) (e' := [(2, .pointer (some ⟨B, 0, none⟩)), (4, .pointer (some ⟨B1, 0, none⟩)), (60, .slice (some ⟨B3, 0, none⟩) (0 + f.topics.length) cap)]) (L' := [(B, .cells (spoiledA10 f ftp ftc fbp fbc fap fac) 28), (B1, .cells spoiledA8 28), (B3, .cells ⟨((([] : List Value)).take (0 * 1) ++ news ++ r2)⟩ 9)]) ?_ (by kernel_rfl)
         refine AtE.new (fun B => .slice (some ⟨B, 0, none⟩) 1 1) (.cells #[.string (⟨#[122]⟩)] 9) (fun W => by kernel_rfl) (by kernel_rfl) (fun B4 => ?_)
         replace H := H B4
         refine AtE.appendO 2 (T := 22) (E := 9) (z := .string (⟨#[]⟩)) (sz := 1) (bytes := 16) (n := (0 + f.topics.length)) (cap := cap) (a := ⟨B4, 0, none⟩) (m := 1) (c := 1) (cs := ((([] : List Value)).take (0 * 1) ++ news ++ r2)) ([.string (⟨#[122]⟩)] : List Value) (by kernel_rfl) (show Src _ _ _ _ ([.string (⟨#[122]⟩)] : List Value) from Src.own (j := 3) (o := 0) (n := 1) (c := ([.string (⟨#[122]⟩)] : List Value)) (by kernel_rfl)) (by simp) (by simp [Value.oneCell']) H.1 H.2.1 (fun B5 cap1 r3 h1 h2 => ?_)
         replace H := H.2.2 B5 cap1 r3 h1 h2
         refine AtE.ru 1 ?_
         refine AtE.store 0 9 (T := 22) (v := .slice (some ⟨B5, 0, none⟩) ((0 + f.topics.length) + 1) cap1) (by kernel_rfl) ?_
         refine AtE.ru 4 ?_
         refine AtE.load 0 0 (T := 28) (v := .agg (spoiledA5 f B5 cap1 fbp fbc fap fac)) (by kernel_rfl) ?_
         refine AtE.store 1 0 (T := 28) (v := .agg (spoiledA5 f B5 cap1 fbp fbc fap fac)) (by kernel_rfl) ?_
         refine AtE.ru 1 ?_
         exact AtE.retC 1 0 (a := 4) (T := 28) (v := .agg (spoiledA5 f B5 cap1 fbp fbc fap fac)) Tryz.func25 (by kernel_rfl) (by kernel_rfl) H
        ·replace H := H.2 h8'
         refine AtE.ru 3 ?_
         refine AtE.load 0 16 (T := 3) (v := .int .i64 f.block) (by kernel_rfl) ?_
         refine AtE.ru 2 ?_
         refine AtE.store 0 16 (T := 3) (v := .int .i64 (IntKind.i64.wrap (f.block + (1 : Int)))) (by kernel_rfl) ?_
         refine AtE.ru 4 ?_
         refine AtE.load 0 0 (T := 28) (v := .agg (spoiledA1 f ftp ftc fbp fbc fap fac)) (by kernel_rfl) ?_
         refine AtE.norm (k' := [.inRegion (regOps [.code (sub (Eng.body Tryz.f25) [1,1,0])]) [1], .code (sub (Eng.body Tryz.f25) [1,1,1])]) (e' := [(4, .pointer (some ⟨B1, 0, none⟩)), (64, .agg (spoiledA1 f ftp ftc fbp fbc fap fac))]) (L' := [(B, .cells (spoiledA1 f ftp ftc fbp fbc fap fac) 28), (B1, .cells spoiledA8 28)]) ?_ (by kernel_rfl)
         refine AtE.store 1 0 (T := 28) (v := .agg (spoiledA1 f ftp ftc fbp fbc fap fac)) (by kernel_rfl) ?_
         refine AtE.ru 1 ?_
         exact AtE.retC 1 0 (a := 4) (T := 28) (v := .agg (spoiledA1 f ftp ftc fbp fbc fap fac)) Tryz.func25 (by kernel_rfl) (by kernel_rfl) H
end Go.Eng
namespace Go.Eng
open Go Go.RowKit Go.Proofs
set_option linter.unusedVariables false
set_option maxRecDepth 100000
abbrev sane5H0 (B5 : Nat) (z : Fct) (ztp : Option Addr) (ztc : Nat) (zbp : Option Addr) (zbc : Nat) (zap : Option Addr) (zac : Nat) (B4 : Nat) (B3 : Nat) (B2 : Nat) (d2 : Fct) (d2tp : Option Addr) (d2tc : Nat) (d2bp : Option Addr) (d2bc : Nat) (d2ap : Option Addr) (d2ac : Nat) (B1 : Nat) (d1 : Fct) (d1tp : Option Addr) (d1tc : Nat) (d1bp : Option Addr) (d1bc : Nat) (d1ap : Option Addr) (d1ac : Nat) (B : Nat) (d : Fct) (dtp : Option Addr) (dtc : Nat) (dbp : Option Addr) (dbc : Nat) (dap : Option Addr) (dac : Nat) (F3 : SHeap) : SHeap := ((B5, .cells #[.int .i64 z.n, .int .i64 z.time, .int .i64 z.kind, .int .i64 z.story, .string z.lang, .int .i64 z.rev, .int .i64 z.base, .string z.title, .string z.author, .slice ztp z.topics.length ztc, .slice zbp z.blocks.length zbc, .int .i64 z.lab.unt, .slice zap z.lab.after.length zac, .int .i64 z.lab.appr, .int .i64 z.lab.den, .int .i64 z.editor, .int .i64 z.block, .int .i64 z.sentence, .string z.text, .string z.name, .int .i64 z.partner, .int .i64 z.cls, .int .i64 z.unt] 28) :: (B4, .cells #[.int .i64 (1 : Int), .int .i64 (1 : Int), .string (⟨#[82,97,105,110]⟩), .int .i64 (0 : Int), .int .i64 (0 : Int), .int .i64 (0 : Int), .slice none 0 0, .int .i64 (0 : Int), .int .i64 (0 : Int)] 89) :: (B3, .cells #[.string (⟨#[97]⟩), .string (⟨#[98]⟩)] 9) :: (B2, .cells #[.int .i64 d2.n, .int .i64 d2.time, .int .i64 d2.kind, .int .i64 d2.story, .string d2.lang, .int .i64 d2.rev, .int .i64 d2.base, .string d2.title, .string d2.author, .slice d2tp d2.topics.length d2tc, .slice d2bp d2.blocks.length d2bc, .int .i64 d2.lab.unt, .slice d2ap d2.lab.after.length d2ac, .int .i64 d2.lab.appr, .int .i64 d2.lab.den, .int .i64 d2.editor, .int .i64 d2.block, .int .i64 d2.sentence, .string d2.text, .string d2.name, .int .i64 d2.partner, .int .i64 d2.cls, .int .i64 d2.unt] 28) :: (B1, .cells #[.int .i64 d1.n, .int .i64 d1.time, .int .i64 d1.kind, .int .i64 d1.story, .string d1.lang, .int .i64 d1.rev, .int .i64 d1.base, .string d1.title, .string d1.author, .slice d1tp d1.topics.length d1tc, .slice d1bp d1.blocks.length d1bc, .int .i64 d1.lab.unt, .slice d1ap d1.lab.after.length d1ac, .int .i64 d1.lab.appr, .int .i64 d1.lab.den, .int .i64 d1.editor, .int .i64 d1.block, .int .i64 d1.sentence, .string d1.text, .string d1.name, .int .i64 d1.partner, .int .i64 d1.cls, .int .i64 d1.unt] 28) :: (B, .cells #[.int .i64 d.n, .int .i64 d.time, .int .i64 d.kind, .int .i64 d.story, .string d.lang, .int .i64 d.rev, .int .i64 d.base, .string d.title, .string d.author, .slice dtp d.topics.length dtc, .slice dbp d.blocks.length dbc, .int .i64 d.lab.unt, .slice dap d.lab.after.length dac, .int .i64 d.lab.appr, .int .i64 d.lab.den, .int .i64 d.editor, .int .i64 d.block, .int .i64 d.sentence, .string d.text, .string d.name, .int .i64 d.partner, .int .i64 d.cls, .int .i64 d.unt] 28) :: F3)
abbrev sane5H1 (B2 : Nat) (d2 : Fct) (d2tp : Option Addr) (d2tc : Nat) (d2bp : Option Addr) (d2bc : Nat) (d2ap : Option Addr) (d2ac : Nat) (B1 : Nat) (d1 : Fct) (d1tp : Option Addr) (d1tc : Nat) (d1bp : Option Addr) (d1bc : Nat) (d1ap : Option Addr) (d1ac : Nat) (B : Nat) (d : Fct) (dtp : Option Addr) (dtc : Nat) (dbp : Option Addr) (dbc : Nat) (dap : Option Addr) (dac : Nat) (F2 : SHeap) : SHeap := ((B2, .cells #[.int .i64 d2.n, .int .i64 d2.time, .int .i64 d2.kind, .int .i64 d2.story, .string d2.lang, .int .i64 d2.rev, .int .i64 d2.base, .string d2.title, .string d2.author, .slice d2tp d2.topics.length d2tc, .slice d2bp d2.blocks.length d2bc, .int .i64 d2.lab.unt, .slice d2ap d2.lab.after.length d2ac, .int .i64 d2.lab.appr, .int .i64 d2.lab.den, .int .i64 d2.editor, .int .i64 d2.block, .int .i64 d2.sentence, .string d2.text, .string d2.name, .int .i64 d2.partner, .int .i64 d2.cls, .int .i64 d2.unt] 28) :: (B1, .cells #[.int .i64 d1.n, .int .i64 d1.time, .int .i64 d1.kind, .int .i64 d1.story, .string d1.lang, .int .i64 d1.rev, .int .i64 d1.base, .string d1.title, .string d1.author, .slice d1tp d1.topics.length d1tc, .slice d1bp d1.blocks.length d1bc, .int .i64 d1.lab.unt, .slice d1ap d1.lab.after.length d1ac, .int .i64 d1.lab.appr, .int .i64 d1.lab.den, .int .i64 d1.editor, .int .i64 d1.block, .int .i64 d1.sentence, .string d1.text, .string d1.name, .int .i64 d1.partner, .int .i64 d1.cls, .int .i64 d1.unt] 28) :: (B, .cells #[.int .i64 d.n, .int .i64 d.time, .int .i64 d.kind, .int .i64 d.story, .string d.lang, .int .i64 d.rev, .int .i64 d.base, .string d.title, .string d.author, .slice dtp d.topics.length dtc, .slice dbp d.blocks.length dbc, .int .i64 d.lab.unt, .slice dap d.lab.after.length dac, .int .i64 d.lab.appr, .int .i64 d.lab.den, .int .i64 d.editor, .int .i64 d.block, .int .i64 d.sentence, .string d.text, .string d.name, .int .i64 d.partner, .int .i64 d.cls, .int .i64 d.unt] 28) :: F2)
abbrev sane5H2 (B4 : Nat) (B3 : Nat) (B2 : Nat) (d2 : Fct) (d2tp : Option Addr) (d2tc : Nat) (d2bp : Option Addr) (d2bc : Nat) (d2ap : Option Addr) (d2ac : Nat) (B1 : Nat) (d1 : Fct) (d1tp : Option Addr) (d1tc : Nat) (d1bp : Option Addr) (d1bc : Nat) (d1ap : Option Addr) (d1ac : Nat) (B : Nat) (d : Fct) (dtp : Option Addr) (dtc : Nat) (dbp : Option Addr) (dbc : Nat) (dap : Option Addr) (dac : Nat) (F2 : SHeap) : SHeap := ((B4, .cells #[.int .i64 (1 : Int), .int .i64 (1 : Int), .string (⟨#[82,97,105,110]⟩), .int .i64 (0 : Int), .int .i64 (0 : Int), .int .i64 (0 : Int), .slice none 0 0, .int .i64 (0 : Int), .int .i64 (0 : Int)] 89) :: (B3, .cells #[.string (⟨#[97]⟩), .string (⟨#[98]⟩)] 9) :: (B2, .cells #[.int .i64 d2.n, .int .i64 d2.time, .int .i64 d2.kind, .int .i64 d2.story, .string d2.lang, .int .i64 d2.rev, .int .i64 d2.base, .string d2.title, .string d2.author, .slice d2tp d2.topics.length d2tc, .slice d2bp d2.blocks.length d2bc, .int .i64 d2.lab.unt, .slice d2ap d2.lab.after.length d2ac, .int .i64 d2.lab.appr, .int .i64 d2.lab.den, .int .i64 d2.editor, .int .i64 d2.block, .int .i64 d2.sentence, .string d2.text, .string d2.name, .int .i64 d2.partner, .int .i64 d2.cls, .int .i64 d2.unt] 28) :: (B1, .cells #[.int .i64 d1.n, .int .i64 d1.time, .int .i64 d1.kind, .int .i64 d1.story, .string d1.lang, .int .i64 d1.rev, .int .i64 d1.base, .string d1.title, .string d1.author, .slice d1tp d1.topics.length d1tc, .slice d1bp d1.blocks.length d1bc, .int .i64 d1.lab.unt, .slice d1ap d1.lab.after.length d1ac, .int .i64 d1.lab.appr, .int .i64 d1.lab.den, .int .i64 d1.editor, .int .i64 d1.block, .int .i64 d1.sentence, .string d1.text, .string d1.name, .int .i64 d1.partner, .int .i64 d1.cls, .int .i64 d1.unt] 28) :: (B, .cells #[.int .i64 d.n, .int .i64 d.time, .int .i64 d.kind, .int .i64 d.story, .string d.lang, .int .i64 d.rev, .int .i64 d.base, .string d.title, .string d.author, .slice dtp d.topics.length dtc, .slice dbp d.blocks.length dbc, .int .i64 d.lab.unt, .slice dap d.lab.after.length dac, .int .i64 d.lab.appr, .int .i64 d.lab.den, .int .i64 d.editor, .int .i64 d.block, .int .i64 d.sentence, .string d.text, .string d.name, .int .i64 d.partner, .int .i64 d.cls, .int .i64 d.unt] 28) :: F2)
abbrev sane5H3 (B1 : Nat) (d1 : Fct) (d1tp : Option Addr) (d1tc : Nat) (d1bp : Option Addr) (d1bc : Nat) (d1ap : Option Addr) (d1ac : Nat) (B : Nat) (d : Fct) (dtp : Option Addr) (dtc : Nat) (dbp : Option Addr) (dbc : Nat) (dap : Option Addr) (dac : Nat) (F1 : SHeap) : SHeap := ((B1, .cells #[.int .i64 d1.n, .int .i64 d1.time, .int .i64 d1.kind, .int .i64 d1.story, .string d1.lang, .int .i64 d1.rev, .int .i64 d1.base, .string d1.title, .string d1.author, .slice d1tp d1.topics.length d1tc, .slice d1bp d1.blocks.length d1bc, .int .i64 d1.lab.unt, .slice d1ap d1.lab.after.length d1ac, .int .i64 d1.lab.appr, .int .i64 d1.lab.den, .int .i64 d1.editor, .int .i64 d1.block, .int .i64 d1.sentence, .string d1.text, .string d1.name, .int .i64 d1.partner, .int .i64 d1.cls, .int .i64 d1.unt] 28) :: (B, .cells #[.int .i64 d.n, .int .i64 d.time, .int .i64 d.kind, .int .i64 d.story, .string d.lang, .int .i64 d.rev, .int .i64 d.base, .string d.title, .string d.author, .slice dtp d.topics.length dtc, .slice dbp d.blocks.length dbc, .int .i64 d.lab.unt, .slice dap d.lab.after.length dac, .int .i64 d.lab.appr, .int .i64 d.lab.den, .int .i64 d.editor, .int .i64 d.block, .int .i64 d.sentence, .string d.text, .string d.name, .int .i64 d.partner, .int .i64 d.cls, .int .i64 d.unt] 28) :: F1)
abbrev sane5A0 (d : Fct) (dtp : Option Addr) (dtc : Nat) (dbp : Option Addr) (dbc : Nat) (dap : Option Addr) (dac : Nat) : Array Value := #[.int .i64 d.n, .int .i64 d.time, .int .i64 d.kind, .int .i64 d.story, .string d.lang, .int .i64 d.rev, .int .i64 d.base, .string d.title, .string d.author, .slice dtp d.topics.length dtc, .slice dbp d.blocks.length dbc, .int .i64 d.lab.unt, .slice dap d.lab.after.length dac, .int .i64 d.lab.appr, .int .i64 d.lab.den, .int .i64 d.editor, .int .i64 d.block, .int .i64 d.sentence, .string d.text, .string d.name, .int .i64 d.partner, .int .i64 d.cls, .int .i64 d.unt]
abbrev sane5A1 (z : Fct) (ztp : Option Addr) (ztc : Nat) (zbp : Option Addr) (zbc : Nat) (zap : Option Addr) (zac : Nat) : Array Value := #[.int .i64 z.n, .int .i64 z.time, .int .i64 z.kind, .int .i64 z.story, .string z.lang, .int .i64 z.rev, .int .i64 z.base, .string z.title, .string z.author, .slice ztp z.topics.length ztc, .slice zbp z.blocks.length zbc, .int .i64 z.lab.unt, .slice zap z.lab.after.length zac, .int .i64 z.lab.appr, .int .i64 z.lab.den, .int .i64 z.editor, .int .i64 z.block, .int .i64 z.sentence, .string z.text, .string z.name, .int .i64 z.partner, .int .i64 z.cls, .int .i64 z.unt]
abbrev sane5A2 (d1 : Fct) (d1tp : Option Addr) (d1tc : Nat) (d1bp : Option Addr) (d1bc : Nat) (d1ap : Option Addr) (d1ac : Nat) : Array Value := #[.int .i64 d1.n, .int .i64 d1.time, .int .i64 d1.kind, .int .i64 d1.story, .string d1.lang, .int .i64 d1.rev, .int .i64 d1.base, .string d1.title, .string d1.author, .slice d1tp d1.topics.length d1tc, .slice d1bp d1.blocks.length d1bc, .int .i64 d1.lab.unt, .slice d1ap d1.lab.after.length d1ac, .int .i64 d1.lab.appr, .int .i64 d1.lab.den, .int .i64 d1.editor, .int .i64 d1.block, .int .i64 d1.sentence, .string d1.text, .string d1.name, .int .i64 d1.partner, .int .i64 d1.cls, .int .i64 d1.unt]
abbrev sane5A3 : Array Value := #[.int .i64 (0 : Int), .int .i64 (0 : Int), .int .i64 (0 : Int), .int .i64 (0 : Int), .string (⟨#[]⟩), .int .i64 (0 : Int), .int .i64 (0 : Int), .string (⟨#[]⟩), .string (⟨#[]⟩), .slice none 0 0, .slice none 0 0, .int .i64 (0 : Int), .slice none 0 0, .int .i64 (0 : Int), .int .i64 (0 : Int), .int .i64 (0 : Int), .int .i64 (0 : Int), .int .i64 (0 : Int), .string (⟨#[]⟩), .string (⟨#[]⟩), .int .i64 (0 : Int), .int .i64 (0 : Int), .int .i64 (0 : Int)]
abbrev sane5A4 (d2 : Fct) (d2tp : Option Addr) (d2tc : Nat) (d2bp : Option Addr) (d2bc : Nat) (d2ap : Option Addr) (d2ac : Nat) : Array Value := #[.int .i64 d2.n, .int .i64 d2.time, .int .i64 d2.kind, .int .i64 d2.story, .string d2.lang, .int .i64 d2.rev, .int .i64 d2.base, .string d2.title, .string d2.author, .slice d2tp d2.topics.length d2tc, .slice d2bp d2.blocks.length d2bc, .int .i64 d2.lab.unt, .slice d2ap d2.lab.after.length d2ac, .int .i64 d2.lab.appr, .int .i64 d2.lab.den, .int .i64 d2.editor, .int .i64 d2.block, .int .i64 d2.sentence, .string d2.text, .string d2.name, .int .i64 d2.partner, .int .i64 d2.cls, .int .i64 d2.unt]
abbrev sane5A5 (B3 : Nat) (B4 : Nat) : Array Value := #[.int .i64 (0 : Int), .int .i64 (0 : Int), .int .i64 (1 : Int), .int .i64 (1 : Int), .string (⟨#[101,110]⟩), .int .i64 (1 : Int), .int .i64 (0 : Int), .string (⟨#[82,97,105,110]⟩), .string (⟨#[97,110,110]⟩), .slice (some ⟨B3, 0, none⟩) 2 2, .slice (some ⟨B4, 0, none⟩) 1 1, .int .i64 (0 : Int), .slice none 0 0, .int .i64 (0 : Int), .int .i64 (0 : Int), .int .i64 (0 : Int), .int .i64 (0 : Int), .int .i64 (0 : Int), .string (⟨#[]⟩), .string (⟨#[]⟩), .int .i64 (0 : Int), .int .i64 (0 : Int), .int .i64 (0 : Int)]
abbrev sane5A6 : Array Value := #[.int .i64 (9 : Int), .int .i64 (5 : Int), .int .i64 (4 : Int), .int .i64 (2 : Int), .string (⟨#[101,110]⟩), .int .i64 (0 : Int), .int .i64 (0 : Int), .string (⟨#[]⟩), .string (⟨#[]⟩), .slice none 0 0, .slice none 0 0, .int .i64 (0 : Int), .slice none 0 0, .int .i64 (0 : Int), .int .i64 (0 : Int), .int .i64 (0 : Int), .int .i64 (1 : Int), .int .i64 (0 : Int), .string (⟨#[78,111,46]⟩), .string (⟨#[]⟩), .int .i64 (0 : Int), .int .i64 (0 : Int), .int .i64 (0 : Int)]
abbrev sane5A7 : Array Value := #[.int .i64 (1 : Int), .int .i64 (0 : Int), .int .i64 (2 : Int), .int .i64 (3 : Int), .string (⟨#[101,110]⟩), .int .i64 (0 : Int), .int .i64 (0 : Int), .string (⟨#[]⟩), .string (⟨#[]⟩), .slice none 0 0, .slice none 0 0, .int .i64 (0 : Int), .slice none 0 0, .int .i64 (0 : Int), .int .i64 (0 : Int), .int .i64 (2 : Int), .int .i64 (0 : Int), .int .i64 (0 : Int), .string (⟨#[]⟩), .string (⟨#[]⟩), .int .i64 (0 : Int), .int .i64 (0 : Int), .int .i64 (0 : Int)]
abbrev sane5A8 : Array Value := #[.int .i64 (2 : Int), .int .i64 (70 : Int), .int .i64 (6 : Int), .int .i64 (65 : Int), .string (⟨#[]⟩), .int .i64 (0 : Int), .int .i64 (0 : Int), .string (⟨#[]⟩), .string (⟨#[]⟩), .slice none 0 0, .slice none 0 0, .int .i64 (0 : Int), .slice none 0 0, .int .i64 (0 : Int), .int .i64 (0 : Int), .int .i64 (0 : Int), .int .i64 (0 : Int), .int .i64 (0 : Int), .string (⟨#[]⟩), .string (⟨#[]⟩), .int .i64 (0 : Int), .int .i64 (0 : Int), .int .i64 (0 : Int)]
abbrev sane5A9 : Array Value := #[.int .i64 (2 : Int), .int .i64 (70 : Int), .int .i64 (6 : Int), .int .i64 (5 : Int), .string (⟨#[]⟩), .int .i64 (0 : Int), .int .i64 (0 : Int), .string (⟨#[]⟩), .string (⟨#[]⟩), .slice none 0 0, .slice none 0 0, .int .i64 (0 : Int), .slice none 0 0, .int .i64 (0 : Int), .int .i64 (0 : Int), .int .i64 (0 : Int), .int .i64 (0 : Int), .int .i64 (0 : Int), .string (⟨#[]⟩), .string (⟨#[]⟩), .int .i64 (0 : Int), .int .i64 (0 : Int), .int .i64 (0 : Int)]
abbrev sane5A10 : Array Value := #[.int .i64 (9 : Int), .int .i64 (5 : Int), .int .i64 (10 : Int), .int .i64 (2 : Int), .string (⟨#[]⟩), .int .i64 (0 : Int), .int .i64 (0 : Int), .string (⟨#[]⟩), .string (⟨#[]⟩), .slice none 0 0, .slice none 0 0, .int .i64 (0 : Int), .slice none 0 0, .int .i64 (0 : Int), .int .i64 (0 : Int), .int .i64 (0 : Int), .int .i64 (0 : Int), .int .i64 (0 : Int), .string (⟨#[]⟩), .string (⟨#[]⟩), .int .i64 (0 : Int), .int .i64 (0 : Int), .int .i64 (0 : Int)]
abbrev sane5A11 : Array Value := #[.int .i64 (1 : Int), .int .i64 (0 : Int), .int .i64 (2 : Int), .int .i64 (3 : Int), .string (⟨#[]⟩), .int .i64 (0 : Int), .int .i64 (0 : Int), .string (⟨#[]⟩), .string (⟨#[]⟩), .slice none 0 0, .slice none 0 0, .int .i64 (0 : Int), .slice none 0 0, .int .i64 (0 : Int), .int .i64 (0 : Int), .int .i64 (2 : Int), .int .i64 (0 : Int), .int .i64 (0 : Int), .string (⟨#[]⟩), .string (⟨#[]⟩), .int .i64 (0 : Int), .int .i64 (0 : Int), .int .i64 (0 : Int)]
theorem sane5_vc  {R : Ending → World → Prop} {w0 W : World} (hm : Mem [] [] w0 W)
  (H :
   CallH Tryz.prog 19 ⟨[.agg sane5A9]⟩ [] [] w0 (fun v L' => ∃ (r1 : ByteArray) (r21 : Int), v = (.tuple #[.string r1, .int .i64 r21]) ∧ L' = [] ∧
    CallH Tryz.prog 21 ⟨[.string (⟨#[4,140,1,12,10]⟩)]⟩ [] [] w0 (fun v L' => ∃ (d : Fct) (dtp : Option Addr) (dtc : Nat) (dbp : Option Addr) (dbc : Nat) (dap : Option Addr) (dac : Nat) (ev : Int) (F : SHeap), v = (.tuple #[.agg (sane5A0 d dtp dtc dbp dbc dap dac), .int .i64 ev]) ∧ L' = (F) ∧
     ∀ B : Nat,
     CallH Tryz.prog 21 ⟨[.string (⟨#[4,140,1,12,10,0]⟩)]⟩ ((B, .cells (sane5A0 d dtp dtc dbp dbc dap dac) 28) :: F) [] w0 (fun v L' => ∃ (d1 : Fct) (d1tp : Option Addr) (d1tc : Nat) (d1bp : Option Addr) (d1bc : Nat) (d1ap : Option Addr) (d1ac : Nat) (ev1 : Int) (F1 : SHeap), v = (.tuple #[.agg (sane5A2 d1 d1tp d1tc d1bp d1bc d1ap d1ac), .int .i64 ev1]) ∧ L' = ((B, .cells (sane5A0 d dtp dtc dbp dbc dap dac) 28) :: F1) ∧
      ∀ B1 : Nat,
      CallH Tryz.prog 21 ⟨[.string (⟨#[4,140,1,22,10]⟩)]⟩ (sane5H3 B1 d1 d1tp d1tc d1bp d1bc d1ap d1ac B d dtp dtc dbp dbc dap dac F1) [] w0 (fun v L' => ∃ (d2 : Fct) (d2tp : Option Addr) (d2tc : Nat) (d2bp : Option Addr) (d2bc : Nat) (d2ap : Option Addr) (d2ac : Nat) (ev2 : Int) (F2 : SHeap), v = (.tuple #[.agg (sane5A4 d2 d2tp d2tc d2bp d2bc d2ap d2ac), .int .i64 ev2]) ∧ L' = ((B1, .cells (sane5A2 d1 d1tp d1tc d1bp d1bc d1ap d1ac) 28) :: (B, .cells (sane5A0 d dtp dtc dbp dbc dap dac) 28) :: F2) ∧
       ∀ B2 : Nat,
       CallH Tryz.prog 19 ⟨[.agg sane5A8]⟩ (sane5H1 B2 d2 d2tp d2tc d2bp d2bc d2ap d2ac B1 d1 d1tp d1tc d1bp d1bc d1ap d1ac B d dtp dtc dbp dbc dap dac F2) [] w0 (fun v L' => ∃ (r91 : ByteArray) (r101 : Int), v = (.tuple #[.string r91, .int .i64 r101]) ∧ L' = (sane5H1 B2 d2 d2tp d2tc d2bp d2bc d2ap d2ac B1 d1 d1tp d1tc d1bp d1bc d1ap d1ac B d dtp dtc dbp dbc dap dac F2) ∧
        CallH Tryz.prog 20 ⟨[.agg sane5A11]⟩ (sane5H1 B2 d2 d2tp d2tc d2bp d2bc d2ap d2ac B1 d1 d1tp d1tc d1bp d1bc d1ap d1ac B d dtp dtc dbp dbc dap dac F2) [] w0 (fun v L' => ∃ (r111 : Bool), v = (.bool r111) ∧ L' = (sane5H1 B2 d2 d2tp d2tc d2bp d2bc d2ap d2ac B1 d1 d1tp d1tc d1bp d1bc d1ap d1ac B d dtp dtc dbp dbc dap dac F2) ∧
         CallH Tryz.prog 20 ⟨[.agg sane5A7]⟩ (sane5H1 B2 d2 d2tp d2tc d2bp d2bc d2ap d2ac B1 d1 d1tp d1tc d1bp d1bc d1ap d1ac B d dtp dtc dbp dbc dap dac F2) [] w0 (fun v L' => ∃ (r121 : Bool), v = (.bool r121) ∧ L' = (sane5H1 B2 d2 d2tp d2tc d2bp d2bc d2ap d2ac B1 d1 d1tp d1tc d1bp d1bc d1ap d1ac B d dtp dtc dbp dbc dap dac F2) ∧
          ∀ B3 : Nat,
          ∀ B4 : Nat,
          CallH Tryz.prog 20 ⟨[.agg (sane5A5 B3 B4)]⟩ (sane5H2 B4 B3 B2 d2 d2tp d2tc d2bp d2bc d2ap d2ac B1 d1 d1tp d1tc d1bp d1bc d1ap d1ac B d dtp dtc dbp dbc dap dac F2) [] w0 (fun v L' => ∃ (r131 : Bool), v = (.bool r131) ∧ L' = (sane5H2 B4 B3 B2 d2 d2tp d2tc d2bp d2bc d2ap d2ac B1 d1 d1tp d1tc d1bp d1bc d1ap d1ac B d dtp dtc dbp dbc dap dac F2) ∧
           CallH Tryz.prog 26 ⟨[.agg sane5A6]⟩ (sane5H2 B4 B3 B2 d2 d2tp d2tc d2bp d2bc d2ap d2ac B1 d1 d1tp d1tc d1bp d1bc d1ap d1ac B d dtp dtc dbp dbc dap dac F2) [] w0 (fun v L' => ∃ (z : Fct) (ztp : Option Addr) (ztc : Nat) (zbp : Option Addr) (zbc : Nat) (zap : Option Addr) (zac : Nat) (F3 : SHeap), v = (.agg (sane5A1 z ztp ztc zbp zbc zap zac)) ∧ L' = ((B4, .cells #[.int .i64 (1 : Int), .int .i64 (1 : Int), .string (⟨#[82,97,105,110]⟩), .int .i64 (0 : Int), .int .i64 (0 : Int), .int .i64 (0 : Int), .slice none 0 0, .int .i64 (0 : Int), .int .i64 (0 : Int)] 89) :: (B3, .cells #[.string (⟨#[97]⟩), .string (⟨#[98]⟩)] 9) :: (B2, .cells (sane5A4 d2 d2tp d2tc d2bp d2bc d2ap d2ac) 28) :: (B1, .cells (sane5A2 d1 d1tp d1tc d1bp d1bc d1ap d1ac) 28) :: (B, .cells (sane5A0 d dtp dtc dbp dbc dap dac) 28) :: F3) ∧
            ∀ B5 : Nat,
            CallH Tryz.prog 22 ⟨[.agg (sane5A1 z ztp ztc zbp zbc zap zac), .agg sane5A10]⟩ (sane5H0 B5 z ztp ztc zbp zbc zap zac B4 B3 B2 d2 d2tp d2tc d2bp d2bc d2ap d2ac B1 d1 d1tp d1tc d1bp d1bc d1ap d1ac B d dtp dtc dbp dbc dap dac F3) [] w0 (fun v L' => ∃ (r151 : Bool), v = (.bool r151) ∧ L' = (sane5H0 B5 z ztp ztc zbp zbc zap zac B4 B3 B2 d2 d2tp d2tc d2bp d2bc d2ap d2ac B1 d1 d1tp d1tc d1bp d1bc d1ap d1ac B d dtp dtc dbp dbc dap dac F3) ∧
             ((r1 = (⟨#[4,140,1,12,10]⟩ : ByteArray)) →
              ((r21 = (0 : Int)) →
               ((d.n = (2 : Int)) →
                ((d.story = (5 : Int)) →
                 ((ev = (0 : Int)) →
                  ((ev1 = (10 : Int)) →
                   ((ev2 = (50 : Int)) →
                    ((r101 = (50 : Int)) →
                     ((r111 = true) →
                      ((r121 = true) →
                       Fin R (sane5H0 B5 z ztp ztc zbp zbc zap zac B4 B3 B2 d2 d2tp d2tc d2bp d2bc d2ap d2ac B1 d1 d1tp d1tc d1bp d1bc d1ap d1ac B d dtp dtc dbp dbc dap dac F3) [] w0 (.bool false)) ∧
                       ((r121 = false) →
                       ((r131 = true) →
                        ((r151 = true) →
                         CallH Tryz.prog 22 ⟨[.agg (sane5A0 d dtp dtc dbp dbc dap dac), .agg (sane5A1 z ztp ztc zbp zbc zap zac)]⟩ (sane5H0 B5 z ztp ztc zbp zbc zap zac B4 B3 B2 d2 d2tp d2tc d2bp d2bc d2ap d2ac B1 d1 d1tp d1tc d1bp d1bc d1ap d1ac B d dtp dtc dbp dbc dap dac F3) [] w0 (fun v L' => ∃ (r161 : Bool), v = (.bool r161) ∧ L' = (sane5H0 B5 z ztp ztc zbp zbc zap zac B4 B3 B2 d2 d2tp d2tc d2bp d2bc d2ap d2ac B1 d1 d1tp d1tc d1bp d1bc d1ap d1ac B d dtp dtc dbp dbc dap dac F3) ∧
                          ((r161 = true) →
                           Fin R (sane5H0 B5 z ztp ztc zbp zbc zap zac B4 B3 B2 d2 d2tp d2tc d2bp d2bc d2ap d2ac B1 d1 d1tp d1tc d1bp d1bc d1ap d1ac B d dtp dtc dbp dbc dap dac F3) [] w0 (.bool false)) ∧
                           ((r161 = false) →
                           Fin R (sane5H0 B5 z ztp ztc zbp zbc zap zac B4 B3 B2 d2 d2tp d2tc d2bp d2bc d2ap d2ac B1 d1 d1tp d1tc d1bp d1bc d1ap d1ac B d dtp dtc dbp dbc dap dac F3) [] w0 (.bool true)))) ∧
                         ((r151 = false) →
                         Fin R (sane5H0 B5 z ztp ztc zbp zbc zap zac B4 B3 B2 d2 d2tp d2tc d2bp d2bc d2ap d2ac B1 d1 d1tp d1tc d1bp d1bc d1ap d1ac B d dtp dtc dbp dbc dap dac F3) [] w0 (.bool false))) ∧
                        ((r131 = false) →
                        Fin R (sane5H0 B5 z ztp ztc zbp zbc zap zac B4 B3 B2 d2 d2tp d2tc d2bp d2bc d2ap d2ac B1 d1 d1tp d1tc d1bp d1bc d1ap d1ac B d dtp dtc dbp dbc dap dac F3) [] w0 (.bool false)))) ∧
                      ((r111 = false) →
                      Fin R (sane5H0 B5 z ztp ztc zbp zbc zap zac B4 B3 B2 d2 d2tp d2tc d2bp d2bc d2ap d2ac B1 d1 d1tp d1tc d1bp d1bc d1ap d1ac B d dtp dtc dbp dbc dap dac F3) [] w0 (.bool false))) ∧
                     ((¬ (r101 = (50 : Int))) →
                     Fin R (sane5H0 B5 z ztp ztc zbp zbc zap zac B4 B3 B2 d2 d2tp d2tc d2bp d2bc d2ap d2ac B1 d1 d1tp d1tc d1bp d1bc d1ap d1ac B d dtp dtc dbp dbc dap dac F3) [] w0 (.bool false))) ∧
                    ((¬ (ev2 = (50 : Int))) →
                    Fin R (sane5H0 B5 z ztp ztc zbp zbc zap zac B4 B3 B2 d2 d2tp d2tc d2bp d2bc d2ap d2ac B1 d1 d1tp d1tc d1bp d1bc d1ap d1ac B d dtp dtc dbp dbc dap dac F3) [] w0 (.bool false))) ∧
                   ((¬ (ev1 = (10 : Int))) →
                   Fin R (sane5H0 B5 z ztp ztc zbp zbc zap zac B4 B3 B2 d2 d2tp d2tc d2bp d2bc d2ap d2ac B1 d1 d1tp d1tc d1bp d1bc d1ap d1ac B d dtp dtc dbp dbc dap dac F3) [] w0 (.bool false))) ∧
                  ((¬ (ev = (0 : Int))) →
                  Fin R (sane5H0 B5 z ztp ztc zbp zbc zap zac B4 B3 B2 d2 d2tp d2tc d2bp d2bc d2ap d2ac B1 d1 d1tp d1tc d1bp d1bc d1ap d1ac B d dtp dtc dbp dbc dap dac F3) [] w0 (.bool false))) ∧
                 ((¬ (d.story = (5 : Int))) →
                 Fin R (sane5H0 B5 z ztp ztc zbp zbc zap zac B4 B3 B2 d2 d2tp d2tc d2bp d2bc d2ap d2ac B1 d1 d1tp d1tc d1bp d1bc d1ap d1ac B d dtp dtc dbp dbc dap dac F3) [] w0 (.bool false))) ∧
                ((¬ (d.n = (2 : Int))) →
                Fin R (sane5H0 B5 z ztp ztc zbp zbc zap zac B4 B3 B2 d2 d2tp d2tc d2bp d2bc d2ap d2ac B1 d1 d1tp d1tc d1bp d1bc d1ap d1ac B d dtp dtc dbp dbc dap dac F3) [] w0 (.bool false))) ∧
               ((¬ (r21 = (0 : Int))) →
               Fin R (sane5H0 B5 z ztp ztc zbp zbc zap zac B4 B3 B2 d2 d2tp d2tc d2bp d2bc d2ap d2ac B1 d1 d1tp d1tc d1bp d1bc d1ap d1ac B d dtp dtc dbp dbc dap dac F3) [] w0 (.bool false))) ∧
              ((¬ r1 = (⟨#[4,140,1,12,10]⟩ : ByteArray)) →
              Fin R (sane5H0 B5 z ztp ztc zbp zbc zap zac B4 B3 B2 d2 d2tp d2tc d2bp d2bc d2ap d2ac B1 d1 d1tp d1tc d1bp d1bc d1ap d1ac B d dtp dtc dbp dbc dap dac F3) [] w0 (.bool false))))))))))))) :
  Calls Tryz.prog 17 ⟨[]⟩ W R := by
 refine AtE.calls (nt := 103) Tryz.func17 (by kernel_rfl) hm ?_
 refine AtE.ru 7 ?_
 refine AtE.call 19 ⟨[.agg sane5A9]⟩ (fun W => by kernel_rfl) (by kernel_rfl) H ?_
 clear H
 rintro _ _ ⟨r1, r21, rfl, rfl, H⟩
 refine AtE.ru 8 ?_
 refine AtE.call 21 ⟨[.string (⟨#[4,140,1,12,10]⟩)]⟩ (fun W => by kernel_rfl) (by kernel_rfl) H ?_
 clear H
 rintro _ F ⟨d, dtp, dtc, dbp, dbc, dap, dac, ev, _, rfl, rfl, H⟩
 refine AtE.ru 3 ?_
 refine AtE.new (fun B => .pointer (some ⟨B, 0, none⟩)) (.cells sane5A3 28) (fun W => by kernel_rfl) (by kernel_rfl) (fun B => ?_)
 replace H := H B
 refine AtE.front ?_
 refine AtE.store 0 0 (T := 28) (v := .agg (sane5A0 d dtp dtc dbp dbc dap dac)) (by kernel_rfl) ?_
 refine AtE.ru 4 ?_
 refine AtE.call 21 ⟨[.string (⟨#[4,140,1,12,10,0]⟩)]⟩ (fun W => by kernel_rfl) (by kernel_rfl) H ?_
 clear H
 rintro _ _ ⟨d1, d1tp, d1tc, d1bp, d1bc, d1ap, d1ac, ev1, F1, rfl, rfl, H⟩
 refine AtE.ru 3 ?_
 refine AtE.new (fun B => .pointer (some ⟨B, 0, none⟩)) (.cells sane5A3 28) (fun W => by kernel_rfl) (by kernel_rfl) (fun B1 => ?_)
 replace H := H B1
 refine AtE.front ?_
 refine AtE.store 0 0 (T := 28) (v := .agg (sane5A2 d1 d1tp d1tc d1bp d1bc d1ap d1ac)) (by kernel_rfl) ?_
 refine AtE.norm (k' := [.inRegion (regOps [.code (sub (Eng.body Tryz.f17) [1,1,1,0])]) [6], .code (sub (Eng.body Tryz.f17) [1,1,1,1])]) (e' := [(1, .string r1), (2, .int .i64 r21), (3, .pointer (some ⟨B, 0, none⟩)), (4, .int .i64 ev), (28, .int .i64 ev1)]) (L' := (sane5H3 B1 d1 d1tp d1tc d1bp d1bc d1ap d1ac B d dtp dtc dbp dbc dap dac F1)) ?_ (by kernel_rfl)
 refine AtE.ru 4 ?_
 refine AtE.call 21 ⟨[.string (⟨#[4,140,1,22,10]⟩)]⟩ (fun W => by kernel_rfl) (by kernel_rfl) H ?_
 clear H
 rintro _ _ ⟨d2, d2tp, d2tc, d2bp, d2bc, d2ap, d2ac, ev2, F2, rfl, rfl, H⟩
 refine AtE.ru 3 ?_
 refine AtE.new (fun B => .pointer (some ⟨B, 0, none⟩)) (.cells sane5A3 28) (fun W => by kernel_rfl) (by kernel_rfl) (fun B2 => ?_)
 replace H := H B2
 refine AtE.front ?_
 refine AtE.store 0 0 (T := 28) (v := .agg (sane5A4 d2 d2tp d2tc d2bp d2bc d2ap d2ac)) (by kernel_rfl) ?_
 refine AtE.ru 5 ?_
 refine AtE.call 19 ⟨[.agg sane5A8]⟩ (fun W => by kernel_rfl) (by kernel_rfl) H ?_
 clear H
 rintro _ _ ⟨r91, r101, rfl, rfl, H⟩
 refine AtE.ru 9 ?_
 refine AtE.call 20 ⟨[.agg sane5A11]⟩ (fun W => by kernel_rfl) (by kernel_rfl) H ?_
 clear H
 rintro _ _ ⟨r111, rfl, rfl, H⟩
 refine AtE.ru 5 ?_
 refine AtE.call 20 ⟨[.agg sane5A7]⟩ (fun W => by kernel_rfl) (by kernel_rfl) H ?_
 clear H
 rintro _ _ ⟨r121, rfl, rfl, H⟩
 refine AtE.ru 4 ?_
 refine AtE.new (fun B => .slice (some ⟨B, 0, none⟩) 2 2) (.cells #[.string (⟨#[97]⟩), .string (⟨#[98]⟩)] 9) (fun W => by kernel_rfl) (by kernel_rfl) (fun B3 => ?_)
 replace H := H B3
 refine AtE.front ?_
 refine AtE.norm (k' := [.inRegion (regOps [.code (sub (Eng.body Tryz.f17) [1,1,1,1,1,1,1,1,0])]) [1,2,3,4,5], .code (sub (Eng.body Tryz.f17) [1,1,1,1,1,1,1,1,1])]) (e' := [(1, .string r1), (2, .int .i64 r21), (3, .pointer (some ⟨B, 0, none⟩)), (4, .int .i64 ev), (6, .int .i64 ev1), (8, .int .i64 ev2), (10, .int .i64 r101), (11, .bool r111), (12, .bool r121), (42, .slice (some ⟨B3, 0, none⟩) 2 2)]) (L' := ((B3, .cells #[.string (⟨#[97]⟩), .string (⟨#[98]⟩)] 9) :: (B2, .cells (sane5A4 d2 d2tp d2tc d2bp d2bc d2ap d2ac) 28) :: (B1, .cells (sane5A2 d1 d1tp d1tc d1bp d1bc d1ap d1ac) 28) :: (B, .cells (sane5A0 d dtp dtc dbp dbc dap dac) 28) :: F2)) ?_ (by kernel_rfl)
 refine AtE.ru 1 ?_
 refine AtE.new (fun B => .slice (some ⟨B, 0, none⟩) 1 1) (.cells #[.int .i64 (1 : Int), .int .i64 (1 : Int), .string (⟨#[82,97,105,110]⟩), .int .i64 (0 : Int), .int .i64 (0 : Int), .int .i64 (0 : Int), .slice none 0 0, .int .i64 (0 : Int), .int .i64 (0 : Int)] 89) (fun W => by kernel_rfl) (by kernel_rfl) (fun B4 => ?_)
 replace H := H B4
 refine AtE.front ?_
 refine AtE.ru 1 ?_
 refine AtE.call 20 ⟨[.agg (sane5A5 B3 B4)]⟩ (fun W => by kernel_rfl) (by kernel_rfl) H ?_
 clear H
 rintro _ _ ⟨r131, rfl, rfl, H⟩
 refine AtE.ru 5 ?_
 refine AtE.call 26 ⟨[.agg sane5A6]⟩ (fun W => by kernel_rfl) (by kernel_rfl) H ?_
 clear H
 rintro _ _ ⟨z, ztp, ztc, zbp, zbc, zap, zac, F3, rfl, rfl, H⟩
 refine AtE.new (fun B => .pointer (some ⟨B, 0, none⟩)) (.cells sane5A3 28) (fun W => by kernel_rfl) (by kernel_rfl) (fun B5 => ?_)
 replace H := H B5
 refine AtE.front ?_
 refine AtE.store 0 0 (T := 28) (v := .agg (sane5A1 z ztp ztc zbp zbc zap zac)) (by kernel_rfl) ?_
 refine AtE.ru 3 ?_
 refine AtE.load 0 0 (T := 28) (v := .agg (sane5A1 z ztp ztc zbp zbc zap zac)) (by kernel_rfl) ?_
 refine AtE.ru 1 ?_
 refine AtE.call 22 ⟨[.agg (sane5A1 z ztp ztc zbp zbc zap zac), .agg sane5A10]⟩ (fun W => by kernel_rfl) (by kernel_rfl) H ?_
 clear H
 rintro _ _ ⟨r151, rfl, rfl, H⟩
 refine AtE.norm (k' := [.inRegion (regOps [.code (sub (Eng.body Tryz.f17) [1,1,1,1,1,1,1,1,1,1,0])]) [3], .code (sub (Eng.body Tryz.f17) [1,1,1,1,1,1,1,1,1,1,1])]) (e' := [(1, .string r1), (2, .int .i64 r21), (3, .pointer (some ⟨B, 0, none⟩)), (4, .int .i64 ev), (6, .int .i64 ev1), (8, .int .i64 ev2), (10, .int .i64 r101), (11, .bool r111), (12, .bool r121), (13, .bool r131), (14, .pointer (some ⟨B5, 0, none⟩)), (51, .bool r151)]) (L' := (sane5H0 B5 z ztp ztc zbp zbc zap zac B4 B3 B2 d2 d2tp d2tc d2bp d2bc d2ap d2ac B1 d1 d1tp d1tc d1bp d1bc d1ap d1ac B d dtp dtc dbp dbc dap dac F3)) ?_ (by kernel_rfl)
 refine AtE.ru 7 ?_
 refine AtE.splitS 54 (x := r1) (y := (⟨#[4,140,1,12,10]⟩ : ByteArray)) (by kernel_rfl) (fun h1' => ?_) (fun h1' => ?_)
 ·replace H := H.1 h1'
  refine AtE.ru 4 ?_
  refine AtE.splitP 58 (p := r21 = (0 : Int)) (by kernel_rfl) (fun h2' => ?_) (fun h2' => ?_)
  ·replace H := H.1 h2'
   refine AtE.ru 1 ?_
   refine AtE.load 5 0 (T := 3) (v := .int .i64 d.n) (by kernel_rfl) ?_
   refine AtE.ru 3 ?_
   refine AtE.splitP 63 (p := d.n = (2 : Int)) (by kernel_rfl) (fun h3' => ?_) (fun h3' => ?_)
   ·replace H := H.1 h3'
    refine AtE.ru 1 ?_
    refine AtE.load 5 3 (T := 3) (v := .int .i64 d.story) (by kernel_rfl) ?_
    refine AtE.ru 3 ?_
    refine AtE.splitP 68 (p := d.story = (5 : Int)) (by kernel_rfl) (fun h4' => ?_) (fun h4' => ?_)
    ·replace H := H.1 h4'
     refine AtE.ru 4 ?_
     refine AtE.splitP 72 (p := ev = (0 : Int)) (by kernel_rfl) (fun h5' => ?_) (fun h5' => ?_)
     ·replace H := H.1 h5'
      refine AtE.norm (k' := [.inRegion (regOps [.code (sub (Eng.body Tryz.f17) [1,1,1,1,1,1,1,1,1,1,1,0])]) [21,22,23,24,25,26,27,28,29,30,31,32,33,34,35,36,37,38,39,40,41,42,43,44,45,46,47,48,49,50,51], .code (sub (Eng.body Tryz.f17) [1,1,1,1,1,1,1,1,1,1,1,1])]) (e' := [(3, .pointer (some ⟨B, 0, none⟩)), (6, .int .i64 ev1), (8, .int .i64 ev2), (10, .int .i64 r101), (11, .bool r111), (12, .bool r121), (13, .bool r131), (14, .pointer (some ⟨B5, 0, none⟩)), (15, .bool r151), (72, .bool true)]) (L' := (sane5H0 B5 z ztp ztc zbp zbc zap zac B4 B3 B2 d2 d2tp d2tc d2bp d2bc d2ap d2ac B1 d1 d1tp d1tc d1bp d1bc d1ap d1ac B d dtp dtc dbp dbc dap dac F3)) ?_ (by kernel_rfl)
      refine AtE.ru 4 ?_
      refine AtE.splitP 76 (p := ev1 = (10 : Int)) (by kernel_rfl) (fun h6' => ?_) (fun h6' => ?_)
      ·replace H := H.1 h6'
       refine AtE.ru 4 ?_
       refine AtE.splitP 80 (p := ev2 = (50 : Int)) (by kernel_rfl) (fun h7' => ?_) (fun h7' => ?_)
       ·replace H := H.1 h7'
        refine AtE.ru 4 ?_
        refine AtE.splitP 84 (p := r101 = (50 : Int)) (by kernel_rfl) (fun h8' => ?_) (fun h8' => ?_)
        ·replace H := H.1 h8'
         refine AtE.ru 3 ?_
         refine AtE.split 87 (b := r111) (by kernel_rfl) (fun h9' => ?_) (fun h9' => ?_)
         ·replace H := H.1 h9'
          refine AtE.ru 1 ?_
          refine AtE.split 88 (b := r121) (by kernel_rfl) (fun h10' => ?_) (fun h10' => ?_)
          ·replace H := H.1 h10'
           refine AtE.ru 16 ?_
           exact AtE.ret Tryz.func17 (by kernel_rfl) H
          ·replace H := H.2 h10'
           refine AtE.ru 6 ?_
           refine AtE.split 94 (b := r131) (by kernel_rfl) (fun h11' => ?_) (fun h11' => ?_)
           ·replace H := H.1 h11'
            refine AtE.ru 3 ?_
            refine AtE.split 97 (b := r151) (by kernel_rfl) (fun h12' => ?_) (fun h12' => ?_)
            ·replace H := H.1 h12'
             refine AtE.norm (k' := [.inRegion (regOps [.code (sub (Eng.body Tryz.f17) [1,1,1,1,1,1,1,1,1,1,1,0])]) [46,47,48,49,50,51], .code (sub (Eng.body Tryz.f17) [1,1,1,1,1,1,1,1,1,1,1,1])]) (e' := [(3, .pointer (some ⟨B, 0, none⟩)), (14, .pointer (some ⟨B5, 0, none⟩)), (97, .bool true)]) (L' := (sane5H0 B5 z ztp ztc zbp zbc zap zac B4 B3 B2 d2 d2tp d2tc d2bp d2bc d2ap d2ac B1 d1 d1tp d1tc d1bp d1bc d1ap d1ac B d dtp dtc dbp dbc dap dac F3)) ?_ (by kernel_rfl)
             refine AtE.load 5 0 (T := 28) (v := .agg (sane5A0 d dtp dtc dbp dbc dap dac)) (by kernel_rfl) ?_
             refine AtE.load 0 0 (T := 28) (v := .agg (sane5A1 z ztp ztc zbp zbc zap zac)) (by kernel_rfl) ?_
             refine AtE.call 22 ⟨[.agg (sane5A0 d dtp dtc dbp dbc dap dac), .agg (sane5A1 z ztp ztc zbp zbc zap zac)]⟩ (fun W => by kernel_rfl) (by kernel_rfl) H ?_
             clear H
             rintro _ _ ⟨r161, rfl, rfl, H⟩
             refine AtE.split 100 (b := r161) (by kernel_rfl) (fun h13' => ?_) (fun h13' => ?_)
             ·replace H := H.1 h13'
              refine AtE.ru 4 ?_
              exact AtE.ret Tryz.func17 (by kernel_rfl) H
             ·replace H := H.2 h13'
              refine AtE.ru 4 ?_
              exact AtE.ret Tryz.func17 (by kernel_rfl) H
            ·replace H := H.2 h12'
             refine AtE.norm (k' := [.inRegion (regOps [.code (sub (Eng.body Tryz.f17) [1,1,1,1,1,1,1,1,1,1,1,0])]) [46,47,48,49,50,51], .code (sub (Eng.body Tryz.f17) [1,1,1,1,1,1,1,1,1,1,1,1])]) (e' := [(3, .pointer (some ⟨B, 0, none⟩)), (14, .pointer (some ⟨B5, 0, none⟩)), (97, .bool false)]) (L' := (sane5H0 B5 z ztp ztc zbp zbc zap zac B4 B3 B2 d2 d2tp d2tc d2bp d2bc d2ap d2ac B1 d1 d1tp d1tc d1bp d1bc d1ap d1ac B d dtp dtc dbp dbc dap dac F3)) ?_ (by kernel_rfl)
             refine AtE.ru 7 ?_
             exact AtE.ret Tryz.func17 (by kernel_rfl) H
           ·replace H := H.2 h11'
            refine AtE.ru 10 ?_
            exact AtE.ret Tryz.func17 (by kernel_rfl) H
         ·replace H := H.2 h9'
          refine AtE.ru 17 ?_
          exact AtE.ret Tryz.func17 (by kernel_rfl) H
        ·replace H := H.2 h8'
         refine AtE.ru 20 ?_
         exact AtE.ret Tryz.func17 (by kernel_rfl) H
       ·replace H := H.2 h7'
        refine AtE.ru 24 ?_
        exact AtE.ret Tryz.func17 (by kernel_rfl) H
      ·replace H := H.2 h6'
       refine AtE.ru 28 ?_
       exact AtE.ret Tryz.func17 (by kernel_rfl) H
     ·replace H := H.2 h5'
      refine AtE.norm (k' := [.inRegion (regOps [.code (sub (Eng.body Tryz.f17) [1,1,1,1,1,1,1,1,1,1,1,0])]) [21,22,23,24,25,26,27,28,29,30,31,32,33,34,35,36,37,38,39,40,41,42,43,44,45,46,47,48,49,50,51], .code (sub (Eng.body Tryz.f17) [1,1,1,1,1,1,1,1,1,1,1,1])]) (e' := [(3, .pointer (some ⟨B, 0, none⟩)), (6, .int .i64 ev1), (8, .int .i64 ev2), (10, .int .i64 r101), (11, .bool r111), (12, .bool r121), (13, .bool r131), (14, .pointer (some ⟨B5, 0, none⟩)), (15, .bool r151), (72, .bool false)]) (L' := (sane5H0 B5 z ztp ztc zbp zbc zap zac B4 B3 B2 d2 d2tp d2tc d2bp d2bc d2ap d2ac B1 d1 d1tp d1tc d1bp d1bc d1ap d1ac B d dtp dtc dbp dbc dap dac F3)) ?_ (by kernel_rfl)
      refine AtE.ru 32 ?_
      exact AtE.ret Tryz.func17 (by kernel_rfl) H
    ·replace H := H.2 h4'
     refine AtE.ru 36 ?_
     exact AtE.ret Tryz.func17 (by kernel_rfl) H
   ·replace H := H.2 h3'
    refine AtE.ru 41 ?_
    exact AtE.ret Tryz.func17 (by kernel_rfl) H
  ·replace H := H.2 h2'
   refine AtE.ru 46 ?_
   exact AtE.ret Tryz.func17 (by kernel_rfl) H
 ·replace H := H.2 h1'
  refine AtE.ru 50 ?_
  exact AtE.ret Tryz.func17 (by kernel_rfl) H
end Go.Eng
namespace Go.Eng
open Go Go.RowKit Go.Proofs Wire
set_option linter.unusedVariables false
theorem CallH.addF {P : Program} {g : FuncId} {args : Array Value} {S : List Nat} {w0 : World} {K K' : Value → SHeap → Prop} (told : SHeap) {F : SHeap} (h : EffC P g args [] K) (hK : ∀ v F', K v F' → K' v (told ++ (F' ++ F))) : CallH P g args (told ++ F) S w0 K' :=
  CallH.eff (L1 := told ++ F) h (List.Perm.refl _) fun v L' hk => ⟨told ++ (L' ++ F), List.perm_append_comm_assoc _ _ _, hK v L' hk⟩
theorem decE_e {s : ByteArray} {r : Fct × Int} (hs : s.size < 4611686018427387904) (h : decF (bts s) = r) : EffC Tryz.prog 21 ⟨[.string s]⟩ [] (DecFOut r) := h ▸ fDecode_e hs
theorem FAt.L {F L : SHeap} {S : List Nat} {w0 W : World} {f : Fct} {tp : Option Addr} {tc : Nat} {bp : Option Addr} {bc : Nat} {ap : Option Addr} {ac : Nat} (h : FAt (lkF L) f tp tc bp bc ap ac) (hm : Mem L S w0 W) : FAt (lkW W) f tp tc bp bc ap ac :=
  h.mono (lkF_W hm fun x hx => hx)
theorem enc_ok {f : Fct} (h : f.ok = true) : encFAns f = .tuple #[.string (ba (encF f)), .int .i64 0] := if_pos h
theorem enc_no {f : Fct} (h : f.ok = false) : encFAns f = .tuple #[.string ⟨#[]⟩, .int .i64 50] := if_neg (by rw [h]; decide)
def goneF (f : Fct) : Fct := ⟨f.n, f.time, 10, f.story, e0, 0, 0, e0, e0, [], [], Lab.zero, 0, 0, 0, e0, e0, 0, 0, 0⟩
def aboutB (k : Int) : Bool := decide (k = 1 ∨ k = 4 ∨ k = 5)
theorem goneAt {lk : Lk} {f : Fct} : FAt lk (goneF f) none 0 none 0 none 0 := noLists rfl rfl rfl ⟨e0_sz, e0_sz, e0_sz, e0_sz, e0_sz⟩
def RedG (f : Fct) (v : Value) (F : SHeap) : Prop := v = .agg ⟨(goneF f).cells none 0 none 0 none 0⟩
theorem gone_e {f : Fct} {tp bp ap : Option Addr} {tc bc ac : Nat} (hk : aboutB f.kind = true) : EffC Tryz.prog 26 ⟨[.agg ⟨f.cells tp tc bp bc ap ac⟩]⟩ [] (RedG f) := by
  intro W hm
  have hk := of_decide_eq_true hk
  refine fRedact_vc f tp tc bp bc ap ac [] hm fun B B1 => ⟨fun _ => ?_, fun h1 => ⟨fun _ => ?_, fun h2 => ⟨fun _ => ?_, fun h3 => absurd hk (by omega)⟩⟩⟩
  all_goals exact fun W' hm' => ⟨_, _, rfl, hm', rfl⟩
def sfA : Fct := ⟨2, 70, 6, 5, e0, 0, 0, e0, e0, [], [], Lab.zero, 0, 0, 0, e0, e0, 0, 0, 0⟩
def sfB : Fct := ⟨2, 70, 6, 65, e0, 0, 0, e0, e0, [], [], Lab.zero, 0, 0, 0, e0, e0, 0, 0, 0⟩
def sfC : Fct := ⟨1, 0, 2, 3, e0, 0, 0, e0, e0, [], [], Lab.zero, 2, 0, 0, e0, e0, 0, 0, 0⟩
def sfD : Fct := ⟨1, 0, 2, 3, ⟨#[101, 110]⟩, 0, 0, e0, e0, [], [], Lab.zero, 2, 0, 0, e0, e0, 0, 0, 0⟩
def sbE : Blk := ⟨1, 1, ⟨#[82, 97, 105, 110]⟩, 0, 0, Lab.zero⟩
def sfE : Fct := ⟨0, 0, 1, 1, ⟨#[101, 110]⟩, 1, 0, ⟨#[82, 97, 105, 110]⟩, ⟨#[97, 110, 110]⟩, [⟨#[97]⟩, ⟨#[98]⟩], [sbE], Lab.zero, 0, 0, 0, e0, e0, 0, 0, 0⟩
def sfG : Fct := ⟨9, 5, 4, 2, ⟨#[101, 110]⟩, 0, 0, e0, e0, [], [], Lab.zero, 0, 1, 0, ⟨#[78, 111, 46]⟩, e0, 0, 0, 0⟩
theorem sfA_ok : sfA.ok = true := by kernel_rfl
theorem sfA_enc : ba (encF sfA) = (⟨#[4, 140, 1, 12, 10]⟩ : ByteArray) := by kernel_rfl
theorem sfA_dec : decF (bts ⟨#[4, 140, 1, 12, 10]⟩) = (sfA, 0) := by rw [← sfA_enc, bts_mk]; exact decF_enc sfA_ok
theorem sfA_more : decF (bts ⟨#[4, 140, 1, 12, 10, 0]⟩) = (Fct.zero, 10) := by
  have : bts (⟨#[4, 140, 1, 12, 10, 0]⟩ : ByteArray) = encF sfA ++ [0] := by kernel_rfl
  rw [this]; exact decF_more sfA_ok (by decide)
theorem sfB_dec : decF (bts ⟨#[4, 140, 1, 22, 10]⟩) = (Fct.zero, 50) := by kernel_rfl
theorem sfB_no : sfB.ok = false := by kernel_rfl
theorem sfC_ok : sfC.ok = true := by kernel_rfl
theorem sfD_no : sfD.ok = false := by kernel_rfl
theorem sfE_ok : sfE.ok = true := by kernel_rfl
theorem sfE_at {lk : Lk} {B3 B4 : Nat} (h3 : lk B3 [.string ⟨#[97]⟩, .string ⟨#[98]⟩]) (h4 : lk B4 (sbE.cells none 0)) : FAt lk sfE (some ⟨B3, 0, none⟩) 2 (some ⟨B4, 0, none⟩) 1 none 0 :=
  ⟨strs_at h3, fun _ => ⟨B4, 0, _, rfl, h4, fun i hi => by
    match i, hi with
    | 0, _ => exact ⟨by decide, none, 0, rfl, fun h => absurd (show 0 < sbE.lab.after.length from h) (by decide), show sbE.text.size ≤ 9223372036854775807 by decide, show sbE.lab.after.length ≤ 9223372036854775807 by decide⟩⟩, fun h => absurd h (by decide), by decide, by decide, by decide, by decide, ⟨by decide, by decide⟩, by decide, by decide⟩
theorem sane_c5 : PureC Tryz.prog 17 ⟨[]⟩ (.bool true) := by
  intro W
  refine sane5_vc (Mem.start [] W) ?_
  have hA : ∀ lk : Lk, FAt lk sfA none 0 none 0 none 0 := fun lk => noLists rfl rfl rfl ⟨e0_sz, e0_sz, e0_sz, e0_sz, e0_sz⟩
  have hB : ∀ lk : Lk, FAt lk sfB none 0 none 0 none 0 := fun lk => noLists rfl rfl rfl ⟨e0_sz, e0_sz, e0_sz, e0_sz, e0_sz⟩
  have hC : ∀ lk : Lk, FAt lk sfC none 0 none 0 none 0 := fun lk => noLists rfl rfl rfl ⟨e0_sz, e0_sz, e0_sz, e0_sz, e0_sz⟩
  have hD : ∀ lk : Lk, FAt lk sfD none 0 none 0 none 0 := fun lk => noLists rfl rfl rfl ⟨by decide, e0_sz, e0_sz, e0_sz, e0_sz⟩
  refine CallH.pw (v := encFAns sfA) (fun W' hm' => fEncode_c (hA _)) ⟨⟨#[4, 140, 1, 12, 10]⟩, 0, by rw [enc_ok sfA_ok, sfA_enc], rfl, ?_⟩
  refine CallH.addF [] (F := []) (decE_e (by decide) sfA_dec) ?_
  rintro _ F ⟨tp, tc, bp, bc, ap, ac, rfl, h0⟩
  refine ⟨sfA, tp, tc, bp, bc, ap, ac, 0, _, rfl, rfl, fun B => ?_⟩
  refine CallH.addF [_] (decE_e (by decide) sfA_more) ?_
  rintro _ F1 ⟨tp1, tc1, bp1, bc1, ap1, ac1, rfl, h1⟩
  refine ⟨Fct.zero, tp1, tc1, bp1, bc1, ap1, ac1, 10, _, rfl, rfl, fun B1 => ?_⟩
  refine CallH.addF [_, _] (decE_e (by decide) sfB_dec) ?_
  rintro _ F2 ⟨tp2, tc2, bp2, bc2, ap2, ac2, rfl, h2⟩
  refine ⟨Fct.zero, tp2, tc2, bp2, bc2, ap2, ac2, 50, _, rfl, rfl, fun B2 => ?_⟩
  refine CallH.pw (v := encFAns sfB) (fun W' hm' => fEncode_c (hB _)) ⟨⟨#[]⟩, 50, by rw [enc_no sfB_no], rfl, ?_⟩
  refine CallH.pw (v := .bool sfC.ok) (fun W' hm' => fValid_c (hC _)) ⟨true, by rw [sfC_ok], rfl, ?_⟩
  refine CallH.pw (v := .bool sfD.ok) (fun W' hm' => fValid_c (hD _)) ⟨false, by rw [sfD_no], rfl, fun B3 B4 => ?_⟩
  refine CallH.pw (v := .bool sfE.ok) (fun W' hm' => fValid_c (sfE_at (lkM_kept hm' _ _ (.inl ⟨_, _, List.mem_cons_of_mem _ List.mem_cons_self⟩)) (lkM_kept hm' _ _ (.inl ⟨_, _, List.mem_cons_self⟩)))) ⟨true, by rw [sfE_ok], rfl, ?_⟩
  refine CallH.addF [_, _, _, _, _] (gone_e (f := sfG) (tp := none) (tc := 0) (bp := none) (bc := 0) (ap := none) (ac := 0) (by decide)) ?_
  rintro _ F3 rfl
  refine ⟨goneF sfG, none, 0, none, 0, none, 0, _, rfl, rfl, fun B5 => ?_⟩
  refine CallH.pw (fun W' hm' => fSame_c (x := goneF sfG) (y := goneF sfG) goneAt goneAt) ⟨_, rfl, rfl, ?_⟩
  refine yes rfl (yes rfl (yes rfl (yes rfl (yes rfl (yes rfl (yes rfl (yes rfl (tt rfl (ff rfl (tt rfl (tt (by simp) ?_)))))))))))
  refine CallH.pw (fun W' hm' => fSame_c (x := sfA) (y := goneF sfG) (h0.mono fun b c h => ?_) goneAt) ⟨_, rfl, rfl, ff (by decide) (finPure rfl)⟩
  refine lkF_W hm' (fun x hx => ?_) b c h
  simp [hx]
end Go.Eng
namespace Go.Eng
open Go Go.RowKit Go.Proofs Wire
set_option linter.unusedVariables false
def BlkLc (lk : Lk) (cs : List Value) (b : Blk) : Prop := ∃ p c, cs = b.cells p c ∧ IntsL lk p b.lab.after ∧ b.Fits ∧ b.lab.after.length ≤ c
structure FArg (lk : Lk) (f : Fct) (tp : Option Addr) (tc : Nat) (bp : Option Addr) (bc : Nat) (ap : Option Addr) (ac : Nat) : Prop where
  tops : StrsL lk tp f.topics
  blks : SlAt lk 9 (BlkLc lk) bp f.blocks
  ints : IntsL lk ap f.lab.after
  ct : f.topics.length ≤ tc
  cb : f.blocks.length ≤ bc
  ca : f.lab.after.length ≤ ac
  fits : f.Fits
theorem BlkLc.mono {lk lk' : Lk} {cs : List Value} {b : Blk} (h : BlkLc lk cs b) (hl : ∀ b c, lk b c → lk' b c) : BlkLc lk' cs b := by
  obtain ⟨p, c, e, h1, h2, h3⟩ := h
  exact ⟨p, c, e, h1.mono hl, h2, h3⟩
theorem FArg.mono {lk lk' : Lk} {f : Fct} {tp : Option Addr} {tc : Nat} {bp : Option Addr} {bc : Nat} {ap : Option Addr} {ac : Nat} (h : FArg lk f tp tc bp bc ap ac) (hl : ∀ b c, lk b c → lk' b c) : FArg lk' f tp tc bp bc ap ac :=
  ⟨h.tops.mono hl, SlAt.mono h.blks hl fun _ _ _ hb => hb.mono hl, h.ints.mono hl, h.ct, h.cb, h.ca, h.fits⟩
def cutT (s : ByteArray) (n : Nat) : ByteArray := s.extract 0 (min s.size n)
theorem cutT_size (s : ByteArray) (n : Nat) : (cutT s n).size = min n s.size := by
  rw [cutT, ByteArray.size_extract]; omega
def fewB (b : Blk) : Blk := { b with text := cutT b.text 400, lab := { b.lab with after := b.lab.after.take 70 } }
def fewF (f : Fct) : Fct := { f with title := cutT f.title 400, text := cutT f.text 1200, topics := f.topics.take 6, blocks := (f.blocks.take 26).map fewB, lab := { f.lab with after := f.lab.after.take 70 } }
theorem cut_if {s : ByteArray} {n : Nat} {i : Int} (hi : i = (n : Int)) : s.extract 0 (Int.toNat (if i < (s.size : Int) then i else (s.size : Int))) = cutT s n := by
  subst hi
  have : Int.toNat (if (n : Int) < (s.size : Int) then (n : Int) else (s.size : Int)) = min s.size n := by split <;> omega
  rw [this, cutT]
theorem take_if {α : Type} {l : List α} {n : Nat} {i : Int} (hi : i = (n : Int)) : Int.toNat (if i < (l.length : Int) then i else (l.length : Int)) = (l.take n).length := by
  subst hi
  rw [List.length_take]; split <;> omega
theorem IntsL.take {lk : Lk} {p : Option Addr} {l : List Int} (h : IntsL lk p l) (n : Nat) : IntsL lk p (l.take n) := by
  intro hp
  rw [List.length_take] at hp
  obtain ⟨b, o, c, h1, h2, h3⟩ := h (by omega)
  refine ⟨b, o, c, h1, h2, fun i hi => ?_⟩
  rw [List.length_take] at hi
  rw [h3 i (by omega), List.getElem_take]
theorem StrsL.take {lk : Lk} {p : Option Addr} {l : List ByteArray} (h : StrsL lk p l) (n : Nat) : StrsL lk p (l.take n) := by
  intro hp
  rw [List.length_take] at hp
  obtain ⟨b, o, c, h1, h2, h3⟩ := h (by omega)
  refine ⟨b, o, c, h1, h2, fun i hi => ?_⟩
  rw [List.length_take] at hi
  rw [h3 i (by omega), List.getElem_take]
theorem fewB_fits {b : Blk} (h : b.Fits) : (fewB b).Fits := ⟨by show (cutT b.text 400).size ≤ _; rw [cutT_size]; omega, by show (b.lab.after.take 70).length ≤ _; rw [List.length_take]; omega⟩
theorem fewF_fits {f : Fct} (h : f.Fits) : (fewF f).Fits :=
  ⟨⟨h.1.1, by show (cutT f.title 400).size ≤ _; rw [cutT_size]; omega, h.1.2.2.1, by show (cutT f.text 1200).size ≤ _; rw [cutT_size]; omega, h.1.2.2.2.2⟩,
    ⟨by show (f.topics.take 6).length ≤ _; rw [List.length_take]; omega, fun t ht => h.2.1.2 t (List.mem_of_mem_take ht)⟩, by show ((f.blocks.take 26).map fewB).length ≤ _; rw [List.length_map, List.length_take]; omega, by show (f.lab.after.take 70).length ≤ _; rw [List.length_take]; omega⟩
def BRowL (lk : Lk) (cs : List Value) (l : List Blk) : Prop := ∀ i (h : i < l.length), i * 9 + 9 ≤ cs.length ∧ BlkL lk ((cs.drop (i * 9)).take 9) l[i]
theorem BRowL.app {lk : Lk} {cs r : List Value} {l : List Blk} {b : Blk} {p : Option Addr} {c cap cap1 : Nat} (h : BRowL lk cs l) (h1 : l.length ≤ cap) (h2 : cs.length = cap * 9) (hb : IntsL lk p b.lab.after) (hf : b.Fits)
    (q1 : l.length + 1 ≤ cap1) (q2 : (cs.take (l.length * 9) ++ b.cells p c ++ r).length = cap1 * 9) : BRowL lk (cs.take (l.length * 9) ++ b.cells p c ++ r) (l ++ [b]) := by
  have hn : l.length * 9 ≤ cs.length := by rw [h2]; exact Nat.mul_le_mul_right _ h1
  intro i hi
  have hi' : i < l.length + 1 := by simpa using hi
  refine ⟨by rw [q2]; omega, ?_⟩
  rcases Nat.lt_or_ge i l.length with hlt | hge
  · rw [row_old hlt hn, List.getElem_append_left hlt]
    exact (h i hlt).2
  · have : i = l.length := by omega
    subst this
    rw [row_new hn rfl]
    simp only [List.getElem_append_right (Nat.le_refl _), Nat.sub_self, List.getElem_cons_zero]
    exact ⟨p, c, rfl, hb, hf⟩
theorem BRowL.one {lk : Lk} {r : List Value} {b : Blk} {p : Option Addr} {c cap : Nat} (hb : IntsL lk p b.lab.after) (hf : b.Fits) (q1 : 1 ≤ cap) (q2 : (b.cells p c ++ r).length = cap * 9) : BRowL lk (b.cells p c ++ r) [b] := by
  intro i hi
  have : i = 0 := by simp at hi; omega
  subst this
  refine ⟨by rw [q2]; omega, p, c, ?_, hb, hf⟩
  simp
def FewOut (lk : Lk) (r : Fct) (v : Value) (F : SHeap) : Prop := ∃ tp tc bp bc ap ac, v = .agg ⟨r.cells tp tc bp bc ap ac⟩ ∧ FAt (lkU F lk) r tp tc bp bc ap ac
theorem few_at {lk : Lk} {f : Fct} {tp bp ap : Option Addr} {tc bc ac : Nat} (h : FArg lk f tp tc bp bc ap ac) {F : SHeap} {p : Option Addr} {c : Nat} (hb : BlksL (lkU F lk) p (fewF f).blocks) (hc : (fewF f).blocks.length ≤ c) : FAt (lkU F lk) (fewF f) tp tc p c ap ac :=
  ⟨(h.tops.take 6).mono lkU_r, hb, (h.ints.take 70).mono lkU_r, Nat.le_trans (by show (f.topics.take 6).length ≤ f.topics.length; rw [List.length_take]; omega) h.ct, hc,
    Nat.le_trans (by show (f.lab.after.take 70).length ≤ f.lab.after.length; rw [List.length_take]; omega) h.ca, fewF_fits h.fits⟩
theorem fewF_len {f : Fct} : (fewF f).blocks.length = min 26 f.blocks.length := by show ((f.blocks.take 26).map fewB).length = _; rw [List.length_map, List.length_take]
theorem fewF_get {f : Fct} {i : Nat} (h : i < (fewF f).blocks.length) : (fewF f).blocks[i] = fewB (f.blocks[i]'(by rw [fewF_len] at h; omega)) := by
  simp [fewF]
theorem take_one_get {α : Type} : ∀ {l : List α} (h : 0 < l.length), l.take 1 = [l[0]]
  | x :: r, _ => rfl
theorem few_loop {w0 : World} {lk : Lk} {f : Fct} {tp bp ap : Option Addr} {tc bc ac : Nat} (hlk : ∀ b c, lk b c → lkW w0 b c) (h : FArg lk f tp tc bp bc ap ac) :
    ∀ (g i B7 B8 B9 cap : Nat) (cs : List Value), g + i = (fewF f).blocks.length → i ≤ cap → cs.length = cap * 9 → BRowL lk cs ((fewF f).blocks.take i) →
      few5_c1 f tp tc bp bc ap ac B7 B8 B9 i cap (i : Int) tp (fewF f).topics.length tc bp (fewF f).blocks.length bc ap (fewF f).lab.after.length ac cs w0 (fun e W' => ∃ v L', e = .returned v ∧ Mem L' [] w0 W' ∧ FewOut lk (fewF f) v L')
  | 0, i, B7, B8, B9, cap, cs, hg, h1, h2, h3 => by
    apply few5_c1_vc
    have hi : i = (fewF f).blocks.length := by omega
    subst hi
    rw [List.take_length] at h3
    refine no (by omega) ⟨by split <;> omega, by split <;> omega, ?_⟩
    have e1 := cut_if (s := f.title) (n := 400) (i := 400) rfl
    have e2 := cut_if (s := f.text) (n := 1200) (i := 1200) rfl
    refine dkFin ⟨tp, tc, some ⟨B9, 0, none⟩, cap, ap, ac, ?_, few_at h (fun _ => ⟨B9, 0, cs, rfl, .inl ⟨_, _, List.mem_cons_of_mem _ (List.mem_cons_of_mem _ List.mem_cons_self)⟩, fun i hi => ⟨by rw [Nat.zero_add]; exact (h3 i hi).1, by rw [Nat.zero_add]; exact (h3 i hi).2.mono lkU_r⟩⟩) h1⟩
    delta few5A1
    rw [e1, e2]; rfl
  | g + 1, i, B7, B8, B9, cap, cs, hg, h1, h2, h3 => by
    apply few5_c1_vc
    have hn := fewF_len (f := f)
    have his : i < (fewF f).blocks.length := by omega
    have hi : i < f.blocks.length := by omega
    obtain ⟨B1, o1, c1, rfl, e2, e3, p6, c6, e4, e5, e6, e7⟩ := h.blks.get hi
    have t4 := cut_if (s := f.blocks[i].text) (n := 400) (i := 400) rfl
    have t7 := take_if (l := f.blocks[i].lab.after) (n := 70) (i := 70) rfl
    refine yes (by omega) ⟨B1, o1, rfl, by omega, c1, f.blocks[i], p6, c6, hlk _ _ e2, ⟨by simpa using e4, by simpa using e3⟩, fun B2 => ⟨by split <;> omega, by split <;> omega, fun B3 => ⟨⟨h1, h2⟩, by omega, fun B4 cap2 r q1 q2 => ?_⟩⟩⟩
    rintro _ rfl
    rw [wi64 (by omega), show (i : Int) + 1 = ((i + 1 : Nat) : Int) by omega]
    rw [t4, t7] at q2 ⊢
    have hlen : ((fewF f).blocks.take i).length = i := by rw [List.length_take]; omega
    have hrow := BRowL.app (b := fewB f.blocks[i]) (p := p6) (c := c6) (r := r) (cap1 := cap2) h3 (by rw [hlen]; exact h1) h2 (e5.take 70) (fewB_fits e6) (by rw [hlen]; exact q1) (by rw [hlen]; exact q2)
    rw [hlen, ← fewF_get his, show (fewF f).blocks.take i ++ [(fewF f).blocks[i]] = (fewF f).blocks.take (i + 1) by rw [List.take_add_one, List.getElem?_eq_getElem his]; rfl] at hrow
    rw [fewF_get his] at hrow
    exact few_loop hlk h g (i + 1) B7 B8 B4 cap2 _ (by omega) q1 q2 hrow
theorem few_first {lk : Lk} {r : List Value} {b : Blk} {p : Option Addr} {c cap : Nat} (hb : IntsL lk p b.lab.after) (hf : b.Fits) (q1 : 1 ≤ cap) (q2 : ([.int .i64 b.id, .int .i64 b.kind, .string (cutT b.text 400), .int .i64 b.story, .int .i64 b.ref, .int .i64 b.lab.unt, .slice p (b.lab.after.take 70).length c, .int .i64 b.lab.appr, .int .i64 b.lab.den] ++ r : List Value).length = cap * 9) : BRowL lk ([.int .i64 b.id, .int .i64 b.kind, .string (cutT b.text 400), .int .i64 b.story, .int .i64 b.ref, .int .i64 b.lab.unt, .slice p (b.lab.after.take 70).length c, .int .i64 b.lab.appr, .int .i64 b.lab.den] ++ r) [fewB b] :=
  BRowL.one (b := fewB b) (hb.take 70) (fewB_fits hf) q1 q2
theorem few_e {lk : Lk} {f : Fct} {tp bp ap : Option Addr} {tc bc ac : Nat} (h : FArg lk f tp tc bp bc ap ac) : EffW Tryz.prog 18 ⟨[.agg ⟨f.cells tp tc bp bc ap ac⟩]⟩ [] (fun W => ∀ b c, lk b c → lkW W b c) (FewOut lk (fewF f)) := by
  intro W hm hlk
  have ht := h.ct; have hb := h.cb; have ha := h.ca
  refine few5_vc f tp tc bp bc ap ac hm fun B B1 => ⟨by split <;> omega, by split <;> omega, by split <;> omega, ?_⟩
  have t6 : Int.toNat (if (6 : Int) < (f.topics.length : Int) then (6 : Int) else (f.topics.length : Int)) = (fewF f).topics.length := take_if (l := f.topics) (n := 6) (i := 6) rfl
  have t26 : Int.toNat (if (26 : Int) < (f.blocks.length : Int) then (26 : Int) else (f.blocks.length : Int)) = (fewF f).blocks.length := by rw [take_if (l := f.blocks) (n := 26) (i := 26) rfl]; show _ = ((f.blocks.take 26).map fewB).length; rw [List.length_map]
  have t70 : Int.toNat (if (70 : Int) < (f.lab.after.length : Int) then (70 : Int) else (f.lab.after.length : Int)) = (fewF f).lab.after.length := take_if (l := f.lab.after) (n := 70) (i := 70) rfl
  rw [t6, t26, t70]
  apply few5_c0_vc
  have hn := fewF_len (f := f)
  rcases Nat.eq_zero_or_pos f.blocks.length with h0 | hi
  · have hz : (fewF f).blocks = [] := List.length_eq_zero_iff.1 (by omega)
    have e1 := cut_if (s := f.title) (n := 400) (i := 400) rfl
    have e2 := cut_if (s := f.text) (n := 1200) (i := 1200) rfl
    refine no (by omega) ⟨by split <;> omega, by split <;> omega, dkFin ⟨tp, tc, none, 0, ap, ac, ?_, few_at h (by rw [hz]; exact blks_nil) (by omega)⟩⟩
    delta few5A2
    rw [e1, e2]
    show _ = Value.agg ⟨[_, _, _, _, _, _, _, _, _, _, .slice none (fewF f).blocks.length 0, _, _, _, _, _, _, _, _, _, _, _, _]⟩
    rw [hz]; rfl
  · have his : 0 < (fewF f).blocks.length := by omega
    obtain ⟨B2, o1, c1, rfl, e2, e3, p6, c6, e4, e5, e6, e7⟩ := h.blks.get hi
    have t4 := cut_if (s := f.blocks[0].text) (n := 400) (i := 400) rfl
    have t7 := take_if (l := f.blocks[0].lab.after) (n := 70) (i := 70) rfl
    refine yes (by omega) ⟨B2, o1, rfl, by omega, c1, f.blocks[0], p6, c6, hlk _ _ e2, ⟨by simpa using e4, by simpa using e3⟩, fun B2 => ⟨by split <;> omega, by split <;> omega, fun B3 B4 cap2 r q1 q2 => ?_⟩⟩
    rintro _ rfl
    rw [wi64 (by omega)]
    rw [t4, t7] at q2 ⊢
    have hrow := few_first (p := p6) (c := c6) (r := r) e5 e6 q1 q2
    have e0 : (fewF f).blocks.take 1 = [fewB f.blocks[0]] := by rw [take_one_get his, fewF_get his]
    exact few_loop hlk h ((fewF f).blocks.length - 1) 1 B B1 B4 cap2 _ (by omega) q1 q2 (by rw [e0]; exact hrow)
end Go.Eng
namespace Go.Eng
open Go Go.RowKit Go.Proofs Wire
set_option linter.unusedVariables false
theorem lkU_W {F L : SHeap} {w0 W : World} (hm : Mem L [] w0 W) (h : ∀ x ∈ F, x ∈ L) : ∀ b c, lkU F (lkW w0) b c → lkW W b c := by
  rintro b c (hb | hb)
  · exact lkF_W hm h b c hb
  · exact lkW_kept hm b c hb
theorem CallH.few {w0 : World} {f : Fct} {tp bp ap : Option Addr} {tc bc ac : Nat} {K : Value → SHeap → Prop} (told : SHeap) {F : SHeap} (h : FArg (lkW w0) f tp tc bp bc ap ac)
    (hK : ∀ tp' tc' bp' bc' ap' ac' F', FAt (lkU F' (lkW w0)) (fewF f) tp' tc' bp' bc' ap' ac' → K (.agg ⟨(fewF f).cells tp' tc' bp' bc' ap' ac'⟩) (told ++ (F' ++ F))) : CallH Tryz.prog 18 ⟨[.agg ⟨f.cells tp tc bp bc ap ac⟩]⟩ (told ++ F) [] w0 K := by
  refine CallH.effW (L0 := []) (L1 := told ++ F) (few_e h) (fun W hm => lkW_kept hm) (List.Perm.refl _) ?_
  rintro _ F' ⟨tp', tc', bp', bc', ap', ac', rfl, hw⟩
  exact ⟨told ++ (F' ++ F), List.perm_append_comm_assoc _ _ _, hK _ _ _ _ _ _ _ hw⟩
end Go.Eng
namespace Go.Eng
open Go Go.RowKit Go.Proofs
set_option linter.unusedVariables false
set_option maxRecDepth 100000
abbrev law4H0 (B2 : Nat) (y : Fct) (ytp : Option Addr) (ytc : Nat) (ybp : Option Addr) (ybc : Nat) (yap : Option Addr) (yac : Nat) (B1 : Nat) (w : Fct) (wtp : Option Addr) (wtc : Nat) (wbp : Option Addr) (wbc : Nat) (wap : Option Addr) (wac : Nat) (B : Nat) (a : Fct) (atp : Option Addr) (atc : Nat) (abp : Option Addr) (abc : Nat) (aap : Option Addr) (aac : Nat) (F1 : SHeap) : SHeap := ((B2, .cells #[.int .i64 y.n, .int .i64 y.time, .int .i64 y.kind, .int .i64 y.story, .string y.lang, .int .i64 y.rev, .int .i64 y.base, .string y.title, .string y.author, .slice ytp y.topics.length ytc, .slice ybp y.blocks.length ybc, .int .i64 y.lab.unt, .slice yap y.lab.after.length yac, .int .i64 y.lab.appr, .int .i64 y.lab.den, .int .i64 y.editor, .int .i64 y.block, .int .i64 y.sentence, .string y.text, .string y.name, .int .i64 y.partner, .int .i64 y.cls, .int .i64 y.unt] 28) :: (B1, .cells #[.int .i64 w.n, .int .i64 w.time, .int .i64 w.kind, .int .i64 w.story, .string w.lang, .int .i64 w.rev, .int .i64 w.base, .string w.title, .string w.author, .slice wtp w.topics.length wtc, .slice wbp w.blocks.length wbc, .int .i64 w.lab.unt, .slice wap w.lab.after.length wac, .int .i64 w.lab.appr, .int .i64 w.lab.den, .int .i64 w.editor, .int .i64 w.block, .int .i64 w.sentence, .string w.text, .string w.name, .int .i64 w.partner, .int .i64 w.cls, .int .i64 w.unt] 28) :: (B, .cells #[.int .i64 a.n, .int .i64 a.time, .int .i64 a.kind, .int .i64 a.story, .string a.lang, .int .i64 a.rev, .int .i64 a.base, .string a.title, .string a.author, .slice atp a.topics.length atc, .slice abp a.blocks.length abc, .int .i64 a.lab.unt, .slice aap a.lab.after.length aac, .int .i64 a.lab.appr, .int .i64 a.lab.den, .int .i64 a.editor, .int .i64 a.block, .int .i64 a.sentence, .string a.text, .string a.name, .int .i64 a.partner, .int .i64 a.cls, .int .i64 a.unt] 28) :: F1)
abbrev law4H1 (B1 : Nat) (w : Fct) (wtp : Option Addr) (wtc : Nat) (wbp : Option Addr) (wbc : Nat) (wap : Option Addr) (wac : Nat) (B : Nat) (a : Fct) (atp : Option Addr) (atc : Nat) (abp : Option Addr) (abc : Nat) (aap : Option Addr) (aac : Nat) (F : SHeap) : SHeap := ((B1, .cells #[.int .i64 w.n, .int .i64 w.time, .int .i64 w.kind, .int .i64 w.story, .string w.lang, .int .i64 w.rev, .int .i64 w.base, .string w.title, .string w.author, .slice wtp w.topics.length wtc, .slice wbp w.blocks.length wbc, .int .i64 w.lab.unt, .slice wap w.lab.after.length wac, .int .i64 w.lab.appr, .int .i64 w.lab.den, .int .i64 w.editor, .int .i64 w.block, .int .i64 w.sentence, .string w.text, .string w.name, .int .i64 w.partner, .int .i64 w.cls, .int .i64 w.unt] 28) :: (B, .cells #[.int .i64 a.n, .int .i64 a.time, .int .i64 a.kind, .int .i64 a.story, .string a.lang, .int .i64 a.rev, .int .i64 a.base, .string a.title, .string a.author, .slice atp a.topics.length atc, .slice abp a.blocks.length abc, .int .i64 a.lab.unt, .slice aap a.lab.after.length aac, .int .i64 a.lab.appr, .int .i64 a.lab.den, .int .i64 a.editor, .int .i64 a.block, .int .i64 a.sentence, .string a.text, .string a.name, .int .i64 a.partner, .int .i64 a.cls, .int .i64 a.unt] 28) :: F)
abbrev law4H2 (B : Nat) (a : Fct) (atp : Option Addr) (atc : Nat) (abp : Option Addr) (abc : Nat) (aap : Option Addr) (aac : Nat) : SHeap := [(B, .cells #[.int .i64 a.n, .int .i64 a.time, .int .i64 a.kind, .int .i64 a.story, .string a.lang, .int .i64 a.rev, .int .i64 a.base, .string a.title, .string a.author, .slice atp a.topics.length atc, .slice abp a.blocks.length abc, .int .i64 a.lab.unt, .slice aap a.lab.after.length aac, .int .i64 a.lab.appr, .int .i64 a.lab.den, .int .i64 a.editor, .int .i64 a.block, .int .i64 a.sentence, .string a.text, .string a.name, .int .i64 a.partner, .int .i64 a.cls, .int .i64 a.unt] 28)]
abbrev law4H3 (B1 : Nat) (w : Fct) (wtp : Option Addr) (wtc : Nat) (wbp : Option Addr) (wbc : Nat) (wap : Option Addr) (wac : Nat) (B : Nat) (a : Fct) (atp : Option Addr) (atc : Nat) (abp : Option Addr) (abc : Nat) (aap : Option Addr) (aac : Nat) (F1 : SHeap) : SHeap := ((B1, .cells #[.int .i64 w.n, .int .i64 w.time, .int .i64 w.kind, .int .i64 w.story, .string w.lang, .int .i64 w.rev, .int .i64 w.base, .string w.title, .string w.author, .slice wtp w.topics.length wtc, .slice wbp w.blocks.length wbc, .int .i64 w.lab.unt, .slice wap w.lab.after.length wac, .int .i64 w.lab.appr, .int .i64 w.lab.den, .int .i64 w.editor, .int .i64 w.block, .int .i64 w.sentence, .string w.text, .string w.name, .int .i64 w.partner, .int .i64 w.cls, .int .i64 w.unt] 28) :: (B, .cells #[.int .i64 a.n, .int .i64 a.time, .int .i64 a.kind, .int .i64 a.story, .string a.lang, .int .i64 a.rev, .int .i64 a.base, .string a.title, .string a.author, .slice atp a.topics.length atc, .slice abp a.blocks.length abc, .int .i64 a.lab.unt, .slice aap a.lab.after.length aac, .int .i64 a.lab.appr, .int .i64 a.lab.den, .int .i64 a.editor, .int .i64 a.block, .int .i64 a.sentence, .string a.text, .string a.name, .int .i64 a.partner, .int .i64 a.cls, .int .i64 a.unt] 28) :: F1)
abbrev law4A0 (w : Fct) (wtp : Option Addr) (wtc : Nat) (wbp : Option Addr) (wbc : Nat) (wap : Option Addr) (wac : Nat) : Array Value := #[.int .i64 w.n, .int .i64 w.time, .int .i64 w.kind, .int .i64 w.story, .string w.lang, .int .i64 w.rev, .int .i64 w.base, .string w.title, .string w.author, .slice wtp w.topics.length wtc, .slice wbp w.blocks.length wbc, .int .i64 w.lab.unt, .slice wap w.lab.after.length wac, .int .i64 w.lab.appr, .int .i64 w.lab.den, .int .i64 w.editor, .int .i64 w.block, .int .i64 w.sentence, .string w.text, .string w.name, .int .i64 w.partner, .int .i64 w.cls, .int .i64 w.unt]
abbrev law4A1 (y : Fct) (ytp : Option Addr) (ytc : Nat) (ybp : Option Addr) (ybc : Nat) (yap : Option Addr) (yac : Nat) : Array Value := #[.int .i64 y.n, .int .i64 y.time, .int .i64 y.kind, .int .i64 y.story, .string y.lang, .int .i64 y.rev, .int .i64 y.base, .string y.title, .string y.author, .slice ytp y.topics.length ytc, .slice ybp y.blocks.length ybc, .int .i64 y.lab.unt, .slice yap y.lab.after.length yac, .int .i64 y.lab.appr, .int .i64 y.lab.den, .int .i64 y.editor, .int .i64 y.block, .int .i64 y.sentence, .string y.text, .string y.name, .int .i64 y.partner, .int .i64 y.cls, .int .i64 y.unt]
abbrev law4A2 (a : Fct) (atp : Option Addr) (atc : Nat) (abp : Option Addr) (abc : Nat) (aap : Option Addr) (aac : Nat) : Array Value := #[.int .i64 a.n, .int .i64 a.time, .int .i64 a.kind, .int .i64 a.story, .string a.lang, .int .i64 a.rev, .int .i64 a.base, .string a.title, .string a.author, .slice atp a.topics.length atc, .slice abp a.blocks.length abc, .int .i64 a.lab.unt, .slice aap a.lab.after.length aac, .int .i64 a.lab.appr, .int .i64 a.lab.den, .int .i64 a.editor, .int .i64 a.block, .int .i64 a.sentence, .string a.text, .string a.name, .int .i64 a.partner, .int .i64 a.cls, .int .i64 a.unt]
abbrev law4A3 : Array Value := #[.int .i64 (0 : Int), .int .i64 (0 : Int), .int .i64 (0 : Int), .int .i64 (0 : Int), .string (⟨#[]⟩), .int .i64 (0 : Int), .int .i64 (0 : Int), .string (⟨#[]⟩), .string (⟨#[]⟩), .slice none 0 0, .slice none 0 0, .int .i64 (0 : Int), .slice none 0 0, .int .i64 (0 : Int), .int .i64 (0 : Int), .int .i64 (0 : Int), .int .i64 (0 : Int), .int .i64 (0 : Int), .string (⟨#[]⟩), .string (⟨#[]⟩), .int .i64 (0 : Int), .int .i64 (0 : Int), .int .i64 (0 : Int)]
theorem law4_vc (a : Fct) (atp : Option Addr) (atc : Nat) (abp : Option Addr) (abc : Nat) (aap : Option Addr) (aac : Nat) (field : Int) {R : Ending → World → Prop} {w0 W : World} (hm : Mem [] [] w0 W)
  (H :
   ∀ B : Nat,
   CallH Tryz.prog 17 ⟨[]⟩ (law4H2 B a atp atc abp abc aap aac) [] w0 (fun v L' => ∃ (r1 : Bool), v = (.bool r1) ∧ L' = (law4H2 B a atp atc abp abc aap aac) ∧
    CallH Tryz.prog 18 ⟨[.agg (law4A2 a atp atc abp abc aap aac)]⟩ (law4H2 B a atp atc abp abc aap aac) [] w0 (fun v L' => ∃ (w : Fct) (wtp : Option Addr) (wtc : Nat) (wbp : Option Addr) (wbc : Nat) (wap : Option Addr) (wac : Nat) (F : SHeap), v = (.agg (law4A0 w wtp wtc wbp wbc wap wac)) ∧ L' = ((B, .cells (law4A2 a atp atc abp abc aap aac) 28) :: F) ∧
     ∀ B1 : Nat,
     CallH Tryz.prog 20 ⟨[.agg (law4A0 w wtp wtc wbp wbc wap wac)]⟩ (law4H1 B1 w wtp wtc wbp wbc wap wac B a atp atc abp abc aap aac F) [] w0 (fun v L' => ∃ (r31 : Bool), v = (.bool r31) ∧ L' = (law4H1 B1 w wtp wtc wbp wbc wap wac B a atp atc abp abc aap aac F) ∧
      ((r31 = true) →
       CallH Tryz.prog 24 ⟨[.int .i64 w.kind, .int .i64 field]⟩ (law4H1 B1 w wtp wtc wbp wbc wap wac B a atp atc abp abc aap aac F) [] w0 (fun v L' => ∃ (r41 : Bool), v = (.bool r41) ∧ L' = (law4H1 B1 w wtp wtc wbp wbc wap wac B a atp atc abp abc aap aac F) ∧
        ((r41 = true) →
         Fin R (law4H1 B1 w wtp wtc wbp wbc wap wac B a atp atc abp abc aap aac F) [] w0 (.bool r1)) ∧
         ((r41 = false) →
         CallH Tryz.prog 25 ⟨[.agg (law4A0 w wtp wtc wbp wbc wap wac), .int .i64 field]⟩ (law4H1 B1 w wtp wtc wbp wbc wap wac B a atp atc abp abc aap aac F) [] w0 (fun v L' => ∃ (y : Fct) (ytp : Option Addr) (ytc : Nat) (ybp : Option Addr) (ybc : Nat) (yap : Option Addr) (yac : Nat) (F1 : SHeap), v = (.agg (law4A1 y ytp ytc ybp ybc yap yac)) ∧ L' = (law4H3 B1 w wtp wtc wbp wbc wap wac B a atp atc abp abc aap aac F1) ∧
          ∀ B2 : Nat,
          CallH Tryz.prog 19 ⟨[.agg (law4A1 y ytp ytc ybp ybc yap yac)]⟩ (law4H0 B2 y ytp ytc ybp ybc yap yac B1 w wtp wtc wbp wbc wap wac B a atp atc abp abc aap aac F1) [] w0 (fun v L' => ∃ (r61 : ByteArray) (r71 : Int), v = (.tuple #[.string r61, .int .i64 r71]) ∧ L' = (law4H0 B2 y ytp ytc ybp ybc yap yac B1 w wtp wtc wbp wbc wap wac B a atp atc abp abc aap aac F1) ∧
           ((r1 = true) →
            CallH Tryz.prog 20 ⟨[.agg (law4A1 y ytp ytc ybp ybc yap yac)]⟩ (law4H0 B2 y ytp ytc ybp ybc yap yac B1 w wtp wtc wbp wbc wap wac B a atp atc abp abc aap aac F1) [] w0 (fun v L' => ∃ (r81 : Bool), v = (.bool r81) ∧ L' = (law4H0 B2 y ytp ytc ybp ybc yap yac B1 w wtp wtc wbp wbc wap wac B a atp atc abp abc aap aac F1) ∧
             ((r81 = true) →
              Fin R (law4H0 B2 y ytp ytc ybp ybc yap yac B1 w wtp wtc wbp wbc wap wac B a atp atc abp abc aap aac F1) [] w0 (.bool false)) ∧
              ((r81 = false) →
              CallH Tryz.prog 22 ⟨[.agg (law4A0 w wtp wtc wbp wbc wap wac), .agg (law4A1 y ytp ytc ybp ybc yap yac)]⟩ (law4H0 B2 y ytp ytc ybp ybc yap yac B1 w wtp wtc wbp wbc wap wac B a atp atc abp abc aap aac F1) [] w0 (fun v L' => ∃ (r91 : Bool), v = (.bool r91) ∧ L' = (law4H0 B2 y ytp ytc ybp ybc yap yac B1 w wtp wtc wbp wbc wap wac B a atp atc abp abc aap aac F1) ∧
               ((r91 = true) →
                Fin R (law4H0 B2 y ytp ytc ybp ybc yap yac B1 w wtp wtc wbp wbc wap wac B a atp atc abp abc aap aac F1) [] w0 (.bool false)) ∧
                ((r91 = false) →
                ((r61 = (⟨#[]⟩ : ByteArray)) →
                 Fin R (law4H0 B2 y ytp ytc ybp ybc yap yac B1 w wtp wtc wbp wbc wap wac B a atp atc abp abc aap aac F1) [] w0 (.bool (decide (r71 = (50 : Int))))) ∧
                 ((¬ r61 = (⟨#[]⟩ : ByteArray)) →
                 Fin R (law4H0 B2 y ytp ytc ybp ybc yap yac B1 w wtp wtc wbp wbc wap wac B a atp atc abp abc aap aac F1) [] w0 (.bool false))))))) ∧
            ((r1 = false) →
            Fin R (law4H0 B2 y ytp ytc ybp ybc yap yac B1 w wtp wtc wbp wbc wap wac B a atp atc abp abc aap aac F1) [] w0 (.bool false))))))) ∧
       ((r31 = false) →
       Fin R (law4H1 B1 w wtp wtc wbp wbc wap wac B a atp atc abp abc aap aac F) [] w0 (.bool r1)))))) :
  Calls Tryz.prog 7 ⟨[.agg (law4A2 a atp atc abp abc aap aac), .int .i64 field]⟩ W R := by
 refine AtE.calls (nt := 51) Tryz.func7 (by kernel_rfl) hm ?_
 refine AtE.ru 2 ?_
 refine AtE.new (fun B => .pointer (some ⟨B, 0, none⟩)) (.cells (law4A2 a atp atc abp abc aap aac) 28) (fun W => by kernel_rfl) (by kernel_rfl) (fun B => ?_)
 replace H := H B
 refine AtE.ru 4 ?_
 refine AtE.call 17 ⟨[]⟩ (fun W => by kernel_rfl) (by kernel_rfl) H ?_
 clear H
 rintro _ _ ⟨r1, rfl, rfl, H⟩
 refine AtE.ru 4 ?_
 refine AtE.load 0 0 (T := 28) (v := .agg (law4A2 a atp atc abp abc aap aac)) (by kernel_rfl) ?_
 refine AtE.call 18 ⟨[.agg (law4A2 a atp atc abp abc aap aac)]⟩ (fun W => by kernel_rfl) (by kernel_rfl) H ?_
 clear H
 rintro _ _ ⟨w, wtp, wtc, wbp, wbc, wap, wac, F, rfl, rfl, H⟩
 refine AtE.new (fun B => .pointer (some ⟨B, 0, none⟩)) (.cells law4A3 28) (fun W => by kernel_rfl) (by kernel_rfl) (fun B1 => ?_)
 replace H := H B1
 refine AtE.front ?_
 refine AtE.store 0 0 (T := 28) (v := .agg (law4A0 w wtp wtc wbp wbc wap wac)) (by kernel_rfl) ?_
 refine AtE.ru 4 ?_
 refine AtE.load 0 0 (T := 28) (v := .agg (law4A0 w wtp wtc wbp wbc wap wac)) (by kernel_rfl) ?_
 refine AtE.norm (k' := [.inRegion (regOps [.code (sub (Eng.body Tryz.f7) [1,1,1,0,0])]) [1,2,3,4,5,6,7,8], .code (sub (Eng.body Tryz.f7) [1,1,1,0,1]), .code (sub (Eng.body Tryz.f7) [1,1,1,1])]) (e' := [(1, .int .i64 field), (5, .bool r1), (6, .pointer (some ⟨B1, 0, none⟩)), (13, .agg (law4A0 w wtp wtc wbp wbc wap wac))]) (L' := (law4H1 B1 w wtp wtc wbp wbc wap wac B a atp atc abp abc aap aac F)) ?_ (by kernel_rfl)
 refine AtE.call 20 ⟨[.agg (law4A0 w wtp wtc wbp wbc wap wac)]⟩ (fun W => by kernel_rfl) (by kernel_rfl) H ?_
 clear H
 rintro _ _ ⟨r31, rfl, rfl, H⟩
 refine AtE.split 14 (b := r31) (by kernel_rfl) (fun h1' => ?_) (fun h1' => ?_)
 ·replace H := H.1 h1'
  refine AtE.ru 3 ?_
  refine AtE.load 0 2 (T := 3) (v := .int .i64 w.kind) (by kernel_rfl) ?_
  refine AtE.ru 1 ?_
  refine AtE.call 24 ⟨[.int .i64 w.kind, .int .i64 field]⟩ (fun W => by kernel_rfl) (by kernel_rfl) H ?_
  clear H
  rintro _ _ ⟨r41, rfl, rfl, H⟩
  refine AtE.ru 2 ?_
  refine AtE.split 21 (b := r41) (by kernel_rfl) (fun h2' => ?_) (fun h2' => ?_)
  ·replace H := H.1 h2'
   refine AtE.ru 6 ?_
   exact AtE.ret Tryz.func7 (by kernel_rfl) H
  ·replace H := H.2 h2'
   refine AtE.ru 4 ?_
   refine AtE.load 0 0 (T := 28) (v := .agg (law4A0 w wtp wtc wbp wbc wap wac)) (by kernel_rfl) ?_
   refine AtE.ru 1 ?_
   refine AtE.call 25 ⟨[.agg (law4A0 w wtp wtc wbp wbc wap wac), .int .i64 field]⟩ (fun W => by kernel_rfl) (by kernel_rfl) H ?_
   clear H
   rintro _ _ ⟨y, ytp, ytc, ybp, ybc, yap, yac, F1, rfl, rfl, H⟩
   refine AtE.norm (k' := [.inRegion (regOps [.code (sub (Eng.body Tryz.f7) [1,1,1,1,0])]) [3,4], .code (sub (Eng.body Tryz.f7) [1,1,1,1,1])]) (e' := [(5, .bool r1), (6, .pointer (some ⟨B1, 0, none⟩)), (25, .agg (law4A1 y ytp ytc ybp ybc yap yac))]) (L' := (law4H3 B1 w wtp wtc wbp wbc wap wac B a atp atc abp abc aap aac F1)) ?_ (by kernel_rfl)
   refine AtE.new (fun B => .pointer (some ⟨B, 0, none⟩)) (.cells law4A3 28) (fun W => by kernel_rfl) (by kernel_rfl) (fun B2 => ?_)
   replace H := H B2
   refine AtE.front ?_
   refine AtE.store 0 0 (T := 28) (v := .agg (law4A1 y ytp ytc ybp ybc yap yac)) (by kernel_rfl) ?_
   refine AtE.ru 3 ?_
   refine AtE.load 0 0 (T := 28) (v := .agg (law4A1 y ytp ytc ybp ybc yap yac)) (by kernel_rfl) ?_
   refine AtE.call 19 ⟨[.agg (law4A1 y ytp ytc ybp ybc yap yac)]⟩ (fun W => by kernel_rfl) (by kernel_rfl) H ?_
   clear H
   rintro _ _ ⟨r61, r71, rfl, rfl, H⟩
   refine AtE.ru 10 ?_
   refine AtE.split 32 (b := r1) (by kernel_rfl) (fun h3' => ?_) (fun h3' => ?_)
   ·replace H := H.1 h3'
    refine AtE.load 0 0 (T := 28) (v := .agg (law4A1 y ytp ytc ybp ybc yap yac)) (by kernel_rfl) ?_
    refine AtE.call 20 ⟨[.agg (law4A1 y ytp ytc ybp ybc yap yac)]⟩ (fun W => by kernel_rfl) (by kernel_rfl) H ?_
    clear H
    rintro _ _ ⟨r81, rfl, rfl, H⟩
    refine AtE.norm (k' := [.inRegion (regOps [.code (sub (Eng.body Tryz.f7) [1,1,1,1,1,1,0])]) [4,5,6,7,8,9,10,11,12,13,14,15,16,17,18,19,20], .code (sub (Eng.body Tryz.f7) [1,1,1,1,1,1,1])]) (e' := [(6, .pointer (some ⟨B1, 0, none⟩)), (7, .pointer (some ⟨B2, 0, none⟩)), (8, .string r61), (9, .int .i64 r71), (32, .bool true), (34, .bool r81)]) (L' := (law4H0 B2 y ytp ytc ybp ybc yap yac B1 w wtp wtc wbp wbc wap wac B a atp atc abp abc aap aac F1)) ?_ (by kernel_rfl)
    refine AtE.split 34 (b := r81) (by kernel_rfl) (fun h4' => ?_) (fun h4' => ?_)
    ·replace H := H.1 h4'
     refine AtE.ru 18 ?_
     exact AtE.ret Tryz.func7 (by kernel_rfl) H
    ·replace H := H.2 h4'
     refine AtE.ru 3 ?_
     refine AtE.load 1 0 (T := 28) (v := .agg (law4A0 w wtp wtc wbp wbc wap wac)) (by kernel_rfl) ?_
     refine AtE.load 0 0 (T := 28) (v := .agg (law4A1 y ytp ytc ybp ybc yap yac)) (by kernel_rfl) ?_
     refine AtE.call 22 ⟨[.agg (law4A0 w wtp wtc wbp wbc wap wac), .agg (law4A1 y ytp ytc ybp ybc yap yac)]⟩ (fun W => by kernel_rfl) (by kernel_rfl) H ?_
     clear H
     rintro _ _ ⟨r91, rfl, rfl, H⟩
     refine AtE.split 40 (b := r91) (by kernel_rfl) (fun h5' => ?_) (fun h5' => ?_)
     ·replace H := H.1 h5'
      refine AtE.ru 12 ?_
      exact AtE.ret Tryz.func7 (by kernel_rfl) H
     ·replace H := H.2 h5'
      refine AtE.ru 7 ?_
      refine AtE.splitS 47 (x := r61) (y := (⟨#[]⟩ : ByteArray)) (by kernel_rfl) (fun h6' => ?_) (fun h6' => ?_)
      ·replace H := H.1 h6'
       refine AtE.ru 5 ?_
       exact AtE.ret Tryz.func7 (by kernel_rfl) H
      ·replace H := H.2 h6'
       refine AtE.ru 5 ?_
       exact AtE.ret Tryz.func7 (by kernel_rfl) H
   ·replace H := H.2 h3'
    refine AtE.ru 20 ?_
    exact AtE.ret Tryz.func7 (by kernel_rfl) H
 ·replace H := H.2 h1'
  refine AtE.ru 14 ?_
  exact AtE.ret Tryz.func7 (by kernel_rfl) H
end Go.Eng
namespace Go.Eng
open Go Go.RowKit Go.Proofs Wire
set_option linter.unusedVariables false
def sF : Nat → Fld
  | 0 => .editor | 1 => .name | 2 => .partner | 3 => .cls | 4 => .lang | 5 => .rev | 6 => .label | 7 => .topics | _ => .block
def usesB (k : Int) : Nat → Bool
  | 0 => decide (k = 2) | 1 => decide (k = 7) | 2 => decide (k = 8 ∨ k = 9) | 3 => decide (k = 8) | 4 => decide (k = 1 ∨ k = 4) | 5 => decide (k = 1) | 6 => decide (k = 1 ∨ k = 3) | 7 => decide (k = 1) | _ => decide (k = 4)
def spoilF (f : Fct) : Nat → Fct
  | 0 => { f with editor := 1 } | 1 => { f with name := ⟨#[97]⟩ } | 2 => { f with partner := 1 } | 3 => { f with cls := 1 } | 4 => { f with lang := ⟨#[101]⟩ } | 5 => { f with rev := 1 } | 6 => { f with lab := ⟨0, [], 1, 0⟩ } | 7 => { f with topics := [⟨#[122]⟩] } | _ => { f with block := 1 }
theorem uses_tab : ∀ k ∈ ([1, 2, 3, 4, 5, 6, 7, 8, 9, 10] : List Int), ∀ j ∈ ([0, 1, 2, 3, 4, 5, 6, 7, 8] : List Nat), usesB k j = false → sF j ∉ kfields k := by decide
theorem j9 {j : Nat} (h : j < 9) : j = 0 ∨ j = 1 ∨ j = 2 ∨ j = 3 ∨ j = 4 ∨ j = 5 ∨ j = 6 ∨ j = 7 ∨ j = 8 := by omega
theorem uses_not {k : Int} {j : Nat} (hk : 1 ≤ k ∧ k ≤ 10) (hj : j < 9) (h : usesB k j = false) : sF j ∉ kfields k := by
  refine uses_tab k ?_ j ?_ h
  · have : k = 1 ∨ k = 2 ∨ k = 3 ∨ k = 4 ∨ k = 5 ∨ k = 6 ∨ k = 7 ∨ k = 8 ∨ k = 9 ∨ k = 10 := by omega
    simpa using this
  · have := j9 hj
    simpa using this
theorem foldset_keep {f : Fct} {y : Fld} : ∀ (l : List Fld) (g : Fct), y ∉ l → (l.foldl (fun g x => g.set x (f.get x)) g).get y = g.get y
  | [], _, _ => rfl
  | x :: l, g, h => by
    rw [List.foldl_cons, foldset_keep l _ (fun hh => h (List.mem_cons_of_mem _ hh))]
    exact Fct.get_set_ne g (fun e => h (by rw [e]; exact List.mem_cons_self)) _
theorem used_zero {f : Fct} {y : Fld} (h : f.ok = true) (hy : y ∉ kfields f.kind) (hn : y ≠ .n ∧ y ≠ .time ∧ y ≠ .kind) : f.get y = Fct.zero.get y := by
  have e : f = f.used := by
    rw [Fct.ok] at h
    simp only [Bool.and_eq_true, decide_eq_true_eq] at h
    exact h.2.2
  have e2 : f.used.get y = (Fct.bare f.n f.time f.kind).get y := foldset_keep _ _ hy
  rw [← e] at e2
  rw [e2]
  obtain ⟨h1, h2, h3⟩ := hn
  cases y <;> first | rfl | exact absurd rfl h1 | exact absurd rfl h2 | exact absurd rfl h3
theorem spoil_kind (f : Fct) (j : Nat) : (spoilF f j).kind = f.kind := by
  unfold spoilF; split <;> rfl
theorem spoil_get {f : Fct} {j : Nat} (hj : j < 9) : (spoilF f j).get (sF j) ≠ Fct.zero.get (sF j) := by
  rcases j9 hj with rfl | rfl | rfl | rfl | rfl | rfl | rfl | rfl | rfl
  · exact show (1 : Int) ≠ 0 by decide
  · exact show (⟨#[97]⟩ : ByteArray) ≠ ⟨#[]⟩ by decide
  · exact show (1 : Int) ≠ 0 by decide
  · exact show (1 : Int) ≠ 0 by decide
  · exact show (⟨#[101]⟩ : ByteArray) ≠ ⟨#[]⟩ by decide
  · exact show (1 : Int) ≠ 0 by decide
  · exact show (⟨0, [], 1, 0⟩ : Lab) ≠ Lab.zero by decide
  · exact show ([⟨#[122]⟩] : List ByteArray) ≠ [] by decide
  · exact show (1 : Int) ≠ 0 by decide
theorem sF_ne (j : Nat) : sF j ≠ .n ∧ sF j ≠ .time ∧ sF j ≠ .kind := by
  unfold sF; split <;> decide
theorem spoil_law {f : Fct} {j : Nat} (hok : f.ok = true) (hj : j < 9) (hu : usesB f.kind j = false) : f.get (sF j) = Fct.zero.get (sF j) ∧ (spoilF f j).ok = false ∧ f ≠ spoilF f j := by
  have hk := vals_kind (f := f) (by rw [Fct.ok] at hok; simp only [Bool.and_eq_true] at hok; exact hok.2.1)
  have hn := uses_not hk hj hu
  have hz := used_zero hok hn (sF_ne j)
  refine ⟨hz, ?_, fun e => spoil_get (f := f) hj (by rw [← e]; exact hz)⟩
  cases hs : (spoilF f j).ok with
  | false => rfl
  | true => exact absurd (used_zero hs (by rw [spoil_kind]; exact hn) (sF_ne j)) (spoil_get hj)
theorem uses_c {k field : Int} (hc : i64 field) : PureC Tryz.prog 24 ⟨[.int .i64 k, .int .i64 field]⟩ (.bool (usesB k (pickN field % 9))) := by
  intro W
  have hj : pickN field % 9 < 9 := Nat.mod_lt _ (by decide)
  have hp := pick_c field 9 hc (by decide)
  generalize pickN field % 9 = j at *
  refine uses_vc k field (Mem.start [] W) ⟨fun h8 => ⟨fun h1 => by omega, fun h1 B => ?_⟩, fun h8 => ⟨fun h1 B => ?_, fun h1 B => ?_⟩⟩
  all_goals
    refine CallH.pure hp ⟨_, rfl, rfl, by omega, usesB k j, ?_, finPure rfl⟩
    rw [Int.toNat_natCast]
    rcases j9 hj with rfl | rfl | rfl | rfl | rfl | rfl | rfl | rfl | rfl <;> simp [usesB, h8, h1]
theorem spoil_e {lk : Lk} {f : Fct} {tp bp ap : Option Addr} {tc bc ac : Nat} {field : Int} (h : FAt lk f tp tc bp bc ap ac) (hc : i64 field) (hz : f.get (sF (pickN field % 9)) = Fct.zero.get (sF (pickN field % 9))) :
    EffW Tryz.prog 25 ⟨[.agg ⟨f.cells tp tc bp bc ap ac⟩, .int .i64 field]⟩ [] (fun W => ∀ b c, lk b c → lkW W b c) (FewOut lk (spoilF f (pickN field % 9))) := by
  intro W hm hlk
  have hj : pickN field % 9 < 9 := Nat.mod_lt _ (by decide)
  have hp := pick_c field 9 hc (by decide)
  generalize pickN field % 9 = j at *
  refine spoiled_vc f tp tc bp bc ap ac field hm fun B B1 => CallH.pure hp ⟨_, rfl, rfl, ?_⟩
  have at' : ∀ {F : SHeap} {g : Fct}, g.topics = f.topics → g.blocks = f.blocks → g.lab = f.lab → g.Fits → FAt (lkU F lk) g tp tc bp bc ap ac := fun {F g} e1 e2 e3 hf =>
    ⟨by rw [e1]; exact h.tops.mono lkU_r, by rw [e2]; exact h.blks.mono lkU_r, by rw [e3]; exact h.ints.mono lkU_r, by rw [e1]; exact h.ct, by rw [e2]; exact h.cb, by rw [e3]; exact h.ca, hf⟩
  have ft := h.fits
  rcases j9 hj with rfl | rfl | rfl | rfl | rfl | rfl | rfl | rfl | rfl
  · have hz : f.editor = 0 := hz
    exact yes rfl (dkFin ⟨tp, tc, bp, bc, ap, ac, by delta spoiledA0; rw [hz]; rfl, at' rfl rfl rfl ft⟩)
  · have hz : f.name = ⟨#[]⟩ := hz
    exact no (by decide) (yes rfl ⟨by rw [hz]; decide, dkFin ⟨tp, tc, bp, bc, ap, ac, by delta spoiledA7; rw [hz]; rfl, at' rfl rfl rfl ⟨⟨ft.1.1, ft.1.2.1, ft.1.2.2.1, ft.1.2.2.2.1, show (⟨#[97]⟩ : ByteArray).size ≤ 9223372036854775807 by decide⟩, ft.2⟩⟩⟩)
  · have hz : f.partner = 0 := hz
    exact no (by decide) (no (by decide) (yes rfl (dkFin ⟨tp, tc, bp, bc, ap, ac, by delta spoiledA2; rw [hz]; rfl, at' rfl rfl rfl ft⟩)))
  · have hz : f.cls = 0 := hz
    exact no (by decide) (no (by decide) (no (by decide) (yes rfl (dkFin ⟨tp, tc, bp, bc, ap, ac, by delta spoiledA3; rw [hz]; rfl, at' rfl rfl rfl ft⟩))))
  · have hz : f.lang = ⟨#[]⟩ := hz
    exact no (by decide) (no (by decide) (no (by decide) (no (by decide) (yes rfl ⟨by rw [hz]; decide, dkFin ⟨tp, tc, bp, bc, ap, ac, by delta spoiledA6; rw [hz]; rfl, at' rfl rfl rfl ⟨⟨show (⟨#[101]⟩ : ByteArray).size ≤ 9223372036854775807 by decide, ft.1.2⟩, ft.2⟩⟩⟩))))
  · have hz : f.rev = 0 := hz
    exact no (by decide) (no (by decide) (no (by decide) (no (by decide) (no (by decide) (yes rfl (dkFin ⟨tp, tc, bp, bc, ap, ac, by delta spoiledA4; rw [hz]; rfl, at' rfl rfl rfl ft⟩))))))
  · have hz : f.lab = Lab.zero := hz
    exact no (by decide) (no (by decide) (no (by decide) (no (by decide) (no (by decide) (no (by decide) (yes rfl (dkFin ⟨tp, tc, bp, bc, ap, ac, by delta spoiledA9; rw [hz]; rfl,
      ⟨h.tops.mono lkU_r, h.blks.mono lkU_r, fun hh => absurd (show (0 : Nat) < 0 from hh) (by decide), h.ct, h.cb, Nat.zero_le _, ft.1, ft.2.1, ft.2.2.1, show (0 : Nat) ≤ 9223372036854775807 by decide⟩⟩)))))))
  · have hz : f.topics = [] := hz
    refine no (by decide) (no (by decide) (no (by decide) (no (by decide) (no (by decide) (no (by decide) (no (by decide) (yes rfl fun B2 => ⟨[], ?_, ?_⟩)))))))
    · rw [hz]
      cases tp with
      | none => exact srcNil (E' := 9) (by kernel_rfl)
      | some q => exact srcSl (E' := 9) (by kernel_rfl) (Src.nil q) rfl (fun u hu => absurd hu (by simp))
    · rw [hz]
      refine ⟨⟨Nat.le_refl _, rfl⟩, ⟨by decide, by decide⟩, fun B3 cap r q1 q2 B4 => ⟨⟨q1, q2⟩, ⟨by decide, by decide⟩, fun B5 cap1 r3 p1 p2 => dkFin ⟨some ⟨B5, 0, none⟩, cap1, bp, bc, ap, ac, ?_, ?_⟩⟩⟩
      · delta spoiledA5; rw [hz]; rfl
      · exact ⟨fun _ => ⟨B5, 0, _, rfl, .inl ⟨_, _, List.mem_cons_of_mem _ (List.mem_cons_of_mem _ (List.mem_cons_of_mem _ List.mem_cons_self))⟩, fun i hi => by
          match i, hi with
          | 0, _ => rfl⟩, h.blks.mono lkU_r, h.ints.mono lkU_r, p1, h.cb, h.ca, ft.1, ⟨show 1 ≤ 9223372036854775807 by decide, fun t ht => by rw [List.mem_singleton.1 ht]; decide⟩, ft.2.2⟩
  · have hz : f.block = 0 := hz
    exact no (by decide) (no (by decide) (no (by decide) (no (by decide) (no (by decide) (no (by decide) (no (by decide) (no (by decide) (dkFin ⟨tp, tc, bp, bc, ap, ac, by delta spoiledA1; rw [hz]; rfl, at' rfl rfl rfl ft⟩))))))))
theorem fact4 {W : World} {a : Fct} {tp bp ap : Option Addr} {tc bc ac : Nat} {field : Int} (h : FArg (lkW W) a tp tc bp bc ap ac) (hc : i64 field) : PW Tryz.prog 7 ⟨[.agg ⟨a.cells tp tc bp bc ap ac⟩, .int .i64 field]⟩ W (.bool true) := by
  refine law4_vc a tp tc bp bc ap ac field (Mem.start [] W) fun B => CallH.pure sane_c5 ⟨_, rfl, rfl, ?_⟩
  refine CallH.few [_] (F := []) h fun wtp wtc wbp wbc wap wac F hw => ⟨fewF a, wtp, wtc, wbp, wbc, wap, wac, _, rfl, rfl, fun B1 => ?_⟩
  refine CallH.pw (fun W' hm' => fValid_c (hw.mono (lkU_W hm' fun x hx => by simp [hx]))) ⟨_, rfl, rfl, fun hok => ?_, fun _ => finPW rfl⟩
  refine CallH.pure (uses_c hc) ⟨_, rfl, rfl, fun _ => finPW rfl, fun hu => ?_⟩
  obtain ⟨h1, h2, h3⟩ := spoil_law hok (Nat.mod_lt _ (by decide)) hu
  refine CallH.effW (L0 := []) (spoil_e hw hc h1) (fun W' hm' => lkU_W hm' fun x hx => by simp [hx]) (List.Perm.refl _) ?_
  rintro _ F1 ⟨ytp, ytc, ybp, ybc, yap, yac, rfl, hy⟩
  refine ⟨[_, _] ++ (F1 ++ (F ++ [])), List.perm_append_comm_assoc _ [_, _] _, spoilF (fewF a) (pickN field % 9), ytp, ytc, ybp, ybc, yap, yac, _, rfl, rfl, fun B2 => ?_⟩
  have lkY : ∀ {L : SHeap} {W'}, Mem L [] W W' → (∀ x ∈ F1, x ∈ L) → (∀ x ∈ F, x ∈ L) → ∀ b c, lkU F1 (lkU F (lkW W)) b c → lkW W' b c := by
    rintro L W' hm g1 g2 b c (hb | hb)
    · exact lkF_W hm g1 b c hb
    · exact lkU_W hm g2 b c hb
  refine CallH.pw (fun W' hm' => fEncode_c (hy.mono (lkY hm' (fun x hx => by simp [hx]) (fun x hx => by simp [hx])))) ⟨⟨#[]⟩, 50, enc_no h2, rfl, ?_⟩
  refine tt rfl (CallH.pw (fun W' hm' => fValid_c (hy.mono (lkY hm' (fun x hx => by simp [hx]) (fun x hx => by simp [hx])))) ⟨_, rfl, rfl, ff h2 ?_⟩)
  refine CallH.pw (fun W' hm' => fSame_c (hw.mono (lkU_W hm' fun x hx => by simp [hx])) (hy.mono (lkY hm' (fun x hx => by simp [hx]) (fun x hx => by simp [hx])))) ⟨_, rfl, rfl, ff (decide_eq_false h3) (yes rfl (finPW (by simp)))⟩
end Go.Eng
