/- A part of the proof: the engine by which functions are walked, verification conditions that a program of the prover wrote, contracts and plain laws; no claim of its own. -/
import Derived.Test.YtombejccmojjbaaGreatDoorChecked
import Derived.Test.YtombejccmojjbaaGreatDoorLisF
namespace Go.Eng
open Go Go.RowKit Go.Proofs
set_option linter.unusedVariables false
set_option maxRecDepth 100000
abbrev few5A0 : Array Value := #[.int .i64 (0 : Int), .int .i64 (0 : Int), .int .i64 (0 : Int), .int .i64 (0 : Int), .string (⟨#[]⟩), .int .i64 (0 : Int), .int .i64 (0 : Int), .string (⟨#[]⟩), .string (⟨#[]⟩), .slice none 0 0, .slice none 0 0, .int .i64 (0 : Int), .slice none 0 0, .int .i64 (0 : Int), .int .i64 (0 : Int), .int .i64 (0 : Int), .int .i64 (0 : Int), .int .i64 (0 : Int), .string (⟨#[]⟩), .string (⟨#[]⟩), .int .i64 (0 : Int), .int .i64 (0 : Int), .int .i64 (0 : Int)]
abbrev few5A1 (f : Fct) (m91_p : Option Addr) (m91_l : Nat) (m91_c : Nat) (B9 : Nat) (l_l : Nat) (l_c : Nat) (m121_p : Option Addr) (m121_l : Nat) (m121_c : Nat) : Array Value := #[.int .i64 f.n, .int .i64 f.time, .int .i64 f.kind, .int .i64 f.story, .string f.lang, .int .i64 f.rev, .int .i64 f.base, .string (f.title.extract 0 (Int.toNat (if (400 : Int) < (f.title.size : Int) then (400 : Int) else (f.title.size : Int)))), .string f.author, .slice m91_p m91_l m91_c, .slice (some ⟨B9, 0, none⟩) l_l l_c, .int .i64 f.lab.unt, .slice m121_p m121_l m121_c, .int .i64 f.lab.appr, .int .i64 f.lab.den, .int .i64 f.editor, .int .i64 f.block, .int .i64 f.sentence, .string (f.text.extract 0 (Int.toNat (if (1200 : Int) < (f.text.size : Int) then (1200 : Int) else (f.text.size : Int)))), .string f.name, .int .i64 f.partner, .int .i64 f.cls, .int .i64 f.unt]
abbrev few5A2 (f : Fct) (m9_p : Option Addr) (m9_l : Nat) (m9_c : Nat) (m12_p : Option Addr) (m12_l : Nat) (m12_c : Nat) : Array Value := #[.int .i64 f.n, .int .i64 f.time, .int .i64 f.kind, .int .i64 f.story, .string f.lang, .int .i64 f.rev, .int .i64 f.base, .string (f.title.extract 0 (Int.toNat (if (400 : Int) < (f.title.size : Int) then (400 : Int) else (f.title.size : Int)))), .string f.author, .slice m9_p m9_l m9_c, .slice none 0 0, .int .i64 f.lab.unt, .slice m12_p m12_l m12_c, .int .i64 f.lab.appr, .int .i64 f.lab.den, .int .i64 f.editor, .int .i64 f.block, .int .i64 f.sentence, .string (f.text.extract 0 (Int.toNat (if (1200 : Int) < (f.text.size : Int) then (1200 : Int) else (f.text.size : Int)))), .string f.name, .int .i64 f.partner, .int .i64 f.cls, .int .i64 f.unt]
abbrev few5A3 (f : Fct) (m9_p : Option Addr) (m9_l : Nat) (m9_c : Nat) (m10_p : Option Addr) (m10_l : Nat) (m10_c : Nat) (m12_p : Option Addr) (m12_l : Nat) (m12_c : Nat) : Array Value := #[.int .i64 f.n, .int .i64 f.time, .int .i64 f.kind, .int .i64 f.story, .string f.lang, .int .i64 f.rev, .int .i64 f.base, .string f.title, .string f.author, .slice m9_p m9_l m9_c, .slice m10_p m10_l m10_c, .int .i64 f.lab.unt, .slice m12_p m12_l m12_c, .int .i64 f.lab.appr, .int .i64 f.lab.den, .int .i64 f.editor, .int .i64 f.block, .int .i64 f.sentence, .string f.text, .string f.name, .int .i64 f.partner, .int .i64 f.cls, .int .i64 f.unt]
abbrev few5A4 (f : Fct) (m91_p : Option Addr) (m91_l : Nat) (m91_c : Nat) (m101_p : Option Addr) (m101_l : Nat) (m101_c : Nat) (m121_p : Option Addr) (m121_l : Nat) (m121_c : Nat) : Array Value := #[.int .i64 f.n, .int .i64 f.time, .int .i64 f.kind, .int .i64 f.story, .string f.lang, .int .i64 f.rev, .int .i64 f.base, .string f.title, .string f.author, .slice m91_p m91_l m91_c, .slice m101_p m101_l m101_c, .int .i64 f.lab.unt, .slice m121_p m121_l m121_c, .int .i64 f.lab.appr, .int .i64 f.lab.den, .int .i64 f.editor, .int .i64 f.block, .int .i64 f.sentence, .string f.text, .string f.name, .int .i64 f.partner, .int .i64 f.cls, .int .i64 f.unt]
abbrev few5A5 : Array Value := #[.int .i64 (0 : Int), .int .i64 (0 : Int), .string (⟨#[]⟩), .int .i64 (0 : Int), .int .i64 (0 : Int), .int .i64 (0 : Int), .slice none 0 0, .int .i64 (0 : Int), .int .i64 (0 : Int)]
abbrev few5A6 (f : Fct) (ftp : Option Addr) (ftc : Nat) (fbp : Option Addr) (fbc : Nat) (fap : Option Addr) (fac : Nat) : Array Value := #[.int .i64 f.n, .int .i64 f.time, .int .i64 f.kind, .int .i64 f.story, .string f.lang, .int .i64 f.rev, .int .i64 f.base, .string f.title, .string f.author, .slice ftp f.topics.length ftc, .slice fbp f.blocks.length fbc, .int .i64 f.lab.unt, .slice fap f.lab.after.length fac, .int .i64 f.lab.appr, .int .i64 f.lab.den, .int .i64 f.editor, .int .i64 f.block, .int .i64 f.sentence, .string f.text, .string f.name, .int .i64 f.partner, .int .i64 f.cls, .int .i64 f.unt]
abbrev few5A7 (m21 : Blk) (m21p : Option Addr) (m21c : Nat) : Array Value := #[.int .i64 m21.id, .int .i64 m21.kind, .string (m21.text.extract 0 (Int.toNat (if (400 : Int) < (m21.text.size : Int) then (400 : Int) else (m21.text.size : Int)))), .int .i64 m21.story, .int .i64 m21.ref, .int .i64 m21.lab.unt, .slice m21p (Int.toNat (if (70 : Int) < (m21.lab.after.length : Int) then (70 : Int) else (m21.lab.after.length : Int))) m21c, .int .i64 m21.lab.appr, .int .i64 m21.lab.den]
abbrev few5A8 (m1 : Blk) (m1p : Option Addr) (m1c : Nat) : Array Value := #[.int .i64 m1.id, .int .i64 m1.kind, .string (m1.text.extract 0 (Int.toNat (if (400 : Int) < (m1.text.size : Int) then (400 : Int) else (m1.text.size : Int)))), .int .i64 m1.story, .int .i64 m1.ref, .int .i64 m1.lab.unt, .slice m1p (Int.toNat (if (70 : Int) < (m1.lab.after.length : Int) then (70 : Int) else (m1.lab.after.length : Int))) m1c, .int .i64 m1.lab.appr, .int .i64 m1.lab.den]
abbrev few5A9 (m21 : Blk) (m21p : Option Addr) (m21c : Nat) : Array Value := #[.int .i64 m21.id, .int .i64 m21.kind, .string m21.text, .int .i64 m21.story, .int .i64 m21.ref, .int .i64 m21.lab.unt, .slice m21p m21.lab.after.length m21c, .int .i64 m21.lab.appr, .int .i64 m21.lab.den]
abbrev few5A10 (m1 : Blk) (m1p : Option Addr) (m1c : Nat) : Array Value := #[.int .i64 m1.id, .int .i64 m1.kind, .string m1.text, .int .i64 m1.story, .int .i64 m1.ref, .int .i64 m1.lab.unt, .slice m1p m1.lab.after.length m1c, .int .i64 m1.lab.appr, .int .i64 m1.lab.den]
def few5_c0 (f : Fct) (ftp : Option Addr) (ftc : Nat) (fbp : Option Addr) (fbc : Nat) (fap : Option Addr) (fac : Nat) (B2 : Nat) (B3 : Nat) (i : Int) (m9_p : Option Addr) (m9_l : Nat) (m9_c : Nat) (m10_p : Option Addr) (m10_l : Nat) (m10_c : Nat) (m12_p : Option Addr) (m12_l : Nat) (m12_c : Nat) (w0 : World) (R : Ending → World → Prop) : Prop :=
 AtE Tryz.prog 18 87 [.code (sub (Eng.body Tryz.f18) [1,1,1,1,1,0,1,0,0]), .inLoop (sub (Eng.body Tryz.f18) [1,1,1,1,1,0,1,0,0]), .inBlock 0, .code (sub (Eng.body Tryz.f18) [1,1,1,1,1,1])] [(1, .pointer (some ⟨B2, 0, none⟩)), (2, .pointer (some ⟨B3, 0, none⟩)), (3, .slice none 0 0), (4, .int .i64 i)] [(B2, .cells (few5A3 f m9_p m9_l m9_c m10_p m10_l m10_c m12_p m12_l m12_c) 28), (B3, .cells few5A0 28)] [] w0 (nrm R)
def few5_c1 (f : Fct) (ftp : Option Addr) (ftc : Nat) (fbp : Option Addr) (fbc : Nat) (fap : Option Addr) (fac : Nat) (B7 : Nat) (B8 : Nat) (B9 : Nat) (l_l : Nat) (l_c : Nat) (i2 : Int) (m91_p : Option Addr) (m91_l : Nat) (m91_c : Nat) (m101_p : Option Addr) (m101_l : Nat) (m101_c : Nat) (m121_p : Option Addr) (m121_l : Nat) (m121_c : Nat) (cs : List Value) (w0 : World) (R : Ending → World → Prop) : Prop :=
 AtE Tryz.prog 18 87 [.code (sub (Eng.body Tryz.f18) [1,1,1,1,1,0,1,0,0]), .inLoop (sub (Eng.body Tryz.f18) [1,1,1,1,1,0,1,0,0]), .inBlock 0, .code (sub (Eng.body Tryz.f18) [1,1,1,1,1,1])] [(1, .pointer (some ⟨B7, 0, none⟩)), (2, .pointer (some ⟨B8, 0, none⟩)), (3, .slice (some ⟨B9, 0, none⟩) l_l l_c), (4, .int .i64 i2)] [(B7, .cells (few5A4 f m91_p m91_l m91_c m101_p m101_l m101_c m121_p m121_l m121_c) 28), (B8, .cells few5A0 28), (B9, .cells ⟨cs⟩ 89)] [] w0 (nrm R)
theorem few5_c0_vc (f : Fct) (ftp : Option Addr) (ftc : Nat) (fbp : Option Addr) (fbc : Nat) (fap : Option Addr) (fac : Nat) (B2 : Nat) (B3 : Nat) (i : Int) (m9_p : Option Addr) (m9_l : Nat) (m9_c : Nat) (m10_p : Option Addr) (m10_l : Nat) (m10_c : Nat) (m12_p : Option Addr) (m12_l : Nat) (m12_c : Nat) {R : Ending → World → Prop} {w0 : World}
  (H :
   ((i < (m10_l : Int)) →
    ∃ m10_pb m10_po : Nat, m10_p = some ⟨m10_pb, m10_po, none⟩ ∧ (0 ≤ i ∧ i < m10_l) ∧
    ∃ (cw : List Value) (m1 : Blk) (m1p : Option Addr) (m1c : Nat), blkW w0 m10_pb = some cw ∧ ((cw.drop (m10_po + ((Int.toNat i) * 9))).take 9 = [.int .i64 m1.id, .int .i64 m1.kind, .string m1.text, .int .i64 m1.story, .int .i64 m1.ref, .int .i64 m1.lab.unt, .slice m1p m1.lab.after.length m1c, .int .i64 m1.lab.appr, .int .i64 m1.lab.den] ∧ (m10_po + ((Int.toNat i) * 9)) + 9 ≤ cw.length) ∧
    ∀ B4 : Nat,
    (0 ≤ (0 : Int) ∧ (0 : Int) ≤ (if (400 : Int) < (m1.text.size : Int) then (400 : Int) else (m1.text.size : Int)) ∧ (if (400 : Int) < (m1.text.size : Int) then (400 : Int) else (m1.text.size : Int)) ≤ m1.text.size) ∧
    (0 ≤ (if (70 : Int) < (m1.lab.after.length : Int) then (70 : Int) else (m1.lab.after.length : Int)) ∧ (if (70 : Int) < (m1.lab.after.length : Int) then (70 : Int) else (m1.lab.after.length : Int)) ≤ (m1c : Int)) ∧
    ∀ B5 : Nat,
    ∀ (B6 cap : Nat) (r : List Value), 1 ≤ cap → (([.int .i64 m1.id, .int .i64 m1.kind, .string (m1.text.extract 0 (Int.toNat (if (400 : Int) < (m1.text.size : Int) then (400 : Int) else (m1.text.size : Int)))), .int .i64 m1.story, .int .i64 m1.ref, .int .i64 m1.lab.unt, .slice m1p (Int.toNat (if (70 : Int) < (m1.lab.after.length : Int) then (70 : Int) else (m1.lab.after.length : Int))) m1c, .int .i64 m1.lab.appr, .int .i64 m1.lab.den] : List Value) ++ r).length = cap * 9 →
    ∀ i1 : Int, i1 = (IntKind.i64.wrap (i + (1 : Int))) →
    few5_c1 f ftp ftc fbp fbc fap fac B2 B3 B6 1 cap i1 m9_p m9_l m9_c m10_p m10_l m10_c m12_p m12_l m12_c (([.int .i64 m1.id, .int .i64 m1.kind, .string (m1.text.extract 0 (Int.toNat (if (400 : Int) < (m1.text.size : Int) then (400 : Int) else (m1.text.size : Int)))), .int .i64 m1.story, .int .i64 m1.ref, .int .i64 m1.lab.unt, .slice m1p (Int.toNat (if (70 : Int) < (m1.lab.after.length : Int) then (70 : Int) else (m1.lab.after.length : Int))) m1c, .int .i64 m1.lab.appr, .int .i64 m1.lab.den] : List Value) ++ r) w0 R) ∧
    ((¬ (i < (m10_l : Int))) →
    (0 ≤ (0 : Int) ∧ (0 : Int) ≤ (if (400 : Int) < (f.title.size : Int) then (400 : Int) else (f.title.size : Int)) ∧ (if (400 : Int) < (f.title.size : Int) then (400 : Int) else (f.title.size : Int)) ≤ f.title.size) ∧
    (0 ≤ (0 : Int) ∧ (0 : Int) ≤ (if (1200 : Int) < (f.text.size : Int) then (1200 : Int) else (f.text.size : Int)) ∧ (if (1200 : Int) < (f.text.size : Int) then (1200 : Int) else (f.text.size : Int)) ≤ f.text.size) ∧
    Fin R [(B2, .cells (few5A2 f m9_p m9_l m9_c m12_p m12_l m12_c) 28), (B3, .cells (few5A2 f m9_p m9_l m9_c m12_p m12_l m12_c) 28)] [] w0 (.agg (few5A2 f m9_p m9_l m9_c m12_p m12_l m12_c)))) :
  few5_c0 f ftp ftc fbp fbc fap fac B2 B3 i m9_p m9_l m9_c m10_p m10_l m10_c m12_p m12_l m12_c w0 R := by
 unfold few5_c0
 refine AtE.ru 5 ?_
 refine AtE.load 0 10 (T := 23) (v := .slice m10_p m10_l m10_c) (by kernel_rfl) ?_
 refine AtE.ru 3 ?_
 refine AtE.splitP 37 (p := i < (m10_l : Int)) (by kernel_rfl) (fun h1' => ?_) (fun h1' => ?_)
 ·replace H := H.1 h1'
  refine AtE.ru 7 ?_
  refine AtE.load 0 10 (T := 23) (v := .slice m10_p m10_l m10_c) (by kernel_rfl) ?_
  refine AtE.ru 1 ?_
  obtain ⟨m10_pb, m10_po, hp, H⟩ := H
  refine AtE.indexAddrP (E := 89) (p := m10_p) (b := m10_pb) (o := m10_po) (len := m10_l) (cap := m10_c) (sz := 9) (o' := (m10_po + ((Int.toNat i) * 9))) (kd := .i64) (i := i) hp (by kernel_rfl) H.1 (by omega) ?_
  replace H := H.2
  obtain ⟨cw, m1, m1p, m1c, hw, hx, H⟩ := H
  refine AtE.loadW (b := m10_pb) (off := (m10_po + ((Int.toNat i) * 9))) (T := 89) (v := .agg (few5A10 m1 m1p m1c)) (by kernel_rfl) List.not_mem_nil hw (valAt_agg hx.1 hx.2 (by kernel_rfl) (by kernel_rfl)) ?_
  refine AtE.new (fun B => .pointer (some ⟨B, 0, none⟩)) (.cells few5A5 89) (fun W => by kernel_rfl) (by kernel_rfl) (fun B4 => ?_)
  replace H := H B4
  refine AtE.store 2 0 (T := 89) (v := .agg (few5A10 m1 m1p m1c)) (by kernel_rfl) ?_
  refine AtE.norm (k' := [.inRegion (regOps [.code (sub (Eng.body Tryz.f18) [1,1,1,1,1,0,1,0,0,1,0,0,0])]) [], .code (sub (Eng.body Tryz.f18) [1,1,1,1,1,0,1,0,0,1,0,0,1]), .inBlock 1, .code (sub (Eng.body Tryz.f18) [1,1,1,1,1,0,1,0,0,1,1]), .inLoop (sub (Eng.body Tryz.f18) [1,1,1,1,1,0,1,0,0]), .inBlock 0, .code (sub (Eng.body Tryz.f18) [1,1,1,1,1,1])]) (e' := [(1, .pointer (some ⟨B2, 0, none⟩)), (2, .pointer (some ⟨B3, 0, none⟩)), (3, .slice none 0 0), (4, .int .i64 i), (5, .pointer (some ⟨B4, 0, none⟩))]) (L' := [(B2, .cells (few5A3 f m9_p m9_l m9_c m10_p m10_l m10_c m12_p m12_l m12_c) 28), (B3, .cells few5A0 28), (B4, .cells (few5A10 m1 m1p m1c) 89)]) ?_ (by kernel_rfl)
  refine AtE.ru 4 ?_
  refine AtE.load 2 2 (T := 9) (v := .string m1.text) (by kernel_rfl) ?_
  refine AtE.ru 1 ?_
  refine AtE.load 2 2 (T := 9) (v := .string m1.text) (by kernel_rfl) ?_
  refine AtE.ru 2 ?_
  refine AtE.sliceS (s := m1.text) (lo := none) (hi := some (.int .i64 (if (400 : Int) < (m1.text.size : Int) then (400 : Int) else (m1.text.size : Int)))) (a := (0 : Int)) (b := (if (400 : Int) < (m1.text.size : Int) then (400 : Int) else (m1.text.size : Int))) (by kernel_rfl) (.inr ⟨rfl, rfl⟩) (.inl ⟨.i64, rfl⟩) H.1 ?_
  replace H := H.2
  refine AtE.ru 1 ?_
  refine AtE.store 2 2 (T := 9) (v := .string (m1.text.extract 0 (Int.toNat (if (400 : Int) < (m1.text.size : Int) then (400 : Int) else (m1.text.size : Int))))) (by kernel_rfl) ?_
  refine AtE.ru 5 ?_
  refine AtE.load 2 6 (T := 24) (v := .slice m1p m1.lab.after.length m1c) (by kernel_rfl) ?_
  refine AtE.ru 2 ?_
  refine AtE.load 2 6 (T := 24) (v := .slice m1p m1.lab.after.length m1c) (by kernel_rfl) ?_
  refine AtE.ru 2 ?_
  refine AtE.sliceU (E := 3) (p := m1p) (len := m1.lab.after.length) (cap := m1c) (sz := 1) (lo := none) (hi := some (.int .i64 (if (70 : Int) < (m1.lab.after.length : Int) then (70 : Int) else (m1.lab.after.length : Int)))) (y := (if (70 : Int) < (m1.lab.after.length : Int) then (70 : Int) else (m1.lab.after.length : Int))) (by kernel_rfl) (.inr rfl) (.inl ⟨.i64, rfl⟩) H.1 ?_
  replace H := H.2
  refine AtE.norm (k' := [.inRegion (regOps [.code (sub (Eng.body Tryz.f18) [1,1,1,1,1,0,1,0,0,1,0,0,1,1,0])]) [9,10,11], .code (sub (Eng.body Tryz.f18) [1,1,1,1,1,0,1,0,0,1,0,0,1,1,1]), .inBlock 1, .code (sub (Eng.body Tryz.f18) [1,1,1,1,1,0,1,0,0,1,1]), .inLoop (sub (Eng.body Tryz.f18) [1,1,1,1,1,0,1,0,0]), .inBlock 0, .code (sub (Eng.body Tryz.f18) [1,1,1,1,1,1])]) (e' := [(1, .pointer (some ⟨B2, 0, none⟩)), (2, .pointer (some ⟨B3, 0, none⟩)), (3, .slice none 0 0), (4, .int .i64 i), (5, .pointer (some ⟨B4, 0, none⟩)), (61, .slice m1p (Int.toNat (if (70 : Int) < (m1.lab.after.length : Int) then (70 : Int) else (m1.lab.after.length : Int))) m1c)]) (L' := [(B2, .cells (few5A3 f m9_p m9_l m9_c m10_p m10_l m10_c m12_p m12_l m12_c) 28), (B3, .cells few5A0 28), (B4, .cells #[.int .i64 m1.id, .int .i64 m1.kind, .string (m1.text.extract 0 (Int.toNat (if (400 : Int) < (m1.text.size : Int) then (400 : Int) else (m1.text.size : Int)))), .int .i64 m1.story, .int .i64 m1.ref, .int .i64 m1.lab.unt, .slice m1p m1.lab.after.length m1c, .int .i64 m1.lab.appr, .int .i64 m1.lab.den] 89)]) ?_ (by kernel_rfl)
  refine AtE.ru 2 ?_
  refine AtE.store 2 6 (T := 24) (v := .slice m1p (Int.toNat (if (70 : Int) < (m1.lab.after.length : Int) then (70 : Int) else (m1.lab.after.length : Int))) m1c) (by kernel_rfl) ?_
  refine AtE.ru 3 ?_
  refine AtE.load 2 0 (T := 89) (v := .agg (few5A8 m1 m1p m1c)) (by kernel_rfl) ?_
  refine AtE.new (fun B => .slice (some ⟨B, 0, none⟩) 1 1) (.cells (few5A8 m1 m1p m1c) 89) (fun W => by kernel_rfl) (by kernel_rfl) (fun B5 => ?_)
  replace H := H B5
  refine AtE.appendN (T := 23) (E := 89) (z := .agg few5A5) (sz := 9) (bytes := 96) (a := ⟨B5, 0, none⟩) (m := 1) (c := 1) ([.int .i64 m1.id, .int .i64 m1.kind, .string (m1.text.extract 0 (Int.toNat (if (400 : Int) < (m1.text.size : Int) then (400 : Int) else (m1.text.size : Int)))), .int .i64 m1.story, .int .i64 m1.ref, .int .i64 m1.lab.unt, .slice m1p (Int.toNat (if (70 : Int) < (m1.lab.after.length : Int) then (70 : Int) else (m1.lab.after.length : Int))) m1c, .int .i64 m1.lab.appr, .int .i64 m1.lab.den] : List Value) (by kernel_rfl) (show Src _ _ _ _ ([.int .i64 m1.id, .int .i64 m1.kind, .string (m1.text.extract 0 (Int.toNat (if (400 : Int) < (m1.text.size : Int) then (400 : Int) else (m1.text.size : Int)))), .int .i64 m1.story, .int .i64 m1.ref, .int .i64 m1.lab.unt, .slice m1p (Int.toNat (if (70 : Int) < (m1.lab.after.length : Int) then (70 : Int) else (m1.lab.after.length : Int))) m1c, .int .i64 m1.lab.appr, .int .i64 m1.lab.den] : List Value) from Src.own (j := 3) (o := 0) (n := 9) (c := ([.int .i64 m1.id, .int .i64 m1.kind, .string (m1.text.extract 0 (Int.toNat (if (400 : Int) < (m1.text.size : Int) then (400 : Int) else (m1.text.size : Int)))), .int .i64 m1.story, .int .i64 m1.ref, .int .i64 m1.lab.unt, .slice m1p (Int.toNat (if (70 : Int) < (m1.lab.after.length : Int) then (70 : Int) else (m1.lab.after.length : Int))) m1c, .int .i64 m1.lab.appr, .int .i64 m1.lab.den] : List Value)) (by kernel_rfl)) (by simp) (by omega) (by omega) (fun B6 cap r h1 h2 => ?_)
  replace H := H B6 cap r h1 h2
  refine AtE.ru 7 ?_
  refine AtE.letI 4 (kd := .i64) (n := (IntKind.i64.wrap (i + (1 : Int)))) (by kernel_rfl) (fun i1 hi1 => ?_)
  replace H := H i1 hi1
  refine AtE.ru 2 ?_
  exact AtE.cut [0,1,4] H (by kernel_rfl)
 ·replace H := H.2 h1'
  refine AtE.ru 6 ?_
  refine AtE.store 0 10 (T := 23) (v := .slice none 0 0) (by kernel_rfl) ?_
  refine AtE.ru 4 ?_
  refine AtE.load 0 7 (T := 9) (v := .string f.title) (by kernel_rfl) ?_
  refine AtE.ru 1 ?_
  refine AtE.load 0 7 (T := 9) (v := .string f.title) (by kernel_rfl) ?_
  refine AtE.ru 2 ?_
  refine AtE.sliceS (s := f.title) (lo := none) (hi := some (.int .i64 (if (400 : Int) < (f.title.size : Int) then (400 : Int) else (f.title.size : Int)))) (a := (0 : Int)) (b := (if (400 : Int) < (f.title.size : Int) then (400 : Int) else (f.title.size : Int))) (by kernel_rfl) (.inr ⟨rfl, rfl⟩) (.inl ⟨.i64, rfl⟩) H.1 ?_
  replace H := H.2
  refine AtE.ru 1 ?_
  refine AtE.store 0 7 (T := 9) (v := .string (f.title.extract 0 (Int.toNat (if (400 : Int) < (f.title.size : Int) then (400 : Int) else (f.title.size : Int))))) (by kernel_rfl) ?_
  refine AtE.norm (k' := [.inRegion (regOps [.code (sub (Eng.body Tryz.f18) [1,1,1,1,1,1,1,0])]) [], .code (sub (Eng.body Tryz.f18) [1,1,1,1,1,1,1,1])]) (e' := [(1, .pointer (some ⟨B2, 0, none⟩)), (2, .pointer (some ⟨B3, 0, none⟩))]) (L' := [(B2, .cells #[.int .i64 f.n, .int .i64 f.time, .int .i64 f.kind, .int .i64 f.story, .string f.lang, .int .i64 f.rev, .int .i64 f.base, .string (f.title.extract 0 (Int.toNat (if (400 : Int) < (f.title.size : Int) then (400 : Int) else (f.title.size : Int)))), .string f.author, .slice m9_p m9_l m9_c, .slice none 0 0, .int .i64 f.lab.unt, .slice m12_p m12_l m12_c, .int .i64 f.lab.appr, .int .i64 f.lab.den, .int .i64 f.editor, .int .i64 f.block, .int .i64 f.sentence, .string f.text, .string f.name, .int .i64 f.partner, .int .i64 f.cls, .int .i64 f.unt] 28), (B3, .cells few5A0 28)]) ?_ (by kernel_rfl)
  refine AtE.ru 4 ?_
  refine AtE.load 0 18 (T := 9) (v := .string f.text) (by kernel_rfl) ?_
  refine AtE.ru 1 ?_
  refine AtE.load 0 18 (T := 9) (v := .string f.text) (by kernel_rfl) ?_
  refine AtE.ru 2 ?_
  refine AtE.sliceS (s := f.text) (lo := none) (hi := some (.int .i64 (if (1200 : Int) < (f.text.size : Int) then (1200 : Int) else (f.text.size : Int)))) (a := (0 : Int)) (b := (if (1200 : Int) < (f.text.size : Int) then (1200 : Int) else (f.text.size : Int))) (by kernel_rfl) (.inr ⟨rfl, rfl⟩) (.inl ⟨.i64, rfl⟩) H.1 ?_
  replace H := H.2
  refine AtE.ru 1 ?_
  refine AtE.store 0 18 (T := 9) (v := .string (f.text.extract 0 (Int.toNat (if (1200 : Int) < (f.text.size : Int) then (1200 : Int) else (f.text.size : Int))))) (by kernel_rfl) ?_
  refine AtE.ru 3 ?_
  refine AtE.load 0 0 (T := 28) (v := .agg (few5A2 f m9_p m9_l m9_c m12_p m12_l m12_c)) (by kernel_rfl) ?_
  refine AtE.store 1 0 (T := 28) (v := .agg (few5A2 f m9_p m9_l m9_c m12_p m12_l m12_c)) (by kernel_rfl) ?_
  refine AtE.ru 1 ?_
  exact AtE.retC 1 0 (a := 2) (T := 28) (v := .agg (few5A2 f m9_p m9_l m9_c m12_p m12_l m12_c)) Tryz.func18 (by kernel_rfl) (by kernel_rfl) H
theorem few5_c1_vc (f : Fct) (ftp : Option Addr) (ftc : Nat) (fbp : Option Addr) (fbc : Nat) (fap : Option Addr) (fac : Nat) (B7 : Nat) (B8 : Nat) (B9 : Nat) (l_l : Nat) (l_c : Nat) (i2 : Int) (m91_p : Option Addr) (m91_l : Nat) (m91_c : Nat) (m101_p : Option Addr) (m101_l : Nat) (m101_c : Nat) (m121_p : Option Addr) (m121_l : Nat) (m121_c : Nat) (cs : List Value) {R : Ending → World → Prop} {w0 : World}
  (H :
   ((i2 < (m101_l : Int)) →
    ∃ m101_pb m101_po : Nat, m101_p = some ⟨m101_pb, m101_po, none⟩ ∧ (0 ≤ i2 ∧ i2 < m101_l) ∧
    ∃ (cw1 : List Value) (m21 : Blk) (m21p : Option Addr) (m21c : Nat), blkW w0 m101_pb = some cw1 ∧ ((cw1.drop (m101_po + ((Int.toNat i2) * 9))).take 9 = [.int .i64 m21.id, .int .i64 m21.kind, .string m21.text, .int .i64 m21.story, .int .i64 m21.ref, .int .i64 m21.lab.unt, .slice m21p m21.lab.after.length m21c, .int .i64 m21.lab.appr, .int .i64 m21.lab.den] ∧ (m101_po + ((Int.toNat i2) * 9)) + 9 ≤ cw1.length) ∧
    ∀ B10 : Nat,
    (0 ≤ (0 : Int) ∧ (0 : Int) ≤ (if (400 : Int) < (m21.text.size : Int) then (400 : Int) else (m21.text.size : Int)) ∧ (if (400 : Int) < (m21.text.size : Int) then (400 : Int) else (m21.text.size : Int)) ≤ m21.text.size) ∧
    (0 ≤ (if (70 : Int) < (m21.lab.after.length : Int) then (70 : Int) else (m21.lab.after.length : Int)) ∧ (if (70 : Int) < (m21.lab.after.length : Int) then (70 : Int) else (m21.lab.after.length : Int)) ≤ (m21c : Int)) ∧
    ∀ B11 : Nat,
    (l_l ≤ l_c ∧ (cs).length = l_c * 9) ∧ ((l_l + 1) ≤ 9223372036854775807 ∧ (l_l + 1) * 96 ≤ 140737488355328) ∧
    ∀ (B12 cap1 : Nat) (r1 : List Value), (l_l + 1) ≤ cap1 → ((cs).take (l_l * 9) ++ ([.int .i64 m21.id, .int .i64 m21.kind, .string (m21.text.extract 0 (Int.toNat (if (400 : Int) < (m21.text.size : Int) then (400 : Int) else (m21.text.size : Int)))), .int .i64 m21.story, .int .i64 m21.ref, .int .i64 m21.lab.unt, .slice m21p (Int.toNat (if (70 : Int) < (m21.lab.after.length : Int) then (70 : Int) else (m21.lab.after.length : Int))) m21c, .int .i64 m21.lab.appr, .int .i64 m21.lab.den] : List Value) ++ r1).length = cap1 * 9 →
    ∀ i3 : Int, i3 = (IntKind.i64.wrap (i2 + (1 : Int))) →
    few5_c1 f ftp ftc fbp fbc fap fac B7 B8 B12 (l_l + 1) cap1 i3 m91_p m91_l m91_c m101_p m101_l m101_c m121_p m121_l m121_c ((cs).take (l_l * 9) ++ ([.int .i64 m21.id, .int .i64 m21.kind, .string (m21.text.extract 0 (Int.toNat (if (400 : Int) < (m21.text.size : Int) then (400 : Int) else (m21.text.size : Int)))), .int .i64 m21.story, .int .i64 m21.ref, .int .i64 m21.lab.unt, .slice m21p (Int.toNat (if (70 : Int) < (m21.lab.after.length : Int) then (70 : Int) else (m21.lab.after.length : Int))) m21c, .int .i64 m21.lab.appr, .int .i64 m21.lab.den] : List Value) ++ r1) w0 R) ∧
    ((¬ (i2 < (m101_l : Int))) →
    (0 ≤ (0 : Int) ∧ (0 : Int) ≤ (if (400 : Int) < (f.title.size : Int) then (400 : Int) else (f.title.size : Int)) ∧ (if (400 : Int) < (f.title.size : Int) then (400 : Int) else (f.title.size : Int)) ≤ f.title.size) ∧
    (0 ≤ (0 : Int) ∧ (0 : Int) ≤ (if (1200 : Int) < (f.text.size : Int) then (1200 : Int) else (f.text.size : Int)) ∧ (if (1200 : Int) < (f.text.size : Int) then (1200 : Int) else (f.text.size : Int)) ≤ f.text.size) ∧
    Fin R [(B7, .cells (few5A1 f m91_p m91_l m91_c B9 l_l l_c m121_p m121_l m121_c) 28), (B8, .cells (few5A1 f m91_p m91_l m91_c B9 l_l l_c m121_p m121_l m121_c) 28), (B9, .cells ⟨cs⟩ 89)] [] w0 (.agg (few5A1 f m91_p m91_l m91_c B9 l_l l_c m121_p m121_l m121_c)))) :
  few5_c1 f ftp ftc fbp fbc fap fac B7 B8 B9 l_l l_c i2 m91_p m91_l m91_c m101_p m101_l m101_c m121_p m121_l m121_c cs w0 R := by
 unfold few5_c1
 refine AtE.ru 5 ?_
 refine AtE.load 0 10 (T := 23) (v := .slice m101_p m101_l m101_c) (by kernel_rfl) ?_
 refine AtE.ru 3 ?_
 refine AtE.splitP 37 (p := i2 < (m101_l : Int)) (by kernel_rfl) (fun h2' => ?_) (fun h2' => ?_)
 ·replace H := H.1 h2'
  refine AtE.ru 7 ?_
  refine AtE.load 0 10 (T := 23) (v := .slice m101_p m101_l m101_c) (by kernel_rfl) ?_
  refine AtE.ru 1 ?_
  obtain ⟨m101_pb, m101_po, hp, H⟩ := H
  refine AtE.indexAddrP (E := 89) (p := m101_p) (b := m101_pb) (o := m101_po) (len := m101_l) (cap := m101_c) (sz := 9) (o' := (m101_po + ((Int.toNat i2) * 9))) (kd := .i64) (i := i2) hp (by kernel_rfl) H.1 (by omega) ?_
  replace H := H.2
  obtain ⟨cw1, m21, m21p, m21c, hw, hx, H⟩ := H
  refine AtE.loadW (b := m101_pb) (off := (m101_po + ((Int.toNat i2) * 9))) (T := 89) (v := .agg (few5A9 m21 m21p m21c)) (by kernel_rfl) List.not_mem_nil hw (valAt_agg hx.1 hx.2 (by kernel_rfl) (by kernel_rfl)) ?_
  refine AtE.new (fun B => .pointer (some ⟨B, 0, none⟩)) (.cells few5A5 89) (fun W => by kernel_rfl) (by kernel_rfl) (fun B10 => ?_)
  replace H := H B10
  refine AtE.store 3 0 (T := 89) (v := .agg (few5A9 m21 m21p m21c)) (by kernel_rfl) ?_
  refine AtE.norm (k' := [.inRegion (regOps [.code (sub (Eng.body Tryz.f18) [1,1,1,1,1,0,1,0,0,1,0,0,0])]) [], .code (sub (Eng.body Tryz.f18) [1,1,1,1,1,0,1,0,0,1,0,0,1]), .inBlock 1, .code (sub (Eng.body Tryz.f18) [1,1,1,1,1,0,1,0,0,1,1]), .inLoop (sub (Eng.body Tryz.f18) [1,1,1,1,1,0,1,0,0]), .inBlock 0, .code (sub (Eng.body Tryz.f18) [1,1,1,1,1,1])]) (e' := [(1, .pointer (some ⟨B7, 0, none⟩)), (2, .pointer (some ⟨B8, 0, none⟩)), (3, .slice (some ⟨B9, 0, none⟩) l_l l_c), (4, .int .i64 i2), (5, .pointer (some ⟨B10, 0, none⟩))]) (L' := [(B7, .cells (few5A4 f m91_p m91_l m91_c m101_p m101_l m101_c m121_p m121_l m121_c) 28), (B8, .cells few5A0 28), (B9, .cells ⟨cs⟩ 89), (B10, .cells (few5A9 m21 m21p m21c) 89)]) ?_ (by kernel_rfl)
  refine AtE.ru 4 ?_
  refine AtE.load 3 2 (T := 9) (v := .string m21.text) (by kernel_rfl) ?_
  refine AtE.ru 1 ?_
  refine AtE.load 3 2 (T := 9) (v := .string m21.text) (by kernel_rfl) ?_
  refine AtE.ru 2 ?_
  refine AtE.sliceS (s := m21.text) (lo := none) (hi := some (.int .i64 (if (400 : Int) < (m21.text.size : Int) then (400 : Int) else (m21.text.size : Int)))) (a := (0 : Int)) (b := (if (400 : Int) < (m21.text.size : Int) then (400 : Int) else (m21.text.size : Int))) (by kernel_rfl) (.inr ⟨rfl, rfl⟩) (.inl ⟨.i64, rfl⟩) H.1 ?_
  replace H := H.2
  refine AtE.ru 1 ?_
  refine AtE.store 3 2 (T := 9) (v := .string (m21.text.extract 0 (Int.toNat (if (400 : Int) < (m21.text.size : Int) then (400 : Int) else (m21.text.size : Int))))) (by kernel_rfl) ?_
  refine AtE.ru 5 ?_
  refine AtE.load 3 6 (T := 24) (v := .slice m21p m21.lab.after.length m21c) (by kernel_rfl) ?_
  refine AtE.ru 2 ?_
  refine AtE.load 3 6 (T := 24) (v := .slice m21p m21.lab.after.length m21c) (by kernel_rfl) ?_
  refine AtE.ru 2 ?_
  refine AtE.sliceU (E := 3) (p := m21p) (len := m21.lab.after.length) (cap := m21c) (sz := 1) (lo := none) (hi := some (.int .i64 (if (70 : Int) < (m21.lab.after.length : Int) then (70 : Int) else (m21.lab.after.length : Int)))) (y := (if (70 : Int) < (m21.lab.after.length : Int) then (70 : Int) else (m21.lab.after.length : Int))) (by kernel_rfl) (.inr rfl) (.inl ⟨.i64, rfl⟩) H.1 ?_
  replace H := H.2
  refine AtE.norm (k' := [.inRegion (regOps [.code (sub (Eng.body Tryz.f18) [1,1,1,1,1,0,1,0,0,1,0,0,1,1,0])]) [9,10,11], .code (sub (Eng.body Tryz.f18) [1,1,1,1,1,0,1,0,0,1,0,0,1,1,1]), .inBlock 1, .code (sub (Eng.body Tryz.f18) [1,1,1,1,1,0,1,0,0,1,1]), .inLoop (sub (Eng.body Tryz.f18) [1,1,1,1,1,0,1,0,0]), .inBlock 0, .code (sub (Eng.body Tryz.f18) [1,1,1,1,1,1])]) (e' := [(1, .pointer (some ⟨B7, 0, none⟩)), (2, .pointer (some ⟨B8, 0, none⟩)), (3, .slice (some ⟨B9, 0, none⟩) l_l l_c), (4, .int .i64 i2), (5, .pointer (some ⟨B10, 0, none⟩)), (61, .slice m21p (Int.toNat (if (70 : Int) < (m21.lab.after.length : Int) then (70 : Int) else (m21.lab.after.length : Int))) m21c)]) (L' := [(B7, .cells (few5A4 f m91_p m91_l m91_c m101_p m101_l m101_c m121_p m121_l m121_c) 28), (B8, .cells few5A0 28), (B9, .cells ⟨cs⟩ 89), (B10, .cells #[.int .i64 m21.id, .int .i64 m21.kind, .string (m21.text.extract 0 (Int.toNat (if (400 : Int) < (m21.text.size : Int) then (400 : Int) else (m21.text.size : Int)))), .int .i64 m21.story, .int .i64 m21.ref, .int .i64 m21.lab.unt, .slice m21p m21.lab.after.length m21c, .int .i64 m21.lab.appr, .int .i64 m21.lab.den] 89)]) ?_ (by kernel_rfl)
  refine AtE.ru 2 ?_
  refine AtE.store 3 6 (T := 24) (v := .slice m21p (Int.toNat (if (70 : Int) < (m21.lab.after.length : Int) then (70 : Int) else (m21.lab.after.length : Int))) m21c) (by kernel_rfl) ?_
  refine AtE.ru 3 ?_
  refine AtE.load 3 0 (T := 89) (v := .agg (few5A7 m21 m21p m21c)) (by kernel_rfl) ?_
  refine AtE.new (fun B => .slice (some ⟨B, 0, none⟩) 1 1) (.cells (few5A7 m21 m21p m21c) 89) (fun W => by kernel_rfl) (by kernel_rfl) (fun B11 => ?_)
  replace H := H B11
  refine AtE.appendO 2 (T := 23) (E := 89) (z := .agg few5A5) (sz := 9) (bytes := 96) (n := l_l) (cap := l_c) (a := ⟨B11, 0, none⟩) (m := 1) (c := 1) (cs := cs) ([.int .i64 m21.id, .int .i64 m21.kind, .string (m21.text.extract 0 (Int.toNat (if (400 : Int) < (m21.text.size : Int) then (400 : Int) else (m21.text.size : Int)))), .int .i64 m21.story, .int .i64 m21.ref, .int .i64 m21.lab.unt, .slice m21p (Int.toNat (if (70 : Int) < (m21.lab.after.length : Int) then (70 : Int) else (m21.lab.after.length : Int))) m21c, .int .i64 m21.lab.appr, .int .i64 m21.lab.den] : List Value) (by kernel_rfl) (show Src _ _ _ _ ([.int .i64 m21.id, .int .i64 m21.kind, .string (m21.text.extract 0 (Int.toNat (if (400 : Int) < (m21.text.size : Int) then (400 : Int) else (m21.text.size : Int)))), .int .i64 m21.story, .int .i64 m21.ref, .int .i64 m21.lab.unt, .slice m21p (Int.toNat (if (70 : Int) < (m21.lab.after.length : Int) then (70 : Int) else (m21.lab.after.length : Int))) m21c, .int .i64 m21.lab.appr, .int .i64 m21.lab.den] : List Value) from Src.own (j := 4) (o := 0) (n := 9) (c := ([.int .i64 m21.id, .int .i64 m21.kind, .string (m21.text.extract 0 (Int.toNat (if (400 : Int) < (m21.text.size : Int) then (400 : Int) else (m21.text.size : Int)))), .int .i64 m21.story, .int .i64 m21.ref, .int .i64 m21.lab.unt, .slice m21p (Int.toNat (if (70 : Int) < (m21.lab.after.length : Int) then (70 : Int) else (m21.lab.after.length : Int))) m21c, .int .i64 m21.lab.appr, .int .i64 m21.lab.den] : List Value)) (by kernel_rfl)) (by simp) (by simp [Value.oneCell']) H.1 H.2.1 (fun B12 cap1 r1 h1 h2 => ?_)
  replace H := H.2.2 B12 cap1 r1 h1 h2
  refine AtE.ru 7 ?_
  refine AtE.letI 4 (kd := .i64) (n := (IntKind.i64.wrap (i2 + (1 : Int)))) (by kernel_rfl) (fun i3 hi3 => ?_)
  replace H := H i3 hi3
  refine AtE.ru 2 ?_
  exact AtE.cut [0,1,4] H (by kernel_rfl)
 ·replace H := H.2 h2'
  refine AtE.ru 6 ?_
  refine AtE.store 0 10 (T := 23) (v := .slice (some ⟨B9, 0, none⟩) l_l l_c) (by kernel_rfl) ?_
  refine AtE.ru 4 ?_
  refine AtE.load 0 7 (T := 9) (v := .string f.title) (by kernel_rfl) ?_
  refine AtE.ru 1 ?_
  refine AtE.load 0 7 (T := 9) (v := .string f.title) (by kernel_rfl) ?_
  refine AtE.ru 2 ?_
  refine AtE.sliceS (s := f.title) (lo := none) (hi := some (.int .i64 (if (400 : Int) < (f.title.size : Int) then (400 : Int) else (f.title.size : Int)))) (a := (0 : Int)) (b := (if (400 : Int) < (f.title.size : Int) then (400 : Int) else (f.title.size : Int))) (by kernel_rfl) (.inr ⟨rfl, rfl⟩) (.inl ⟨.i64, rfl⟩) H.1 ?_
  replace H := H.2
  refine AtE.ru 1 ?_
  refine AtE.store 0 7 (T := 9) (v := .string (f.title.extract 0 (Int.toNat (if (400 : Int) < (f.title.size : Int) then (400 : Int) else (f.title.size : Int))))) (by kernel_rfl) ?_
  refine AtE.norm (k' := [.inRegion (regOps [.code (sub (Eng.body Tryz.f18) [1,1,1,1,1,1,1,0])]) [], .code (sub (Eng.body Tryz.f18) [1,1,1,1,1,1,1,1])]) (e' := [(1, .pointer (some ⟨B7, 0, none⟩)), (2, .pointer (some ⟨B8, 0, none⟩))]) (L' := [(B7, .cells #[.int .i64 f.n, .int .i64 f.time, .int .i64 f.kind, .int .i64 f.story, .string f.lang, .int .i64 f.rev, .int .i64 f.base, .string (f.title.extract 0 (Int.toNat (if (400 : Int) < (f.title.size : Int) then (400 : Int) else (f.title.size : Int)))), .string f.author, .slice m91_p m91_l m91_c, .slice (some ⟨B9, 0, none⟩) l_l l_c, .int .i64 f.lab.unt, .slice m121_p m121_l m121_c, .int .i64 f.lab.appr, .int .i64 f.lab.den, .int .i64 f.editor, .int .i64 f.block, .int .i64 f.sentence, .string f.text, .string f.name, .int .i64 f.partner, .int .i64 f.cls, .int .i64 f.unt] 28), (B8, .cells few5A0 28), (B9, .cells ⟨cs⟩ 89)]) ?_ (by kernel_rfl)
  refine AtE.ru 4 ?_
  refine AtE.load 0 18 (T := 9) (v := .string f.text) (by kernel_rfl) ?_
  refine AtE.ru 1 ?_
  refine AtE.load 0 18 (T := 9) (v := .string f.text) (by kernel_rfl) ?_
  refine AtE.ru 2 ?_
  refine AtE.sliceS (s := f.text) (lo := none) (hi := some (.int .i64 (if (1200 : Int) < (f.text.size : Int) then (1200 : Int) else (f.text.size : Int)))) (a := (0 : Int)) (b := (if (1200 : Int) < (f.text.size : Int) then (1200 : Int) else (f.text.size : Int))) (by kernel_rfl) (.inr ⟨rfl, rfl⟩) (.inl ⟨.i64, rfl⟩) H.1 ?_
  replace H := H.2
  refine AtE.ru 1 ?_
  refine AtE.store 0 18 (T := 9) (v := .string (f.text.extract 0 (Int.toNat (if (1200 : Int) < (f.text.size : Int) then (1200 : Int) else (f.text.size : Int))))) (by kernel_rfl) ?_
  refine AtE.ru 3 ?_
  refine AtE.load 0 0 (T := 28) (v := .agg (few5A1 f m91_p m91_l m91_c B9 l_l l_c m121_p m121_l m121_c)) (by kernel_rfl) ?_
  refine AtE.store 1 0 (T := 28) (v := .agg (few5A1 f m91_p m91_l m91_c B9 l_l l_c m121_p m121_l m121_c)) (by kernel_rfl) ?_
  refine AtE.ru 1 ?_
  exact AtE.retC 1 0 (a := 2) (T := 28) (v := .agg (few5A1 f m91_p m91_l m91_c B9 l_l l_c m121_p m121_l m121_c)) Tryz.func18 (by kernel_rfl) (by kernel_rfl) H
theorem few5_vc (f : Fct) (ftp : Option Addr) (ftc : Nat) (fbp : Option Addr) (fbc : Nat) (fap : Option Addr) (fac : Nat) {R : Ending → World → Prop} {w0 W : World} (hm : Mem [] [] w0 W)
  (H :
   ∀ B : Nat,
   ∀ B1 : Nat,
   (0 ≤ (if (6 : Int) < (f.topics.length : Int) then (6 : Int) else (f.topics.length : Int)) ∧ (if (6 : Int) < (f.topics.length : Int) then (6 : Int) else (f.topics.length : Int)) ≤ (ftc : Int)) ∧
   (0 ≤ (if (26 : Int) < (f.blocks.length : Int) then (26 : Int) else (f.blocks.length : Int)) ∧ (if (26 : Int) < (f.blocks.length : Int) then (26 : Int) else (f.blocks.length : Int)) ≤ (fbc : Int)) ∧
   (0 ≤ (if (70 : Int) < (f.lab.after.length : Int) then (70 : Int) else (f.lab.after.length : Int)) ∧ (if (70 : Int) < (f.lab.after.length : Int) then (70 : Int) else (f.lab.after.length : Int)) ≤ (fac : Int)) ∧
   few5_c0 f ftp ftc fbp fbc fap fac B B1 (0 : Int) ftp (Int.toNat (if (6 : Int) < (f.topics.length : Int) then (6 : Int) else (f.topics.length : Int))) ftc fbp (Int.toNat (if (26 : Int) < (f.blocks.length : Int) then (26 : Int) else (f.blocks.length : Int))) fbc fap (Int.toNat (if (70 : Int) < (f.lab.after.length : Int) then (70 : Int) else (f.lab.after.length : Int))) fac w0 R) :
  Calls Tryz.prog 18 ⟨[.agg (few5A6 f ftp ftc fbp fbc fap fac)]⟩ W R := by
 refine AtE.calls (nt := 87) Tryz.func18 (by kernel_rfl) hm ?_
 refine AtE.ru 2 ?_
 refine AtE.new (fun B => .pointer (some ⟨B, 0, none⟩)) (.cells (few5A6 f ftp ftc fbp fbc fap fac) 28) (fun W => by kernel_rfl) (by kernel_rfl) (fun B => ?_)
 replace H := H B
 refine AtE.new (fun B => .pointer (some ⟨B, 0, none⟩)) (.cells few5A0 28) (fun W => by kernel_rfl) (by kernel_rfl) (fun B1 => ?_)
 replace H := H B1
 refine AtE.ru 4 ?_
 refine AtE.load 0 9 (T := 22) (v := .slice ftp f.topics.length ftc) (by kernel_rfl) ?_
 refine AtE.ru 1 ?_
 refine AtE.load 0 9 (T := 22) (v := .slice ftp f.topics.length ftc) (by kernel_rfl) ?_
 refine AtE.ru 2 ?_
 refine AtE.sliceU (E := 9) (p := ftp) (len := f.topics.length) (cap := ftc) (sz := 1) (lo := none) (hi := some (.int .i64 (if (6 : Int) < (f.topics.length : Int) then (6 : Int) else (f.topics.length : Int)))) (y := (if (6 : Int) < (f.topics.length : Int) then (6 : Int) else (f.topics.length : Int))) (by kernel_rfl) (.inr rfl) (.inl ⟨.i64, rfl⟩) H.1 ?_
 replace H := H.2
 refine AtE.ru 1 ?_
 refine AtE.store 0 9 (T := 22) (v := .slice ftp (Int.toNat (if (6 : Int) < (f.topics.length : Int) then (6 : Int) else (f.topics.length : Int))) ftc) (by kernel_rfl) ?_
 refine AtE.ru 4 ?_
 refine AtE.load 0 10 (T := 23) (v := .slice fbp f.blocks.length fbc) (by kernel_rfl) ?_
 refine AtE.norm (k' := [.inRegion (regOps [.code (sub (Eng.body Tryz.f18) [1,1,0])]) [2,3,4,5,6,7,8], .code (sub (Eng.body Tryz.f18) [1,1,1])]) (e' := [(1, .pointer (some ⟨B, 0, none⟩)), (2, .pointer (some ⟨B1, 0, none⟩)), (15, .slice fbp f.blocks.length fbc)]) (L' := [(B, .cells #[.int .i64 f.n, .int .i64 f.time, .int .i64 f.kind, .int .i64 f.story, .string f.lang, .int .i64 f.rev, .int .i64 f.base, .string f.title, .string f.author, .slice ftp (Int.toNat (if (6 : Int) < (f.topics.length : Int) then (6 : Int) else (f.topics.length : Int))) ftc, .slice fbp f.blocks.length fbc, .int .i64 f.lab.unt, .slice fap f.lab.after.length fac, .int .i64 f.lab.appr, .int .i64 f.lab.den, .int .i64 f.editor, .int .i64 f.block, .int .i64 f.sentence, .string f.text, .string f.name, .int .i64 f.partner, .int .i64 f.cls, .int .i64 f.unt] 28), (B1, .cells few5A0 28)]) ?_ (by kernel_rfl)
 refine AtE.ru 1 ?_
 refine AtE.load 0 10 (T := 23) (v := .slice fbp f.blocks.length fbc) (by kernel_rfl) ?_
 refine AtE.ru 2 ?_
 refine AtE.sliceU (E := 89) (p := fbp) (len := f.blocks.length) (cap := fbc) (sz := 9) (lo := none) (hi := some (.int .i64 (if (26 : Int) < (f.blocks.length : Int) then (26 : Int) else (f.blocks.length : Int)))) (y := (if (26 : Int) < (f.blocks.length : Int) then (26 : Int) else (f.blocks.length : Int))) (by kernel_rfl) (.inr rfl) (.inl ⟨.i64, rfl⟩) H.1 ?_
 replace H := H.2
 refine AtE.ru 1 ?_
 refine AtE.store 0 10 (T := 23) (v := .slice fbp (Int.toNat (if (26 : Int) < (f.blocks.length : Int) then (26 : Int) else (f.blocks.length : Int))) fbc) (by kernel_rfl) ?_
 refine AtE.ru 5 ?_
 refine AtE.load 0 12 (T := 24) (v := .slice fap f.lab.after.length fac) (by kernel_rfl) ?_
 refine AtE.ru 2 ?_
 refine AtE.load 0 12 (T := 24) (v := .slice fap f.lab.after.length fac) (by kernel_rfl) ?_
 refine AtE.ru 2 ?_
 refine AtE.sliceU (E := 3) (p := fap) (len := f.lab.after.length) (cap := fac) (sz := 1) (lo := none) (hi := some (.int .i64 (if (70 : Int) < (f.lab.after.length : Int) then (70 : Int) else (f.lab.after.length : Int)))) (y := (if (70 : Int) < (f.lab.after.length : Int) then (70 : Int) else (f.lab.after.length : Int))) (by kernel_rfl) (.inr rfl) (.inl ⟨.i64, rfl⟩) H.1 ?_
 replace H := H.2
 refine AtE.ru 2 ?_
 refine AtE.store 0 12 (T := 24) (v := .slice fap (Int.toNat (if (70 : Int) < (f.lab.after.length : Int) then (70 : Int) else (f.lab.after.length : Int))) fac) (by kernel_rfl) ?_
 refine AtE.norm (k' := [.inRegion (regOps [.code (sub (Eng.body Tryz.f18) [1,1,1,0])]) [], .code (sub (Eng.body Tryz.f18) [1,1,1,1])]) (e' := [(1, .pointer (some ⟨B, 0, none⟩)), (2, .pointer (some ⟨B1, 0, none⟩))]) (L' := [(B, .cells #[.int .i64 f.n, .int .i64 f.time, .int .i64 f.kind, .int .i64 f.story, .string f.lang, .int .i64 f.rev, .int .i64 f.base, .string f.title, .string f.author, .slice ftp (Int.toNat (if (6 : Int) < (f.topics.length : Int) then (6 : Int) else (f.topics.length : Int))) ftc, .slice fbp (Int.toNat (if (26 : Int) < (f.blocks.length : Int) then (26 : Int) else (f.blocks.length : Int))) fbc, .int .i64 f.lab.unt, .slice fap (Int.toNat (if (70 : Int) < (f.lab.after.length : Int) then (70 : Int) else (f.lab.after.length : Int))) fac, .int .i64 f.lab.appr, .int .i64 f.lab.den, .int .i64 f.editor, .int .i64 f.block, .int .i64 f.sentence, .string f.text, .string f.name, .int .i64 f.partner, .int .i64 f.cls, .int .i64 f.unt] 28), (B1, .cells few5A0 28)]) ?_ (by kernel_rfl)
 refine AtE.ru 12 ?_
 exact AtE.cut [0,1] H (by kernel_rfl)
abbrev fRedactH0 (B6 : Nat) (f : Fct) (m92_p : Option Addr) (m92_l : Nat) (m92_c : Nat) (B7 : Nat) (m10_l : Nat) (m10_c : Nat) (fap : Option Addr) (fac : Nat) (cs : List Value) (B8 : Nat) (m93_p : Option Addr) (m93_l : Nat) (m93_c : Nat) (m121_p : Option Addr) (m121_l : Nat) (m121_c : Nat) (F2 : SHeap) : SHeap := ((B6, .cells #[.int .i64 f.n, .int .i64 f.time, .int .i64 f.kind, .int .i64 f.story, .string f.lang, .int .i64 f.rev, .int .i64 f.base, .string f.title, .string f.author, .slice m92_p m92_l m92_c, .slice (some ⟨B7, 0, none⟩) m10_l m10_c, .int .i64 f.lab.unt, .slice fap f.lab.after.length fac, .int .i64 f.lab.appr, .int .i64 f.lab.den, .int .i64 f.editor, .int .i64 f.block, .int .i64 f.sentence, .string f.text, .string f.name, .int .i64 f.partner, .int .i64 f.cls, .int .i64 f.unt] 28) :: (B7, .cells ⟨cs⟩ 89) :: (B8, .cells #[.int .i64 (0 : Int), .int .i64 (0 : Int), .int .i64 (0 : Int), .int .i64 (0 : Int), .string (⟨#[]⟩), .int .i64 (0 : Int), .int .i64 (0 : Int), .string (⟨#[]⟩), .string (⟨#[]⟩), .slice m93_p m93_l m93_c, .slice none 0 0, .int .i64 (0 : Int), .slice m121_p m121_l m121_c, .int .i64 (0 : Int), .int .i64 (0 : Int), .int .i64 (0 : Int), .int .i64 (0 : Int), .int .i64 (0 : Int), .string (⟨#[]⟩), .string (⟨#[]⟩), .int .i64 (0 : Int), .int .i64 (0 : Int), .int .i64 (0 : Int)] 28) :: F2)
abbrev fRedactH1 (B1 : Nat) (B : Nat) (f : Fct) (ftp : Option Addr) (ftc : Nat) (fbp : Option Addr) (fbc : Nat) (fap : Option Addr) (fac : Nat) (F : SHeap) : SHeap := ((B1, .cells #[.int .i64 (0 : Int), .int .i64 (0 : Int), .int .i64 (0 : Int), .int .i64 (0 : Int), .string (⟨#[]⟩), .int .i64 (0 : Int), .int .i64 (0 : Int), .string (⟨#[]⟩), .string (⟨#[]⟩), .slice none 0 0, .slice none 0 0, .int .i64 (0 : Int), .slice none 0 0, .int .i64 (0 : Int), .int .i64 (0 : Int), .int .i64 (0 : Int), .int .i64 (0 : Int), .int .i64 (0 : Int), .string (⟨#[]⟩), .string (⟨#[]⟩), .int .i64 (0 : Int), .int .i64 (0 : Int), .int .i64 (0 : Int)] 28) :: (B, .cells #[.int .i64 f.n, .int .i64 f.time, .int .i64 f.kind, .int .i64 f.story, .string f.lang, .int .i64 f.rev, .int .i64 f.base, .string f.title, .string f.author, .slice ftp f.topics.length ftc, .slice fbp f.blocks.length fbc, .int .i64 f.lab.unt, .slice fap f.lab.after.length fac, .int .i64 f.lab.appr, .int .i64 f.lab.den, .int .i64 f.editor, .int .i64 f.block, .int .i64 f.sentence, .string f.text, .string f.name, .int .i64 f.partner, .int .i64 f.cls, .int .i64 f.unt] 28) :: F)
abbrev fRedactH2 (B4 : Nat) (f : Fct) (m9_p : Option Addr) (m9_l : Nat) (m9_c : Nat) (fap : Option Addr) (fac : Nat) (B5 : Nat) (m91_p : Option Addr) (m91_l : Nat) (m91_c : Nat) (m12_p : Option Addr) (m12_l : Nat) (m12_c : Nat) (F1 : SHeap) : SHeap := ((B4, .cells #[.int .i64 f.n, .int .i64 f.time, .int .i64 f.kind, .int .i64 f.story, .string f.lang, .int .i64 f.rev, .int .i64 f.base, .string f.title, .string f.author, .slice m9_p m9_l m9_c, .slice none 0 0, .int .i64 f.lab.unt, .slice fap f.lab.after.length fac, .int .i64 f.lab.appr, .int .i64 f.lab.den, .int .i64 f.editor, .int .i64 f.block, .int .i64 f.sentence, .string f.text, .string f.name, .int .i64 f.partner, .int .i64 f.cls, .int .i64 f.unt] 28) :: (B5, .cells #[.int .i64 (0 : Int), .int .i64 (0 : Int), .int .i64 (0 : Int), .int .i64 (0 : Int), .string (⟨#[]⟩), .int .i64 (0 : Int), .int .i64 (0 : Int), .string (⟨#[]⟩), .string (⟨#[]⟩), .slice m91_p m91_l m91_c, .slice none 0 0, .int .i64 (0 : Int), .slice m12_p m12_l m12_c, .int .i64 (0 : Int), .int .i64 (0 : Int), .int .i64 (0 : Int), .int .i64 (0 : Int), .int .i64 (0 : Int), .string (⟨#[]⟩), .string (⟨#[]⟩), .int .i64 (0 : Int), .int .i64 (0 : Int), .int .i64 (0 : Int)] 28) :: F1)
abbrev fRedactH3 (B1 : Nat) (f : Fct) (B : Nat) (ftp : Option Addr) (ftc : Nat) (fbp : Option Addr) (fbc : Nat) (fap : Option Addr) (fac : Nat) (F : SHeap) : SHeap := ((B1, .cells #[.int .i64 f.n, .int .i64 f.time, .int .i64 (10 : Int), .int .i64 f.story, .string (⟨#[]⟩), .int .i64 (0 : Int), .int .i64 (0 : Int), .string (⟨#[]⟩), .string (⟨#[]⟩), .slice none 0 0, .slice none 0 0, .int .i64 (0 : Int), .slice none 0 0, .int .i64 (0 : Int), .int .i64 (0 : Int), .int .i64 (0 : Int), .int .i64 (0 : Int), .int .i64 (0 : Int), .string (⟨#[]⟩), .string (⟨#[]⟩), .int .i64 (0 : Int), .int .i64 (0 : Int), .int .i64 (0 : Int)] 28) :: (B, .cells #[.int .i64 f.n, .int .i64 f.time, .int .i64 f.kind, .int .i64 f.story, .string f.lang, .int .i64 f.rev, .int .i64 f.base, .string f.title, .string f.author, .slice ftp f.topics.length ftc, .slice fbp f.blocks.length fbc, .int .i64 f.lab.unt, .slice fap f.lab.after.length fac, .int .i64 f.lab.appr, .int .i64 f.lab.den, .int .i64 f.editor, .int .i64 f.block, .int .i64 f.sentence, .string f.text, .string f.name, .int .i64 f.partner, .int .i64 f.cls, .int .i64 f.unt] 28) :: F)
abbrev fRedactA0 (f : Fct) : Array Value := #[.int .i64 f.n, .int .i64 f.time, .int .i64 (10 : Int), .int .i64 f.story, .string (⟨#[]⟩), .int .i64 (0 : Int), .int .i64 (0 : Int), .string (⟨#[]⟩), .string (⟨#[]⟩), .slice none 0 0, .slice none 0 0, .int .i64 (0 : Int), .slice none 0 0, .int .i64 (0 : Int), .int .i64 (0 : Int), .int .i64 (0 : Int), .int .i64 (0 : Int), .int .i64 (0 : Int), .string (⟨#[]⟩), .string (⟨#[]⟩), .int .i64 (0 : Int), .int .i64 (0 : Int), .int .i64 (0 : Int)]
abbrev fRedactA5 : Array Value := #[.int .i64 (0 : Int), .int .i64 (0 : Int), .int .i64 (0 : Int), .int .i64 (0 : Int), .string (⟨#[]⟩), .int .i64 (0 : Int), .int .i64 (0 : Int), .string (⟨#[]⟩), .string (⟨#[]⟩), .slice none 0 0, .slice none 0 0, .int .i64 (0 : Int), .slice none 0 0, .int .i64 (0 : Int), .int .i64 (0 : Int), .int .i64 (0 : Int), .int .i64 (0 : Int), .int .i64 (0 : Int), .string (⟨#[]⟩), .string (⟨#[]⟩), .int .i64 (0 : Int), .int .i64 (0 : Int), .int .i64 (0 : Int)]
abbrev fRedactA6 (f : Fct) (ftp : Option Addr) (ftc : Nat) (fbp : Option Addr) (fbc : Nat) (fap : Option Addr) (fac : Nat) : Array Value := #[.int .i64 f.n, .int .i64 f.time, .int .i64 f.kind, .int .i64 f.story, .string f.lang, .int .i64 f.rev, .int .i64 f.base, .string f.title, .string f.author, .slice ftp f.topics.length ftc, .slice fbp f.blocks.length fbc, .int .i64 f.lab.unt, .slice fap f.lab.after.length fac, .int .i64 f.lab.appr, .int .i64 f.lab.den, .int .i64 f.editor, .int .i64 f.block, .int .i64 f.sentence, .string f.text, .string f.name, .int .i64 f.partner, .int .i64 f.cls, .int .i64 f.unt]
def fRedact_c0 (f : Fct) (ftp : Option Addr) (ftc : Nat) (fbp : Option Addr) (fbc : Nat) (fap : Option Addr) (fac : Nat) (B4 : Nat) (B5 : Nat) (t27 : Int) (t28 : Int) (m9_p : Option Addr) (m9_l : Nat) (m9_c : Nat) (m91_p : Option Addr) (m91_l : Nat) (m91_c : Nat) (m12_p : Option Addr) (m12_l : Nat) (m12_c : Nat) (F1 : SHeap) (w0 : World) (R : Ending → World → Prop) : Prop :=
 AtE Tryz.prog 26 53 [.code (sub (Eng.body Tryz.f26) [1,1,1,1,0,1,0,0]), .inLoop (sub (Eng.body Tryz.f26) [1,1,1,1,0,1,0,0]), .inBlock 1, .code (sub (Eng.body Tryz.f26) [1,1,1,1,1])] [(1, .pointer (some ⟨B4, 0, none⟩)), (2, .pointer (some ⟨B5, 0, none⟩)), (27, .int .i64 t27), (28, .int .i64 t28)] (fRedactH2 B4 f m9_p m9_l m9_c fap fac B5 m91_p m91_l m91_c m12_p m12_l m12_c F1) [] w0 (nrm R)
def fRedact_c1 (f : Fct) (ftp : Option Addr) (ftc : Nat) (fbp : Option Addr) (fbc : Nat) (fap : Option Addr) (fac : Nat) (B6 : Nat) (B7 : Nat) (B8 : Nat) (t281 : Int) (m92_p : Option Addr) (m92_l : Nat) (m92_c : Nat) (m10_l : Nat) (m10_c : Nat) (cs : List Value) (m93_p : Option Addr) (m93_l : Nat) (m93_c : Nat) (m121_p : Option Addr) (m121_l : Nat) (m121_c : Nat) (F2 : SHeap) (w0 : World) (R : Ending → World → Prop) : Prop :=
 AtE Tryz.prog 26 53 [.code (sub (Eng.body Tryz.f26) [1,1,1,1,0,1,0,0]), .inLoop (sub (Eng.body Tryz.f26) [1,1,1,1,0,1,0,0]), .inBlock 1, .code (sub (Eng.body Tryz.f26) [1,1,1,1,1])] [(1, .pointer (some ⟨B6, 0, none⟩)), (2, .pointer (some ⟨B8, 0, none⟩)), (27, .int .i64 (f.blocks.length : Int)), (28, .int .i64 t281)] (fRedactH0 B6 f m92_p m92_l m92_c B7 m10_l m10_c fap fac cs B8 m93_p m93_l m93_c m121_p m121_l m121_c F2) [] w0 (nrm R)
theorem fRedact_vc (f : Fct) (ftp : Option Addr) (ftc : Nat) (fbp : Option Addr) (fbc : Nat) (fap : Option Addr) (fac : Nat) (F : SHeap) {R : Ending → World → Prop} {w0 W : World} (hm : Mem (F) [] w0 W)
  (H :
   ∀ B : Nat,
   ∀ B1 : Nat,
   ((f.kind = (1 : Int)) →
    Fin R (fRedactH3 B1 f B ftp ftc fbp fbc fap fac F) [] w0 (.agg (fRedactA0 f))) ∧
    ((¬ (f.kind = (1 : Int))) →
    ((f.kind = (4 : Int)) →
     Fin R (fRedactH3 B1 f B ftp ftc fbp fbc fap fac F) [] w0 (.agg (fRedactA0 f))) ∧
     ((¬ (f.kind = (4 : Int))) →
     ((f.kind = (5 : Int)) →
      Fin R (fRedactH3 B1 f B ftp ftc fbp fbc fap fac F) [] w0 (.agg (fRedactA0 f))) ∧
      ((¬ (f.kind = (5 : Int))) →
      ∃ news : List Value, (∀ W, Mem (fRedactH1 B1 B f ftp ftc fbp fbc fap fac F) [] w0 W → Go.Src Tryz.prog 1 22 (.slice ftp f.topics.length ftc) f.topics.length news W) ∧
      (f.topics.length ≤ 9223372036854775807 ∧ f.topics.length * 16 ≤ 140737488355328) ∧ ((f.topics.length = 0 →
       ∃ news1 : List Value, (∀ W, Mem ((B1, .cells fRedactA5 28) :: (B, .cells #[.int .i64 f.n, .int .i64 f.time, .int .i64 f.kind, .int .i64 f.story, .string f.lang, .int .i64 f.rev, .int .i64 f.base, .string f.title, .string f.author, .slice none 0 0, .slice fbp f.blocks.length fbc, .int .i64 f.lab.unt, .slice fap f.lab.after.length fac, .int .i64 f.lab.appr, .int .i64 f.lab.den, .int .i64 f.editor, .int .i64 f.block, .int .i64 f.sentence, .string f.text, .string f.name, .int .i64 f.partner, .int .i64 f.cls, .int .i64 f.unt] 28) :: F) [] w0 W → Go.Src Tryz.prog 9 23 (.slice fbp f.blocks.length fbc) f.blocks.length news1 W) ∧
       (f.blocks.length ≤ 9223372036854775807 ∧ f.blocks.length * 96 ≤ 140737488355328) ∧ ((f.blocks.length = 0 →
        fRedact_c0 f ftp ftc fbp fbc fap fac B B1 (0 : Int) (0 : Int) none 0 0 none 0 0 none 0 0 F w0 R) ∧
        (0 < f.blocks.length → ∀ (B3 cap1 : Nat) (r1 : List Value), f.blocks.length ≤ cap1 → (news1 ++ r1).length = cap1 * 9 →
        fRedact_c1 f ftp ftc fbp fbc fap fac B B3 B1 (0 : Int) none 0 0 f.blocks.length cap1 (news1 ++ r1) none 0 0 none 0 0 F w0 R))) ∧
       (0 < f.topics.length → ∀ (B2 cap : Nat) (r : List Value), f.topics.length ≤ cap → (news ++ r).length = cap * 1 →
       ∃ news2 : List Value, (∀ W, Mem ((B2, .cells ⟨(news ++ r)⟩ 9) :: (B1, .cells fRedactA5 28) :: (B, .cells #[.int .i64 f.n, .int .i64 f.time, .int .i64 f.kind, .int .i64 f.story, .string f.lang, .int .i64 f.rev, .int .i64 f.base, .string f.title, .string f.author, .slice (some ⟨B2, 0, none⟩) f.topics.length cap, .slice fbp f.blocks.length fbc, .int .i64 f.lab.unt, .slice fap f.lab.after.length fac, .int .i64 f.lab.appr, .int .i64 f.lab.den, .int .i64 f.editor, .int .i64 f.block, .int .i64 f.sentence, .string f.text, .string f.name, .int .i64 f.partner, .int .i64 f.cls, .int .i64 f.unt] 28) :: F) [] w0 W → Go.Src Tryz.prog 9 23 (.slice fbp f.blocks.length fbc) f.blocks.length news2 W) ∧
       (f.blocks.length ≤ 9223372036854775807 ∧ f.blocks.length * 96 ≤ 140737488355328) ∧ ((f.blocks.length = 0 →
        fRedact_c0 f ftp ftc fbp fbc fap fac B B1 (0 : Int) (0 : Int) (some ⟨B2, 0, none⟩) f.topics.length cap none 0 0 none 0 0 ((B2, .cells ⟨(news ++ r)⟩ 9) :: F) w0 R) ∧
        (0 < f.blocks.length → ∀ (B9 cap2 : Nat) (r2 : List Value), f.blocks.length ≤ cap2 → (news2 ++ r2).length = cap2 * 9 →
        fRedact_c1 f ftp ftc fbp fbc fap fac B B9 B1 (0 : Int) (some ⟨B2, 0, none⟩) f.topics.length cap f.blocks.length cap2 (news2 ++ r2) none 0 0 none 0 0 ((B2, .cells ⟨(news ++ r)⟩ 9) :: F) w0 R)))))))) :
  Calls Tryz.prog 26 ⟨[.agg (fRedactA6 f ftp ftc fbp fbc fap fac)]⟩ W R := by
 refine AtE.calls (nt := 53) Tryz.func26 (by kernel_rfl) hm ?_
 refine AtE.ru 2 ?_
 refine AtE.new (fun B => .pointer (some ⟨B, 0, none⟩)) (.cells (fRedactA6 f ftp ftc fbp fbc fap fac) 28) (fun W => by kernel_rfl) (by kernel_rfl) (fun B => ?_)
 replace H := H B
 refine AtE.front ?_
 refine AtE.new (fun B => .pointer (some ⟨B, 0, none⟩)) (.cells fRedactA5 28) (fun W => by kernel_rfl) (by kernel_rfl) (fun B1 => ?_)
 replace H := H B1
 refine AtE.front ?_
 refine AtE.ru 5 ?_
 refine AtE.load 1 2 (T := 3) (v := .int .i64 f.kind) (by kernel_rfl) ?_
 refine AtE.ru 8 ?_
 refine AtE.splitP 6 (p := f.kind = (1 : Int)) (by kernel_rfl) (fun h1' => ?_) (fun h1' => ?_)
 ·replace H := H.1 h1'
  refine AtE.ru 6 ?_
  refine AtE.load 1 0 (T := 3) (v := .int .i64 f.n) (by kernel_rfl) ?_
  refine AtE.ru 1 ?_
  refine AtE.load 1 1 (T := 3) (v := .int .i64 f.time) (by kernel_rfl) ?_
  refine AtE.ru 1 ?_
  refine AtE.load 1 3 (T := 3) (v := .int .i64 f.story) (by kernel_rfl) ?_
  refine AtE.norm (k' := [.inRegion (regOps [.code (sub (Eng.body Tryz.f26) [1,0,1,0,1,0,0])]) [6,7], .code (sub (Eng.body Tryz.f26) [1,0,1,0,1,0,1]), .inBlock 0, .code (sub (Eng.body Tryz.f26) [1,1])]) (e' := [(2, .pointer (some ⟨B1, 0, none⟩)), (11, .int .i64 f.n), (13, .int .i64 f.time), (15, .int .i64 f.story)]) (L' := (fRedactH1 B1 B f ftp ftc fbp fbc fap fac F)) ?_ (by kernel_rfl)
  refine AtE.ru 1 ?_
  refine AtE.store 0 0 (T := 28) (v := .agg (fRedactA0 f)) (by kernel_rfl) ?_
  refine AtE.ru 1 ?_
  exact AtE.retC 0 0 (a := 2) (T := 28) (v := .agg (fRedactA0 f)) Tryz.func26 (by kernel_rfl) (by kernel_rfl) H
 ·replace H := H.2 h1'
  refine AtE.ru 6 ?_
  refine AtE.splitP 6 (p := f.kind = (4 : Int)) (by kernel_rfl) (fun h2' => ?_) (fun h2' => ?_)
  ·replace H := H.1 h2'
   refine AtE.ru 6 ?_
   refine AtE.load 1 0 (T := 3) (v := .int .i64 f.n) (by kernel_rfl) ?_
   refine AtE.ru 1 ?_
   refine AtE.load 1 1 (T := 3) (v := .int .i64 f.time) (by kernel_rfl) ?_
   refine AtE.norm (k' := [.inRegion (regOps [.code (sub (Eng.body Tryz.f26) [1,0,1,0,1,0,0])]) [4,5,6,7], .code (sub (Eng.body Tryz.f26) [1,0,1,0,1,0,1]), .inBlock 0, .code (sub (Eng.body Tryz.f26) [1,1])]) (e' := [(1, .pointer (some ⟨B, 0, none⟩)), (2, .pointer (some ⟨B1, 0, none⟩)), (11, .int .i64 f.n), (13, .int .i64 f.time)]) (L' := (fRedactH1 B1 B f ftp ftc fbp fbc fap fac F)) ?_ (by kernel_rfl)
   refine AtE.ru 1 ?_
   refine AtE.load 1 3 (T := 3) (v := .int .i64 f.story) (by kernel_rfl) ?_
   refine AtE.ru 1 ?_
   refine AtE.store 0 0 (T := 28) (v := .agg (fRedactA0 f)) (by kernel_rfl) ?_
   refine AtE.ru 1 ?_
   exact AtE.retC 0 0 (a := 2) (T := 28) (v := .agg (fRedactA0 f)) Tryz.func26 (by kernel_rfl) (by kernel_rfl) H
  ·replace H := H.2 h2'
   refine AtE.ru 5 ?_
   refine AtE.splitP 6 (p := f.kind = (5 : Int)) (by kernel_rfl) (fun h3' => ?_) (fun h3' => ?_)
   ·replace H := H.1 h3'
    refine AtE.ru 4 ?_
    refine AtE.load 1 0 (T := 3) (v := .int .i64 f.n) (by kernel_rfl) ?_
    refine AtE.norm (k' := [.inRegion (regOps [.code (sub (Eng.body Tryz.f26) [1,0,1,0,1,0,0])]) [2,3,4,5,6,7], .code (sub (Eng.body Tryz.f26) [1,0,1,0,1,0,1]), .inBlock 0, .code (sub (Eng.body Tryz.f26) [1,1])]) (e' := [(1, .pointer (some ⟨B, 0, none⟩)), (2, .pointer (some ⟨B1, 0, none⟩)), (11, .int .i64 f.n)]) (L' := (fRedactH1 B1 B f ftp ftc fbp fbc fap fac F)) ?_ (by kernel_rfl)
    refine AtE.ru 1 ?_
    refine AtE.load 1 1 (T := 3) (v := .int .i64 f.time) (by kernel_rfl) ?_
    refine AtE.ru 1 ?_
    refine AtE.load 1 3 (T := 3) (v := .int .i64 f.story) (by kernel_rfl) ?_
    refine AtE.ru 1 ?_
    refine AtE.store 0 0 (T := 28) (v := .agg (fRedactA0 f)) (by kernel_rfl) ?_
    refine AtE.ru 1 ?_
    exact AtE.retC 0 0 (a := 2) (T := 28) (v := .agg (fRedactA0 f)) Tryz.func26 (by kernel_rfl) (by kernel_rfl) H
   ·replace H := H.2 h3'
    refine AtE.ru 6 ?_
    refine AtE.load 1 9 (T := 22) (v := .slice ftp f.topics.length ftc) (by kernel_rfl) ?_
    refine AtE.norm (k' := [.inRegion (regOps [.code (sub (Eng.body Tryz.f26) [1,1,0])]) [2,3,4], .code (sub (Eng.body Tryz.f26) [1,1,1])]) (e' := [(1, .pointer (some ⟨B, 0, none⟩)), (2, .pointer (some ⟨B1, 0, none⟩)), (18, .slice ftp f.topics.length ftc)]) (L' := (fRedactH1 B1 B f ftp ftc fbp fbc fap fac F)) ?_ (by kernel_rfl)
    obtain ⟨news, hsrc, H⟩ := H
    refine AtE.appendS (T := 22) (U := 22) (E := 9) (z := .string (⟨#[]⟩)) (sz := 1) (bytes := 16) (x := .slice ftp f.topics.length ftc) f.topics.length news (by kernel_rfl) hsrc H.1 (fun h0 => ?_) (fun h0 B2 cap r h1 h2 => ?_)
    ·replace H := H.2.1 h0
     refine AtE.ru 1 ?_
     refine AtE.store 1 9 (T := 22) (v := .slice none 0 0) (by kernel_rfl) ?_
     refine AtE.ru 4 ?_
     refine AtE.load 1 10 (T := 23) (v := .slice fbp f.blocks.length fbc) (by kernel_rfl) ?_
     obtain ⟨news1, hsrc, H⟩ := H
     refine AtE.appendS (T := 23) (U := 23) (E := 89) (z := .agg #[.int .i64 (0 : Int), .int .i64 (0 : Int), .string (⟨#[]⟩), .int .i64 (0 : Int), .int .i64 (0 : Int), .int .i64 (0 : Int), .slice none 0 0, .int .i64 (0 : Int), .int .i64 (0 : Int)]) (sz := 9) (bytes := 96) (x := .slice fbp f.blocks.length fbc) f.blocks.length news1 (by kernel_rfl) hsrc H.1 (fun h0 => ?_) (fun h0 B3 cap1 r1 h1 h2 => ?_)
     ·replace H := H.2.1 h0
      refine AtE.ru 1 ?_
      refine AtE.store 1 10 (T := 23) (v := .slice none 0 0) (by kernel_rfl) ?_
      refine AtE.ru 5 ?_
      refine AtE.load 1 10 (T := 23) (v := .slice none 0 0) (by kernel_rfl) ?_
      refine AtE.ru 5 ?_
      exact AtE.cutT [1,0] 2 H (by kernel_rfl)
     ·skip
      replace H := H.2.2 h0 B3 cap1 r1 h1 h2
      refine AtE.front ?_
      refine AtE.ru 1 ?_
      refine AtE.store 2 10 (T := 23) (v := .slice (some ⟨B3, 0, none⟩) f.blocks.length cap1) (by kernel_rfl) ?_
      refine AtE.ru 5 ?_
      refine AtE.load 2 10 (T := 23) (v := .slice (some ⟨B3, 0, none⟩) f.blocks.length cap1) (by kernel_rfl) ?_
      refine AtE.ru 5 ?_
      exact AtE.cutT [2,0,1] 3 H (by kernel_rfl)
    ·skip
     replace H := H.2.2 h0 B2 cap r h1 h2
     refine AtE.front ?_
     refine AtE.ru 1 ?_
     refine AtE.store 2 9 (T := 22) (v := .slice (some ⟨B2, 0, none⟩) f.topics.length cap) (by kernel_rfl) ?_
     refine AtE.ru 4 ?_
     refine AtE.load 2 10 (T := 23) (v := .slice fbp f.blocks.length fbc) (by kernel_rfl) ?_
     obtain ⟨news2, hsrc, H⟩ := H
     refine AtE.appendS (T := 23) (U := 23) (E := 89) (z := .agg #[.int .i64 (0 : Int), .int .i64 (0 : Int), .string (⟨#[]⟩), .int .i64 (0 : Int), .int .i64 (0 : Int), .int .i64 (0 : Int), .slice none 0 0, .int .i64 (0 : Int), .int .i64 (0 : Int)]) (sz := 9) (bytes := 96) (x := .slice fbp f.blocks.length fbc) f.blocks.length news2 (by kernel_rfl) hsrc H.1 (fun h0 => ?_) (fun h0 B9 cap2 r2 h1 h2 => ?_)
     ·replace H := H.2.1 h0
      refine AtE.ru 1 ?_
      refine AtE.store 2 10 (T := 23) (v := .slice none 0 0) (by kernel_rfl) ?_
      refine AtE.ru 5 ?_
      refine AtE.load 2 10 (T := 23) (v := .slice none 0 0) (by kernel_rfl) ?_
      refine AtE.ru 5 ?_
      exact AtE.cutT [2,1,0] 3 H (by kernel_rfl)
     ·skip
      replace H := H.2.2 h0 B9 cap2 r2 h1 h2
      refine AtE.front ?_
      refine AtE.ru 1 ?_
      refine AtE.store 3 10 (T := 23) (v := .slice (some ⟨B9, 0, none⟩) f.blocks.length cap2) (by kernel_rfl) ?_
      refine AtE.ru 5 ?_
      refine AtE.load 3 10 (T := 23) (v := .slice (some ⟨B9, 0, none⟩) f.blocks.length cap2) (by kernel_rfl) ?_
      refine AtE.ru 5 ?_
      exact AtE.cutT [3,0,2,1] 4 H (by kernel_rfl)
end Go.Eng
namespace Go.Eng
open Go Go.RowKit Go.Proofs
set_option linter.unusedVariables false
set_option maxRecDepth 100000
abbrev sane5H0 (B5 : Nat) (z : Fct) (ztp : Option Addr) (ztc : Nat) (zbp : Option Addr) (zbc : Nat) (zap : Option Addr) (zac : Nat) (B4 : Nat) (B3 : Nat) (B2 : Nat) (d2 : Fct) (d2tp : Option Addr) (d2tc : Nat) (d2bp : Option Addr) (d2bc : Nat) (d2ap : Option Addr) (d2ac : Nat) (B1 : Nat) (d1 : Fct) (d1tp : Option Addr) (d1tc : Nat) (d1bp : Option Addr) (d1bc : Nat) (d1ap : Option Addr) (d1ac : Nat) (B : Nat) (d : Fct) (dtp : Option Addr) (dtc : Nat) (dbp : Option Addr) (dbc : Nat) (dap : Option Addr) (dac : Nat) (F3 : SHeap) : SHeap := ((B5, .cells #[.int .i64 z.n, .int .i64 z.time, .int .i64 z.kind, .int .i64 z.story, .string z.lang, .int .i64 z.rev, .int .i64 z.base, .string z.title, .string z.author, .slice ztp z.topics.length ztc, .slice zbp z.blocks.length zbc, .int .i64 z.lab.unt, .slice zap z.lab.after.length zac, .int .i64 z.lab.appr, .int .i64 z.lab.den, .int .i64 z.editor, .int .i64 z.block, .int .i64 z.sentence, .string z.text, .string z.name, .int .i64 z.partner, .int .i64 z.cls, .int .i64 z.unt] 28) :: (B4, .cells #[.int .i64 (1 : Int), .int .i64 (1 : Int), .string (⟨#[82,97,105,110]⟩), .int .i64 (0 : Int), .int .i64 (0 : Int), .int .i64 (0 : Int), .slice none 0 0, .int .i64 (0 : Int), .int .i64 (0 : Int)] 89) :: (B3, .cells #[.string (⟨#[97]⟩), .string (⟨#[98]⟩)] 9) :: (B2, .cells #[.int .i64 d2.n, .int .i64 d2.time, .int .i64 d2.kind, .int .i64 d2.story, .string d2.lang, .int .i64 d2.rev, .int .i64 d2.base, .string d2.title, .string d2.author, .slice d2tp d2.topics.length d2tc, .slice d2bp d2.blocks.length d2bc, .int .i64 d2.lab.unt, .slice d2ap d2.lab.after.length d2ac, .int .i64 d2.lab.appr, .int .i64 d2.lab.den, .int .i64 d2.editor, .int .i64 d2.block, .int .i64 d2.sentence, .string d2.text, .string d2.name, .int .i64 d2.partner, .int .i64 d2.cls, .int .i64 d2.unt] 28) :: (B1, .cells #[.int .i64 d1.n, .int .i64 d1.time, .int .i64 d1.kind, .int .i64 d1.story, .string d1.lang, .int .i64 d1.rev, .int .i64 d1.base, .string d1.title, .string d1.author, .slice d1tp d1.topics.length d1tc, .slice d1bp d1.blocks.length d1bc, .int .i64 d1.lab.unt, .slice d1ap d1.lab.after.length d1ac, .int .i64 d1.lab.appr, .int .i64 d1.lab.den, .int .i64 d1.editor, .int .i64 d1.block, .int .i64 d1.sentence, .string d1.text, .string d1.name, .int .i64 d1.partner, .int .i64 d1.cls, .int .i64 d1.unt] 28) :: (B, .cells #[.int .i64 d.n, .int .i64 d.time, .int .i64 d.kind, .int .i64 d.story, .string d.lang, .int .i64 d.rev, .int .i64 d.base, .string d.title, .string d.author, .slice dtp d.topics.length dtc, .slice dbp d.blocks.length dbc, .int .i64 d.lab.unt, .slice dap d.lab.after.length dac, .int .i64 d.lab.appr, .int .i64 d.lab.den, .int .i64 d.editor, .int .i64 d.block, .int .i64 d.sentence, .string d.text, .string d.name, .int .i64 d.partner, .int .i64 d.cls, .int .i64 d.unt] 28) :: F3)
abbrev sane5H1 (B2 : Nat) (d2 : Fct) (d2tp : Option Addr) (d2tc : Nat) (d2bp : Option Addr) (d2bc : Nat) (d2ap : Option Addr) (d2ac : Nat) (B1 : Nat) (d1 : Fct) (d1tp : Option Addr) (d1tc : Nat) (d1bp : Option Addr) (d1bc : Nat) (d1ap : Option Addr) (d1ac : Nat) (B : Nat) (d : Fct) (dtp : Option Addr) (dtc : Nat) (dbp : Option Addr) (dbc : Nat) (dap : Option Addr) (dac : Nat) (F2 : SHeap) : SHeap := ((B2, .cells #[.int .i64 d2.n, .int .i64 d2.time, .int .i64 d2.kind, .int .i64 d2.story, .string d2.lang, .int .i64 d2.rev, .int .i64 d2.base, .string d2.title, .string d2.author, .slice d2tp d2.topics.length d2tc, .slice d2bp d2.blocks.length d2bc, .int .i64 d2.lab.unt, .slice d2ap d2.lab.after.length d2ac, .int .i64 d2.lab.appr, .int .i64 d2.lab.den, .int .i64 d2.editor, .int .i64 d2.block, .int .i64 d2.sentence, .string d2.text, .string d2.name, .int .i64 d2.partner, .int .i64 d2.cls, .int .i64 d2.unt] 28) :: (B1, .cells #[.int .i64 d1.n, .int .i64 d1.time, .int .i64 d1.kind, .int .i64 d1.story, .string d1.lang, .int .i64 d1.rev, .int .i64 d1.base, .string d1.title, .string d1.author, .slice d1tp d1.topics.length d1tc, .slice d1bp d1.blocks.length d1bc, .int .i64 d1.lab.unt, .slice d1ap d1.lab.after.length d1ac, .int .i64 d1.lab.appr, .int .i64 d1.lab.den, .int .i64 d1.editor, .int .i64 d1.block, .int .i64 d1.sentence, .string d1.text, .string d1.name, .int .i64 d1.partner, .int .i64 d1.cls, .int .i64 d1.unt] 28) :: (B, .cells #[.int .i64 d.n, .int .i64 d.time, .int .i64 d.kind, .int .i64 d.story, .string d.lang, .int .i64 d.rev, .int .i64 d.base, .string d.title, .string d.author, .slice dtp d.topics.length dtc, .slice dbp d.blocks.length dbc, .int .i64 d.lab.unt, .slice dap d.lab.after.length dac, .int .i64 d.lab.appr, .int .i64 d.lab.den, .int .i64 d.editor, .int .i64 d.block, .int .i64 d.sentence, .string d.text, .string d.name, .int .i64 d.partner, .int .i64 d.cls, .int .i64 d.unt] 28) :: F2)
abbrev sane5H2 (B4 : Nat) (B3 : Nat) (B2 : Nat) (d2 : Fct) (d2tp : Option Addr) (d2tc : Nat) (d2bp : Option Addr) (d2bc : Nat) (d2ap : Option Addr) (d2ac : Nat) (B1 : Nat) (d1 : Fct) (d1tp : Option Addr) (d1tc : Nat) (d1bp : Option Addr) (d1bc : Nat) (d1ap : Option Addr) (d1ac : Nat) (B : Nat) (d : Fct) (dtp : Option Addr) (dtc : Nat) (dbp : Option Addr) (dbc : Nat) (dap : Option Addr) (dac : Nat) (F2 : SHeap) : SHeap := ((B4, .cells #[.int .i64 (1 : Int), .int .i64 (1 : Int), .string (⟨#[82,97,105,110]⟩), .int .i64 (0 : Int), .int .i64 (0 : Int), .int .i64 (0 : Int), .slice none 0 0, .int .i64 (0 : Int), .int .i64 (0 : Int)] 89) :: (B3, .cells #[.string (⟨#[97]⟩), .string (⟨#[98]⟩)] 9) :: (B2, .cells #[.int .i64 d2.n, .int .i64 d2.time, .int .i64 d2.kind, .int .i64 d2.story, .string d2.lang, .int .i64 d2.rev, .int .i64 d2.base, .string d2.title, .string d2.author, .slice d2tp d2.topics.length d2tc, .slice d2bp d2.blocks.length d2bc, .int .i64 d2.lab.unt, .slice d2ap d2.lab.after.length d2ac, .int .i64 d2.lab.appr, .int .i64 d2.lab.den, .int .i64 d2.editor, .int .i64 d2.block, .int .i64 d2.sentence, .string d2.text, .string d2.name, .int .i64 d2.partner, .int .i64 d2.cls, .int .i64 d2.unt] 28) :: (B1, .cells #[.int .i64 d1.n, .int .i64 d1.time, .int .i64 d1.kind, .int .i64 d1.story, .string d1.lang, .int .i64 d1.rev, .int .i64 d1.base, .string d1.title, .string d1.author, .slice d1tp d1.topics.length d1tc, .slice d1bp d1.blocks.length d1bc, .int .i64 d1.lab.unt, .slice d1ap d1.lab.after.length d1ac, .int .i64 d1.lab.appr, .int .i64 d1.lab.den, .int .i64 d1.editor, .int .i64 d1.block, .int .i64 d1.sentence, .string d1.text, .string d1.name, .int .i64 d1.partner, .int .i64 d1.cls, .int .i64 d1.unt] 28) :: (B, .cells #[.int .i64 d.n, .int .i64 d.time, .int .i64 d.kind, .int .i64 d.story, .string d.lang, .int .i64 d.rev, .int .i64 d.base, .string d.title, .string d.author, .slice dtp d.topics.length dtc, .slice dbp d.blocks.length dbc, .int .i64 d.lab.unt, .slice dap d.lab.after.length dac, .int .i64 d.lab.appr, .int .i64 d.lab.den, .int .i64 d.editor, .int .i64 d.block, .int .i64 d.sentence, .string d.text, .string d.name, .int .i64 d.partner, .int .i64 d.cls, .int .i64 d.unt] 28) :: F2)
abbrev sane5H3 (B1 : Nat) (d1 : Fct) (d1tp : Option Addr) (d1tc : Nat) (d1bp : Option Addr) (d1bc : Nat) (d1ap : Option Addr) (d1ac : Nat) (B : Nat) (d : Fct) (dtp : Option Addr) (dtc : Nat) (dbp : Option Addr) (dbc : Nat) (dap : Option Addr) (dac : Nat) (F1 : SHeap) : SHeap := ((B1, .cells #[.int .i64 d1.n, .int .i64 d1.time, .int .i64 d1.kind, .int .i64 d1.story, .string d1.lang, .int .i64 d1.rev, .int .i64 d1.base, .string d1.title, .string d1.author, .slice d1tp d1.topics.length d1tc, .slice d1bp d1.blocks.length d1bc, .int .i64 d1.lab.unt, .slice d1ap d1.lab.after.length d1ac, .int .i64 d1.lab.appr, .int .i64 d1.lab.den, .int .i64 d1.editor, .int .i64 d1.block, .int .i64 d1.sentence, .string d1.text, .string d1.name, .int .i64 d1.partner, .int .i64 d1.cls, .int .i64 d1.unt] 28) :: (B, .cells #[.int .i64 d.n, .int .i64 d.time, .int .i64 d.kind, .int .i64 d.story, .string d.lang, .int .i64 d.rev, .int .i64 d.base, .string d.title, .string d.author, .slice dtp d.topics.length dtc, .slice dbp d.blocks.length dbc, .int .i64 d.lab.unt, .slice dap d.lab.after.length dac, .int .i64 d.lab.appr, .int .i64 d.lab.den, .int .i64 d.editor, .int .i64 d.block, .int .i64 d.sentence, .string d.text, .string d.name, .int .i64 d.partner, .int .i64 d.cls, .int .i64 d.unt] 28) :: F1)
abbrev sane5A0 (d : Fct) (dtp : Option Addr) (dtc : Nat) (dbp : Option Addr) (dbc : Nat) (dap : Option Addr) (dac : Nat) : Array Value := #[.int .i64 d.n, .int .i64 d.time, .int .i64 d.kind, .int .i64 d.story, .string d.lang, .int .i64 d.rev, .int .i64 d.base, .string d.title, .string d.author, .slice dtp d.topics.length dtc, .slice dbp d.blocks.length dbc, .int .i64 d.lab.unt, .slice dap d.lab.after.length dac, .int .i64 d.lab.appr, .int .i64 d.lab.den, .int .i64 d.editor, .int .i64 d.block, .int .i64 d.sentence, .string d.text, .string d.name, .int .i64 d.partner, .int .i64 d.cls, .int .i64 d.unt]
abbrev sane5A1 (z : Fct) (ztp : Option Addr) (ztc : Nat) (zbp : Option Addr) (zbc : Nat) (zap : Option Addr) (zac : Nat) : Array Value := #[.int .i64 z.n, .int .i64 z.time, .int .i64 z.kind, .int .i64 z.story, .string z.lang, .int .i64 z.rev, .int .i64 z.base, .string z.title, .string z.author, .slice ztp z.topics.length ztc, .slice zbp z.blocks.length zbc, .int .i64 z.lab.unt, .slice zap z.lab.after.length zac, .int .i64 z.lab.appr, .int .i64 z.lab.den, .int .i64 z.editor, .int .i64 z.block, .int .i64 z.sentence, .string z.text, .string z.name, .int .i64 z.partner, .int .i64 z.cls, .int .i64 z.unt]
abbrev sane5A2 (d1 : Fct) (d1tp : Option Addr) (d1tc : Nat) (d1bp : Option Addr) (d1bc : Nat) (d1ap : Option Addr) (d1ac : Nat) : Array Value := #[.int .i64 d1.n, .int .i64 d1.time, .int .i64 d1.kind, .int .i64 d1.story, .string d1.lang, .int .i64 d1.rev, .int .i64 d1.base, .string d1.title, .string d1.author, .slice d1tp d1.topics.length d1tc, .slice d1bp d1.blocks.length d1bc, .int .i64 d1.lab.unt, .slice d1ap d1.lab.after.length d1ac, .int .i64 d1.lab.appr, .int .i64 d1.lab.den, .int .i64 d1.editor, .int .i64 d1.block, .int .i64 d1.sentence, .string d1.text, .string d1.name, .int .i64 d1.partner, .int .i64 d1.cls, .int .i64 d1.unt]
abbrev sane5A3 : Array Value := #[.int .i64 (0 : Int), .int .i64 (0 : Int), .int .i64 (0 : Int), .int .i64 (0 : Int), .string (⟨#[]⟩), .int .i64 (0 : Int), .int .i64 (0 : Int), .string (⟨#[]⟩), .string (⟨#[]⟩), .slice none 0 0, .slice none 0 0, .int .i64 (0 : Int), .slice none 0 0, .int .i64 (0 : Int), .int .i64 (0 : Int), .int .i64 (0 : Int), .int .i64 (0 : Int), .int .i64 (0 : Int), .string (⟨#[]⟩), .string (⟨#[]⟩), .int .i64 (0 : Int), .int .i64 (0 : Int), .int .i64 (0 : Int)]
abbrev sane5A4 (d2 : Fct) (d2tp : Option Addr) (d2tc : Nat) (d2bp : Option Addr) (d2bc : Nat) (d2ap : Option Addr) (d2ac : Nat) : Array Value := #[.int .i64 d2.n, .int .i64 d2.time, .int .i64 d2.kind, .int .i64 d2.story, .string d2.lang, .int .i64 d2.rev, .int .i64 d2.base, .string d2.title, .string d2.author, .slice d2tp d2.topics.length d2tc, .slice d2bp d2.blocks.length d2bc, .int .i64 d2.lab.unt, .slice d2ap d2.lab.after.length d2ac, .int .i64 d2.lab.appr, .int .i64 d2.lab.den, .int .i64 d2.editor, .int .i64 d2.block, .int .i64 d2.sentence, .string d2.text, .string d2.name, .int .i64 d2.partner, .int .i64 d2.cls, .int .i64 d2.unt]
abbrev sane5A5 (B3 : Nat) (B4 : Nat) : Array Value := #[.int .i64 (0 : Int), .int .i64 (0 : Int), .int .i64 (1 : Int), .int .i64 (1 : Int), .string (⟨#[101,110]⟩), .int .i64 (1 : Int), .int .i64 (0 : Int), .string (⟨#[82,97,105,110]⟩), .string (⟨#[97,110,110]⟩), .slice (some ⟨B3, 0, none⟩) 2 2, .slice (some ⟨B4, 0, none⟩) 1 1, .int .i64 (0 : Int), .slice none 0 0, .int .i64 (0 : Int), .int .i64 (0 : Int), .int .i64 (0 : Int), .int .i64 (0 : Int), .int .i64 (0 : Int), .string (⟨#[]⟩), .string (⟨#[]⟩), .int .i64 (0 : Int), .int .i64 (0 : Int), .int .i64 (0 : Int)]
abbrev sane5A6 : Array Value := #[.int .i64 (9 : Int), .int .i64 (5 : Int), .int .i64 (4 : Int), .int .i64 (2 : Int), .string (⟨#[101,110]⟩), .int .i64 (0 : Int), .int .i64 (0 : Int), .string (⟨#[]⟩), .string (⟨#[]⟩), .slice none 0 0, .slice none 0 0, .int .i64 (0 : Int), .slice none 0 0, .int .i64 (0 : Int), .int .i64 (0 : Int), .int .i64 (0 : Int), .int .i64 (1 : Int), .int .i64 (0 : Int), .string (⟨#[78,111,46]⟩), .string (⟨#[]⟩), .int .i64 (0 : Int), .int .i64 (0 : Int), .int .i64 (0 : Int)]
abbrev sane5A7 : Array Value := #[.int .i64 (1 : Int), .int .i64 (0 : Int), .int .i64 (2 : Int), .int .i64 (3 : Int), .string (⟨#[101,110]⟩), .int .i64 (0 : Int), .int .i64 (0 : Int), .string (⟨#[]⟩), .string (⟨#[]⟩), .slice none 0 0, .slice none 0 0, .int .i64 (0 : Int), .slice none 0 0, .int .i64 (0 : Int), .int .i64 (0 : Int), .int .i64 (2 : Int), .int .i64 (0 : Int), .int .i64 (0 : Int), .string (⟨#[]⟩), .string (⟨#[]⟩), .int .i64 (0 : Int), .int .i64 (0 : Int), .int .i64 (0 : Int)]
abbrev sane5A8 : Array Value := #[.int .i64 (2 : Int), .int .i64 (70 : Int), .int .i64 (6 : Int), .int .i64 (65 : Int), .string (⟨#[]⟩), .int .i64 (0 : Int), .int .i64 (0 : Int), .string (⟨#[]⟩), .string (⟨#[]⟩), .slice none 0 0, .slice none 0 0, .int .i64 (0 : Int), .slice none 0 0, .int .i64 (0 : Int), .int .i64 (0 : Int), .int .i64 (0 : Int), .int .i64 (0 : Int), .int .i64 (0 : Int), .string (⟨#[]⟩), .string (⟨#[]⟩), .int .i64 (0 : Int), .int .i64 (0 : Int), .int .i64 (0 : Int)]
abbrev sane5A9 : Array Value := #[.int .i64 (2 : Int), .int .i64 (70 : Int), .int .i64 (6 : Int), .int .i64 (5 : Int), .string (⟨#[]⟩), .int .i64 (0 : Int), .int .i64 (0 : Int), .string (⟨#[]⟩), .string (⟨#[]⟩), .slice none 0 0, .slice none 0 0, .int .i64 (0 : Int), .slice none 0 0, .int .i64 (0 : Int), .int .i64 (0 : Int), .int .i64 (0 : Int), .int .i64 (0 : Int), .int .i64 (0 : Int), .string (⟨#[]⟩), .string (⟨#[]⟩), .int .i64 (0 : Int), .int .i64 (0 : Int), .int .i64 (0 : Int)]
abbrev sane5A10 : Array Value := #[.int .i64 (9 : Int), .int .i64 (5 : Int), .int .i64 (10 : Int), .int .i64 (2 : Int), .string (⟨#[]⟩), .int .i64 (0 : Int), .int .i64 (0 : Int), .string (⟨#[]⟩), .string (⟨#[]⟩), .slice none 0 0, .slice none 0 0, .int .i64 (0 : Int), .slice none 0 0, .int .i64 (0 : Int), .int .i64 (0 : Int), .int .i64 (0 : Int), .int .i64 (0 : Int), .int .i64 (0 : Int), .string (⟨#[]⟩), .string (⟨#[]⟩), .int .i64 (0 : Int), .int .i64 (0 : Int), .int .i64 (0 : Int)]
abbrev sane5A11 : Array Value := #[.int .i64 (1 : Int), .int .i64 (0 : Int), .int .i64 (2 : Int), .int .i64 (3 : Int), .string (⟨#[]⟩), .int .i64 (0 : Int), .int .i64 (0 : Int), .string (⟨#[]⟩), .string (⟨#[]⟩), .slice none 0 0, .slice none 0 0, .int .i64 (0 : Int), .slice none 0 0, .int .i64 (0 : Int), .int .i64 (0 : Int), .int .i64 (2 : Int), .int .i64 (0 : Int), .int .i64 (0 : Int), .string (⟨#[]⟩), .string (⟨#[]⟩), .int .i64 (0 : Int), .int .i64 (0 : Int), .int .i64 (0 : Int)]
theorem sane5_vc  {R : Ending → World → Prop} {w0 W : World} (hm : Mem [] [] w0 W)
  (H :
   CallH Tryz.prog 19 ⟨[.agg sane5A9]⟩ [] [] w0 (fun v L' => ∃ (r1 : ByteArray) (r21 : Int), v = (.tuple #[.string r1, .int .i64 r21]) ∧ L' = [] ∧
    CallH Tryz.prog 21 ⟨[.string (⟨#[4,140,1,12,10]⟩)]⟩ [] [] w0 (fun v L' => ∃ (d : Fct) (dtp : Option Addr) (dtc : Nat) (dbp : Option Addr) (dbc : Nat) (dap : Option Addr) (dac : Nat) (ev : Int) (F : SHeap), v = (.tuple #[.agg (sane5A0 d dtp dtc dbp dbc dap dac), .int .i64 ev]) ∧ L' = (F) ∧
     ∀ B : Nat,
     CallH Tryz.prog 21 ⟨[.string (⟨#[4,140,1,12,10,0]⟩)]⟩ ((B, .cells (sane5A0 d dtp dtc dbp dbc dap dac) 28) :: F) [] w0 (fun v L' => ∃ (d1 : Fct) (d1tp : Option Addr) (d1tc : Nat) (d1bp : Option Addr) (d1bc : Nat) (d1ap : Option Addr) (d1ac : Nat) (ev1 : Int) (F1 : SHeap), v = (.tuple #[.agg (sane5A2 d1 d1tp d1tc d1bp d1bc d1ap d1ac), .int .i64 ev1]) ∧ L' = ((B, .cells (sane5A0 d dtp dtc dbp dbc dap dac) 28) :: F1) ∧
      ∀ B1 : Nat,
      CallH Tryz.prog 21 ⟨[.string (⟨#[4,140,1,22,10]⟩)]⟩ (sane5H3 B1 d1 d1tp d1tc d1bp d1bc d1ap d1ac B d dtp dtc dbp dbc dap dac F1) [] w0 (fun v L' => ∃ (d2 : Fct) (d2tp : Option Addr) (d2tc : Nat) (d2bp : Option Addr) (d2bc : Nat) (d2ap : Option Addr) (d2ac : Nat) (ev2 : Int) (F2 : SHeap), v = (.tuple #[.agg (sane5A4 d2 d2tp d2tc d2bp d2bc d2ap d2ac), .int .i64 ev2]) ∧ L' = ((B1, .cells (sane5A2 d1 d1tp d1tc d1bp d1bc d1ap d1ac) 28) :: (B, .cells (sane5A0 d dtp dtc dbp dbc dap dac) 28) :: F2) ∧
       ∀ B2 : Nat,
       CallH Tryz.prog 19 ⟨[.agg sane5A8]⟩ (sane5H1 B2 d2 d2tp d2tc d2bp d2bc d2ap d2ac B1 d1 d1tp d1tc d1bp d1bc d1ap d1ac B d dtp dtc dbp dbc dap dac F2) [] w0 (fun v L' => ∃ (r91 : ByteArray) (r101 : Int), v = (.tuple #[.string r91, .int .i64 r101]) ∧ L' = (sane5H1 B2 d2 d2tp d2tc d2bp d2bc d2ap d2ac B1 d1 d1tp d1tc d1bp d1bc d1ap d1ac B d dtp dtc dbp dbc dap dac F2) ∧
        CallH Tryz.prog 20 ⟨[.agg sane5A11]⟩ (sane5H1 B2 d2 d2tp d2tc d2bp d2bc d2ap d2ac B1 d1 d1tp d1tc d1bp d1bc d1ap d1ac B d dtp dtc dbp dbc dap dac F2) [] w0 (fun v L' => ∃ (r111 : Bool), v = (.bool r111) ∧ L' = (sane5H1 B2 d2 d2tp d2tc d2bp d2bc d2ap d2ac B1 d1 d1tp d1tc d1bp d1bc d1ap d1ac B d dtp dtc dbp dbc dap dac F2) ∧
         CallH Tryz.prog 20 ⟨[.agg sane5A7]⟩ (sane5H1 B2 d2 d2tp d2tc d2bp d2bc d2ap d2ac B1 d1 d1tp d1tc d1bp d1bc d1ap d1ac B d dtp dtc dbp dbc dap dac F2) [] w0 (fun v L' => ∃ (r121 : Bool), v = (.bool r121) ∧ L' = (sane5H1 B2 d2 d2tp d2tc d2bp d2bc d2ap d2ac B1 d1 d1tp d1tc d1bp d1bc d1ap d1ac B d dtp dtc dbp dbc dap dac F2) ∧
          ∀ B3 : Nat,
          ∀ B4 : Nat,
          CallH Tryz.prog 20 ⟨[.agg (sane5A5 B3 B4)]⟩ (sane5H2 B4 B3 B2 d2 d2tp d2tc d2bp d2bc d2ap d2ac B1 d1 d1tp d1tc d1bp d1bc d1ap d1ac B d dtp dtc dbp dbc dap dac F2) [] w0 (fun v L' => ∃ (r131 : Bool), v = (.bool r131) ∧ L' = (sane5H2 B4 B3 B2 d2 d2tp d2tc d2bp d2bc d2ap d2ac B1 d1 d1tp d1tc d1bp d1bc d1ap d1ac B d dtp dtc dbp dbc dap dac F2) ∧
           CallH Tryz.prog 26 ⟨[.agg sane5A6]⟩ (sane5H2 B4 B3 B2 d2 d2tp d2tc d2bp d2bc d2ap d2ac B1 d1 d1tp d1tc d1bp d1bc d1ap d1ac B d dtp dtc dbp dbc dap dac F2) [] w0 (fun v L' => ∃ (z : Fct) (ztp : Option Addr) (ztc : Nat) (zbp : Option Addr) (zbc : Nat) (zap : Option Addr) (zac : Nat) (F3 : SHeap), v = (.agg (sane5A1 z ztp ztc zbp zbc zap zac)) ∧ L' = ((B4, .cells #[.int .i64 (1 : Int), .int .i64 (1 : Int), .string (⟨#[82,97,105,110]⟩), .int .i64 (0 : Int), .int .i64 (0 : Int), .int .i64 (0 : Int), .slice none 0 0, .int .i64 (0 : Int), .int .i64 (0 : Int)] 89) :: (B3, .cells #[.string (⟨#[97]⟩), .string (⟨#[98]⟩)] 9) :: (B2, .cells (sane5A4 d2 d2tp d2tc d2bp d2bc d2ap d2ac) 28) :: (B1, .cells (sane5A2 d1 d1tp d1tc d1bp d1bc d1ap d1ac) 28) :: (B, .cells (sane5A0 d dtp dtc dbp dbc dap dac) 28) :: F3) ∧
            ∀ B5 : Nat,
            CallH Tryz.prog 22 ⟨[.agg (sane5A1 z ztp ztc zbp zbc zap zac), .agg sane5A10]⟩ (sane5H0 B5 z ztp ztc zbp zbc zap zac B4 B3 B2 d2 d2tp d2tc d2bp d2bc d2ap d2ac B1 d1 d1tp d1tc d1bp d1bc d1ap d1ac B d dtp dtc dbp dbc dap dac F3) [] w0 (fun v L' => ∃ (r151 : Bool), v = (.bool r151) ∧ L' = (sane5H0 B5 z ztp ztc zbp zbc zap zac B4 B3 B2 d2 d2tp d2tc d2bp d2bc d2ap d2ac B1 d1 d1tp d1tc d1bp d1bc d1ap d1ac B d dtp dtc dbp dbc dap dac F3) ∧
             ((r1 = (⟨#[4,140,1,12,10]⟩ : ByteArray)) →
              ((r21 = (0 : Int)) →
               ((d.n = (2 : Int)) →
                ((d.story = (5 : Int)) →
                 ((ev = (0 : Int)) →
                  ((ev1 = (10 : Int)) →
                   ((ev2 = (50 : Int)) →
                    ((r101 = (50 : Int)) →
                     ((r111 = true) →
                      ((r121 = true) →
                       Fin R (sane5H0 B5 z ztp ztc zbp zbc zap zac B4 B3 B2 d2 d2tp d2tc d2bp d2bc d2ap d2ac B1 d1 d1tp d1tc d1bp d1bc d1ap d1ac B d dtp dtc dbp dbc dap dac F3) [] w0 (.bool false)) ∧
                       ((r121 = false) →
                       ((r131 = true) →
                        ((r151 = true) →
                         CallH Tryz.prog 22 ⟨[.agg (sane5A0 d dtp dtc dbp dbc dap dac), .agg (sane5A1 z ztp ztc zbp zbc zap zac)]⟩ (sane5H0 B5 z ztp ztc zbp zbc zap zac B4 B3 B2 d2 d2tp d2tc d2bp d2bc d2ap d2ac B1 d1 d1tp d1tc d1bp d1bc d1ap d1ac B d dtp dtc dbp dbc dap dac F3) [] w0 (fun v L' => ∃ (r161 : Bool), v = (.bool r161) ∧ L' = (sane5H0 B5 z ztp ztc zbp zbc zap zac B4 B3 B2 d2 d2tp d2tc d2bp d2bc d2ap d2ac B1 d1 d1tp d1tc d1bp d1bc d1ap d1ac B d dtp dtc dbp dbc dap dac F3) ∧
                          ((r161 = true) →
                           Fin R (sane5H0 B5 z ztp ztc zbp zbc zap zac B4 B3 B2 d2 d2tp d2tc d2bp d2bc d2ap d2ac B1 d1 d1tp d1tc d1bp d1bc d1ap d1ac B d dtp dtc dbp dbc dap dac F3) [] w0 (.bool false)) ∧
                           ((r161 = false) →
                           Fin R (sane5H0 B5 z ztp ztc zbp zbc zap zac B4 B3 B2 d2 d2tp d2tc d2bp d2bc d2ap d2ac B1 d1 d1tp d1tc d1bp d1bc d1ap d1ac B d dtp dtc dbp dbc dap dac F3) [] w0 (.bool true)))) ∧
                         ((r151 = false) →
                         Fin R (sane5H0 B5 z ztp ztc zbp zbc zap zac B4 B3 B2 d2 d2tp d2tc d2bp d2bc d2ap d2ac B1 d1 d1tp d1tc d1bp d1bc d1ap d1ac B d dtp dtc dbp dbc dap dac F3) [] w0 (.bool false))) ∧
                        ((r131 = false) →
                        Fin R (sane5H0 B5 z ztp ztc zbp zbc zap zac B4 B3 B2 d2 d2tp d2tc d2bp d2bc d2ap d2ac B1 d1 d1tp d1tc d1bp d1bc d1ap d1ac B d dtp dtc dbp dbc dap dac F3) [] w0 (.bool false)))) ∧
                      ((r111 = false) →
                      Fin R (sane5H0 B5 z ztp ztc zbp zbc zap zac B4 B3 B2 d2 d2tp d2tc d2bp d2bc d2ap d2ac B1 d1 d1tp d1tc d1bp d1bc d1ap d1ac B d dtp dtc dbp dbc dap dac F3) [] w0 (.bool false))) ∧
                     ((¬ (r101 = (50 : Int))) →
                     Fin R (sane5H0 B5 z ztp ztc zbp zbc zap zac B4 B3 B2 d2 d2tp d2tc d2bp d2bc d2ap d2ac B1 d1 d1tp d1tc d1bp d1bc d1ap d1ac B d dtp dtc dbp dbc dap dac F3) [] w0 (.bool false))) ∧
                    ((¬ (ev2 = (50 : Int))) →
                    Fin R (sane5H0 B5 z ztp ztc zbp zbc zap zac B4 B3 B2 d2 d2tp d2tc d2bp d2bc d2ap d2ac B1 d1 d1tp d1tc d1bp d1bc d1ap d1ac B d dtp dtc dbp dbc dap dac F3) [] w0 (.bool false))) ∧
                   ((¬ (ev1 = (10 : Int))) →
                   Fin R (sane5H0 B5 z ztp ztc zbp zbc zap zac B4 B3 B2 d2 d2tp d2tc d2bp d2bc d2ap d2ac B1 d1 d1tp d1tc d1bp d1bc d1ap d1ac B d dtp dtc dbp dbc dap dac F3) [] w0 (.bool false))) ∧
                  ((¬ (ev = (0 : Int))) →
                  Fin R (sane5H0 B5 z ztp ztc zbp zbc zap zac B4 B3 B2 d2 d2tp d2tc d2bp d2bc d2ap d2ac B1 d1 d1tp d1tc d1bp d1bc d1ap d1ac B d dtp dtc dbp dbc dap dac F3) [] w0 (.bool false))) ∧
                 ((¬ (d.story = (5 : Int))) →
                 Fin R (sane5H0 B5 z ztp ztc zbp zbc zap zac B4 B3 B2 d2 d2tp d2tc d2bp d2bc d2ap d2ac B1 d1 d1tp d1tc d1bp d1bc d1ap d1ac B d dtp dtc dbp dbc dap dac F3) [] w0 (.bool false))) ∧
                ((¬ (d.n = (2 : Int))) →
                Fin R (sane5H0 B5 z ztp ztc zbp zbc zap zac B4 B3 B2 d2 d2tp d2tc d2bp d2bc d2ap d2ac B1 d1 d1tp d1tc d1bp d1bc d1ap d1ac B d dtp dtc dbp dbc dap dac F3) [] w0 (.bool false))) ∧
               ((¬ (r21 = (0 : Int))) →
               Fin R (sane5H0 B5 z ztp ztc zbp zbc zap zac B4 B3 B2 d2 d2tp d2tc d2bp d2bc d2ap d2ac B1 d1 d1tp d1tc d1bp d1bc d1ap d1ac B d dtp dtc dbp dbc dap dac F3) [] w0 (.bool false))) ∧
              ((¬ r1 = (⟨#[4,140,1,12,10]⟩ : ByteArray)) →
              Fin R (sane5H0 B5 z ztp ztc zbp zbc zap zac B4 B3 B2 d2 d2tp d2tc d2bp d2bc d2ap d2ac B1 d1 d1tp d1tc d1bp d1bc d1ap d1ac B d dtp dtc dbp dbc dap dac F3) [] w0 (.bool false))))))))))))) :
  Calls Tryz.prog 17 ⟨[]⟩ W R := by
 refine AtE.calls (nt := 103) Tryz.func17 (by kernel_rfl) hm ?_
 refine AtE.ru 7 ?_
 refine AtE.call 19 ⟨[.agg sane5A9]⟩ (fun W => by kernel_rfl) (by kernel_rfl) H ?_
 clear H
 rintro _ _ ⟨r1, r21, rfl, rfl, H⟩
 refine AtE.ru 8 ?_
 refine AtE.call 21 ⟨[.string (⟨#[4,140,1,12,10]⟩)]⟩ (fun W => by kernel_rfl) (by kernel_rfl) H ?_
 clear H
 rintro _ F ⟨d, dtp, dtc, dbp, dbc, dap, dac, ev, _, rfl, rfl, H⟩
 refine AtE.ru 3 ?_
 refine AtE.new (fun B => .pointer (some ⟨B, 0, none⟩)) (.cells sane5A3 28) (fun W => by kernel_rfl) (by kernel_rfl) (fun B => ?_)
 replace H := H B
 refine AtE.front ?_
 refine AtE.store 0 0 (T := 28) (v := .agg (sane5A0 d dtp dtc dbp dbc dap dac)) (by kernel_rfl) ?_
 refine AtE.ru 4 ?_
 refine AtE.call 21 ⟨[.string (⟨#[4,140,1,12,10,0]⟩)]⟩ (fun W => by kernel_rfl) (by kernel_rfl) H ?_
 clear H
 rintro _ _ ⟨d1, d1tp, d1tc, d1bp, d1bc, d1ap, d1ac, ev1, F1, rfl, rfl, H⟩
 refine AtE.ru 3 ?_
 refine AtE.new (fun B => .pointer (some ⟨B, 0, none⟩)) (.cells sane5A3 28) (fun W => by kernel_rfl) (by kernel_rfl) (fun B1 => ?_)
 replace H := H B1
 refine AtE.front ?_
 refine AtE.store 0 0 (T := 28) (v := .agg (sane5A2 d1 d1tp d1tc d1bp d1bc d1ap d1ac)) (by kernel_rfl) ?_
 refine AtE.norm (k' := [.inRegion (regOps [.code (sub (Eng.body Tryz.f17) [1,1,1,0])]) [6], .code (sub (Eng.body Tryz.f17) [1,1,1,1])]) (e' := [(1, .string r1), (2, .int .i64 r21), (3, .pointer (some ⟨B, 0, none⟩)), (4, .int .i64 ev), (28, .int .i64 ev1)]) (L' := (sane5H3 B1 d1 d1tp d1tc d1bp d1bc d1ap d1ac B d dtp dtc dbp dbc dap dac F1)) ?_ (by kernel_rfl)
 refine AtE.ru 4 ?_
 refine AtE.call 21 ⟨[.string (⟨#[4,140,1,22,10]⟩)]⟩ (fun W => by kernel_rfl) (by kernel_rfl) H ?_
 clear H
 rintro _ _ ⟨d2, d2tp, d2tc, d2bp, d2bc, d2ap, d2ac, ev2, F2, rfl, rfl, H⟩
 refine AtE.ru 3 ?_
 refine AtE.new (fun B => .pointer (some ⟨B, 0, none⟩)) (.cells sane5A3 28) (fun W => by kernel_rfl) (by kernel_rfl) (fun B2 => ?_)
 replace H := H B2
 refine AtE.front ?_
 refine AtE.store 0 0 (T := 28) (v := .agg (sane5A4 d2 d2tp d2tc d2bp d2bc d2ap d2ac)) (by kernel_rfl) ?_
 refine AtE.ru 5 ?_
 refine AtE.call 19 ⟨[.agg sane5A8]⟩ (fun W => by kernel_rfl) (by kernel_rfl) H ?_
 clear H
 rintro _ _ ⟨r91, r101, rfl, rfl, H⟩
 refine AtE.ru 9 ?_
 refine AtE.call 20 ⟨[.agg sane5A11]⟩ (fun W => by kernel_rfl) (by kernel_rfl) H ?_
 clear H
 rintro _ _ ⟨r111, rfl, rfl, H⟩
 refine AtE.ru 5 ?_
 refine AtE.call 20 ⟨[.agg sane5A7]⟩ (fun W => by kernel_rfl) (by kernel_rfl) H ?_
 clear H
 rintro _ _ ⟨r121, rfl, rfl, H⟩
 refine AtE.ru 4 ?_
 refine AtE.new (fun B => .slice (some ⟨B, 0, none⟩) 2 2) (.cells #[.string (⟨#[97]⟩), .string (⟨#[98]⟩)] 9) (fun W => by kernel_rfl) (by kernel_rfl) (fun B3 => ?_)
 replace H := H B3
 refine AtE.front ?_
 refine AtE.norm (k' := [.inRegion (regOps [.code (sub (Eng.body Tryz.f17) [1,1,1,1,1,1,1,1,0])]) [1,2,3,4,5], .code (sub (Eng.body Tryz.f17) [1,1,1,1,1,1,1,1,1])]) (e' := [(1, .string r1), (2, .int .i64 r21), (3, .pointer (some ⟨B, 0, none⟩)), (4, .int .i64 ev), (6, .int .i64 ev1), (8, .int .i64 ev2), (10, .int .i64 r101), (11, .bool r111), (12, .bool r121), (42, .slice (some ⟨B3, 0, none⟩) 2 2)]) (L' := ((B3, .cells #[.string (⟨#[97]⟩), .string (⟨#[98]⟩)] 9) :: (B2, .cells (sane5A4 d2 d2tp d2tc d2bp d2bc d2ap d2ac) 28) :: (B1, .cells (sane5A2 d1 d1tp d1tc d1bp d1bc d1ap d1ac) 28) :: (B, .cells (sane5A0 d dtp dtc dbp dbc dap dac) 28) :: F2)) ?_ (by kernel_rfl)
 refine AtE.ru 1 ?_
 refine AtE.new (fun B => .slice (some ⟨B, 0, none⟩) 1 1) (.cells #[.int .i64 (1 : Int), .int .i64 (1 : Int), .string (⟨#[82,97,105,110]⟩), .int .i64 (0 : Int), .int .i64 (0 : Int), .int .i64 (0 : Int), .slice none 0 0, .int .i64 (0 : Int), .int .i64 (0 : Int)] 89) (fun W => by kernel_rfl) (by kernel_rfl) (fun B4 => ?_)
 replace H := H B4
 refine AtE.front ?_
 refine AtE.ru 1 ?_
 refine AtE.call 20 ⟨[.agg (sane5A5 B3 B4)]⟩ (fun W => by kernel_rfl) (by kernel_rfl) H ?_
 clear H
 rintro _ _ ⟨r131, rfl, rfl, H⟩
 refine AtE.ru 5 ?_
 refine AtE.call 26 ⟨[.agg sane5A6]⟩ (fun W => by kernel_rfl) (by kernel_rfl) H ?_
 clear H
 rintro _ _ ⟨z, ztp, ztc, zbp, zbc, zap, zac, F3, rfl, rfl, H⟩
 refine AtE.new (fun B => .pointer (some ⟨B, 0, none⟩)) (.cells sane5A3 28) (fun W => by kernel_rfl) (by kernel_rfl) (fun B5 => ?_)
 replace H := H B5
 refine AtE.front ?_
 refine AtE.store 0 0 (T := 28) (v := .agg (sane5A1 z ztp ztc zbp zbc zap zac)) (by kernel_rfl) ?_
 refine AtE.ru 3 ?_
 refine AtE.load 0 0 (T := 28) (v := .agg (sane5A1 z ztp ztc zbp zbc zap zac)) (by kernel_rfl) ?_
 refine AtE.ru 1 ?_
 refine AtE.call 22 ⟨[.agg (sane5A1 z ztp ztc zbp zbc zap zac), .agg sane5A10]⟩ (fun W => by kernel_rfl) (by kernel_rfl) H ?_
 clear H
 rintro _ _ ⟨r151, rfl, rfl, H⟩
 refine AtE.norm (k' := [.inRegion (regOps [.code (sub (Eng.body Tryz.f17) [1,1,1,1,1,1,1,1,1,1,0])]) [3], .code (sub (Eng.body Tryz.f17) [1,1,1,1,1,1,1,1,1,1,1])]) (e' := [(1, .string r1), (2, .int .i64 r21), (3, .pointer (some ⟨B, 0, none⟩)), (4, .int .i64 ev), (6, .int .i64 ev1), (8, .int .i64 ev2), (10, .int .i64 r101), (11, .bool r111), (12, .bool r121), (13, .bool r131), (14, .pointer (some ⟨B5, 0, none⟩)), (51, .bool r151)]) (L' := (sane5H0 B5 z ztp ztc zbp zbc zap zac B4 B3 B2 d2 d2tp d2tc d2bp d2bc d2ap d2ac B1 d1 d1tp d1tc d1bp d1bc d1ap d1ac B d dtp dtc dbp dbc dap dac F3)) ?_ (by kernel_rfl)
 refine AtE.ru 7 ?_
 refine AtE.splitS 54 (x := r1) (y := (⟨#[4,140,1,12,10]⟩ : ByteArray)) (by kernel_rfl) (fun h1' => ?_) (fun h1' => ?_)
 ·replace H := H.1 h1'
  refine AtE.ru 4 ?_
  refine AtE.splitP 58 (p := r21 = (0 : Int)) (by kernel_rfl) (fun h2' => ?_) (fun h2' => ?_)
  ·replace H := H.1 h2'
   refine AtE.ru 1 ?_
   refine AtE.load 5 0 (T := 3) (v := .int .i64 d.n) (by kernel_rfl) ?_
   refine AtE.ru 3 ?_
   refine AtE.splitP 63 (p := d.n = (2 : Int)) (by kernel_rfl) (fun h3' => ?_) (fun h3' => ?_)
   ·replace H := H.1 h3'
    refine AtE.ru 1 ?_
    refine AtE.load 5 3 (T := 3) (v := .int .i64 d.story) (by kernel_rfl) ?_
    refine AtE.ru 3 ?_
    refine AtE.splitP 68 (p := d.story = (5 : Int)) (by kernel_rfl) (fun h4' => ?_) (fun h4' => ?_)
    ·replace H := H.1 h4'
     refine AtE.ru 4 ?_
     refine AtE.splitP 72 (p := ev = (0 : Int)) (by kernel_rfl) (fun h5' => ?_) (fun h5' => ?_)
     ·replace H := H.1 h5'
      refine AtE.norm (k' := [.inRegion (regOps [.code (sub (Eng.body Tryz.f17) [1,1,1,1,1,1,1,1,1,1,1,0])]) [21,22,23,24,25,26,27,28,29,30,31,32,33,34,35,36,37,38,39,40,41,42,43,44,45,46,47,48,49,50,51], .code (sub (Eng.body Tryz.f17) [1,1,1,1,1,1,1,1,1,1,1,1])]) (e' := [(3, .pointer (some ⟨B, 0, none⟩)), (6, .int .i64 ev1), (8, .int .i64 ev2), (10, .int .i64 r101), (11, .bool r111), (12, .bool r121), (13, .bool r131), (14, .pointer (some ⟨B5, 0, none⟩)), (15, .bool r151), (72, .bool true)]) (L' := (sane5H0 B5 z ztp ztc zbp zbc zap zac B4 B3 B2 d2 d2tp d2tc d2bp d2bc d2ap d2ac B1 d1 d1tp d1tc d1bp d1bc d1ap d1ac B d dtp dtc dbp dbc dap dac F3)) ?_ (by kernel_rfl)
      refine AtE.ru 4 ?_
      refine AtE.splitP 76 (p := ev1 = (10 : Int)) (by kernel_rfl) (fun h6' => ?_) (fun h6' => ?_)
      ·replace H := H.1 h6'
       refine AtE.ru 4 ?_
       refine AtE.splitP 80 (p := ev2 = (50 : Int)) (by kernel_rfl) (fun h7' => ?_) (fun h7' => ?_)
       ·replace H := H.1 h7'
        refine AtE.ru 4 ?_
        refine AtE.splitP 84 (p := r101 = (50 : Int)) (by kernel_rfl) (fun h8' => ?_) (fun h8' => ?_)
        ·replace H := H.1 h8'
         refine AtE.ru 3 ?_
         refine AtE.split 87 (b := r111) (by kernel_rfl) (fun h9' => ?_) (fun h9' => ?_)
         ·replace H := H.1 h9'
          refine AtE.ru 1 ?_
          refine AtE.split 88 (b := r121) (by kernel_rfl) (fun h10' => ?_) (fun h10' => ?_)
          ·replace H := H.1 h10'
           refine AtE.ru 16 ?_
           exact AtE.ret Tryz.func17 (by kernel_rfl) H
          ·replace H := H.2 h10'
           refine AtE.ru 6 ?_
           refine AtE.split 94 (b := r131) (by kernel_rfl) (fun h11' => ?_) (fun h11' => ?_)
           ·replace H := H.1 h11'
            refine AtE.ru 3 ?_
            refine AtE.split 97 (b := r151) (by kernel_rfl) (fun h12' => ?_) (fun h12' => ?_)
            ·replace H := H.1 h12'
             refine AtE.norm (k' := [.inRegion (regOps [.code (sub (Eng.body Tryz.f17) [1,1,1,1,1,1,1,1,1,1,1,0])]) [46,47,48,49,50,51], .code (sub (Eng.body Tryz.f17) [1,1,1,1,1,1,1,1,1,1,1,1])]) (e' := [(3, .pointer (some ⟨B, 0, none⟩)), (14, .pointer (some ⟨B5, 0, none⟩)), (97, .bool true)]) (L' := (sane5H0 B5 z ztp ztc zbp zbc zap zac B4 B3 B2 d2 d2tp d2tc d2bp d2bc d2ap d2ac B1 d1 d1tp d1tc d1bp d1bc d1ap d1ac B d dtp dtc dbp dbc dap dac F3)) ?_ (by kernel_rfl)
             refine AtE.load 5 0 (T := 28) (v := .agg (sane5A0 d dtp dtc dbp dbc dap dac)) (by kernel_rfl) ?_
             refine AtE.load 0 0 (T := 28) (v := .agg (sane5A1 z ztp ztc zbp zbc zap zac)) (by kernel_rfl) ?_
             refine AtE.call 22 ⟨[.agg (sane5A0 d dtp dtc dbp dbc dap dac), .agg (sane5A1 z ztp ztc zbp zbc zap zac)]⟩ (fun W => by kernel_rfl) (by kernel_rfl) H ?_
             clear H
             rintro _ _ ⟨r161, rfl, rfl, H⟩
             refine AtE.split 100 (b := r161) (by kernel_rfl) (fun h13' => ?_) (fun h13' => ?_)
             ·replace H := H.1 h13'
              refine AtE.ru 4 ?_
              exact AtE.ret Tryz.func17 (by kernel_rfl) H
             ·replace H := H.2 h13'
              refine AtE.ru 4 ?_
              exact AtE.ret Tryz.func17 (by kernel_rfl) H
            ·replace H := H.2 h12'
             refine AtE.norm (k' := [.inRegion (regOps [.code (sub (Eng.body Tryz.f17) [1,1,1,1,1,1,1,1,1,1,1,0])]) [46,47,48,49,50,51], .code (sub (Eng.body Tryz.f17) [1,1,1,1,1,1,1,1,1,1,1,1])]) (e' := [(3, .pointer (some ⟨B, 0, none⟩)), (14, .pointer (some ⟨B5, 0, none⟩)), (97, .bool false)]) (L' := (sane5H0 B5 z ztp ztc zbp zbc zap zac B4 B3 B2 d2 d2tp d2tc d2bp d2bc d2ap d2ac B1 d1 d1tp d1tc d1bp d1bc d1ap d1ac B d dtp dtc dbp dbc dap dac F3)) ?_ (by kernel_rfl)
             refine AtE.ru 7 ?_
             exact AtE.ret Tryz.func17 (by kernel_rfl) H
           ·replace H := H.2 h11'
            refine AtE.ru 10 ?_
            exact AtE.ret Tryz.func17 (by kernel_rfl) H
         ·replace H := H.2 h9'
          refine AtE.ru 17 ?_
          exact AtE.ret Tryz.func17 (by kernel_rfl) H
        ·replace H := H.2 h8'
         refine AtE.ru 20 ?_
         exact AtE.ret Tryz.func17 (by kernel_rfl) H
       ·replace H := H.2 h7'
        refine AtE.ru 24 ?_
        exact AtE.ret Tryz.func17 (by kernel_rfl) H
      ·replace H := H.2 h6'
       refine AtE.ru 28 ?_
       exact AtE.ret Tryz.func17 (by kernel_rfl) H
     ·replace H := H.2 h5'
      refine AtE.norm (k' := [.inRegion (regOps [.code (sub (Eng.body Tryz.f17) [1,1,1,1,1,1,1,1,1,1,1,0])]) [21,22,23,24,25,26,27,28,29,30,31,32,33,34,35,36,37,38,39,40,41,42,43,44,45,46,47,48,49,50,51], .code (sub (Eng.body Tryz.f17) [1,1,1,1,1,1,1,1,1,1,1,1])]) (e' := [(3, .pointer (some ⟨B, 0, none⟩)), (6, .int .i64 ev1), (8, .int .i64 ev2), (10, .int .i64 r101), (11, .bool r111), (12, .bool r121), (13, .bool r131), (14, .pointer (some ⟨B5, 0, none⟩)), (15, .bool r151), (72, .bool false)]) (L' := (sane5H0 B5 z ztp ztc zbp zbc zap zac B4 B3 B2 d2 d2tp d2tc d2bp d2bc d2ap d2ac B1 d1 d1tp d1tc d1bp d1bc d1ap d1ac B d dtp dtc dbp dbc dap dac F3)) ?_ (by kernel_rfl)
      refine AtE.ru 32 ?_
      exact AtE.ret Tryz.func17 (by kernel_rfl) H
    ·replace H := H.2 h4'
     refine AtE.ru 36 ?_
     exact AtE.ret Tryz.func17 (by kernel_rfl) H
   ·replace H := H.2 h3'
    refine AtE.ru 41 ?_
    exact AtE.ret Tryz.func17 (by kernel_rfl) H
  ·replace H := H.2 h2'
   refine AtE.ru 46 ?_
   exact AtE.ret Tryz.func17 (by kernel_rfl) H
 ·replace H := H.2 h1'
  refine AtE.ru 50 ?_
  exact AtE.ret Tryz.func17 (by kernel_rfl) H
end Go.Eng
namespace Go.Eng
open Go Go.RowKit Go.Proofs Wire
set_option linter.unusedVariables false
theorem CallH.addF {P : Program} {g : FuncId} {args : Array Value} {S : List Nat} {w0 : World} {K K' : Value → SHeap → Prop} (told : SHeap) {F : SHeap} (h : EffC P g args [] K) (hK : ∀ v F', K v F' → K' v (told ++ (F' ++ F))) : CallH P g args (told ++ F) S w0 K' :=
  CallH.eff (L1 := told ++ F) h (List.Perm.refl _) fun v L' hk => ⟨told ++ (L' ++ F), List.perm_append_comm_assoc _ _ _, hK v L' hk⟩
theorem decE_e {s : ByteArray} {r : Fct × Int} (hs : s.size < 4611686018427387904) (h : decF (bts s) = r) : EffC Tryz.prog 21 ⟨[.string s]⟩ [] (DecFOut r) := h ▸ fDecode_e hs
theorem lkF_cons {F : SHeap} {x : Nat × Obj} : ∀ b c, lkF F b c → lkF (x :: F) b c := lkF_mono fun _ hx => List.mem_cons_of_mem _ hx
theorem FAt.L {F L : SHeap} {S : List Nat} {w0 W : World} {f : Fct} {tp : Option Addr} {tc : Nat} {bp : Option Addr} {bc : Nat} {ap : Option Addr} {ac : Nat} (h : FAt (lkF L) f tp tc bp bc ap ac) (hm : Mem L S w0 W) : FAt (lkW W) f tp tc bp bc ap ac :=
  h.mono (lkF_W hm fun x hx => hx)
theorem enc_ok {f : Fct} (h : f.ok = true) : encFAns f = .tuple #[.string (ba (encF f)), .int .i64 0] := if_pos h
theorem enc_no {f : Fct} (h : f.ok = false) : encFAns f = .tuple #[.string ⟨#[]⟩, .int .i64 50] := if_neg (by rw [h]; decide)
def goneF (f : Fct) : Fct := ⟨f.n, f.time, 10, f.story, e0, 0, 0, e0, e0, [], [], Lab.zero, 0, 0, 0, e0, e0, 0, 0, 0⟩
def aboutB (k : Int) : Bool := decide (k = 1 ∨ k = 4 ∨ k = 5)
theorem goneAt {lk : Lk} {f : Fct} : FAt lk (goneF f) none 0 none 0 none 0 := noLists rfl rfl rfl ⟨e0_sz, e0_sz, e0_sz, e0_sz, e0_sz⟩
def RedG (f : Fct) (v : Value) (F : SHeap) : Prop := v = .agg ⟨(goneF f).cells none 0 none 0 none 0⟩
theorem gone_e {f : Fct} {tp bp ap : Option Addr} {tc bc ac : Nat} (hk : aboutB f.kind = true) : EffC Tryz.prog 26 ⟨[.agg ⟨f.cells tp tc bp bc ap ac⟩]⟩ [] (RedG f) := by
  intro W hm
  have hk := of_decide_eq_true hk
  refine fRedact_vc f tp tc bp bc ap ac [] hm fun B B1 => ⟨fun _ => ?_, fun h1 => ⟨fun _ => ?_, fun h2 => ⟨fun _ => ?_, fun h3 => absurd hk (by omega)⟩⟩⟩
  all_goals exact fun W' hm' => ⟨_, _, rfl, hm', rfl⟩
def sfA : Fct := ⟨2, 70, 6, 5, e0, 0, 0, e0, e0, [], [], Lab.zero, 0, 0, 0, e0, e0, 0, 0, 0⟩
def sfB : Fct := ⟨2, 70, 6, 65, e0, 0, 0, e0, e0, [], [], Lab.zero, 0, 0, 0, e0, e0, 0, 0, 0⟩
def sfC : Fct := ⟨1, 0, 2, 3, e0, 0, 0, e0, e0, [], [], Lab.zero, 2, 0, 0, e0, e0, 0, 0, 0⟩
def sfD : Fct := ⟨1, 0, 2, 3, ⟨#[101, 110]⟩, 0, 0, e0, e0, [], [], Lab.zero, 2, 0, 0, e0, e0, 0, 0, 0⟩
def sbE : Blk := ⟨1, 1, ⟨#[82, 97, 105, 110]⟩, 0, 0, Lab.zero⟩
def sfE : Fct := ⟨0, 0, 1, 1, ⟨#[101, 110]⟩, 1, 0, ⟨#[82, 97, 105, 110]⟩, ⟨#[97, 110, 110]⟩, [⟨#[97]⟩, ⟨#[98]⟩], [sbE], Lab.zero, 0, 0, 0, e0, e0, 0, 0, 0⟩
def sfG : Fct := ⟨9, 5, 4, 2, ⟨#[101, 110]⟩, 0, 0, e0, e0, [], [], Lab.zero, 0, 1, 0, ⟨#[78, 111, 46]⟩, e0, 0, 0, 0⟩
theorem sfA_ok : sfA.ok = true := by kernel_rfl
theorem sfA_enc : ba (encF sfA) = (⟨#[4, 140, 1, 12, 10]⟩ : ByteArray) := by kernel_rfl
theorem sfA_dec : decF (bts ⟨#[4, 140, 1, 12, 10]⟩) = (sfA, 0) := by rw [← sfA_enc, bts_mk]; exact decF_enc sfA_ok
theorem sfA_more : decF (bts ⟨#[4, 140, 1, 12, 10, 0]⟩) = (Fct.zero, 10) := by
  have : bts (⟨#[4, 140, 1, 12, 10, 0]⟩ : ByteArray) = encF sfA ++ [0] := by kernel_rfl
  rw [this]; exact decF_more sfA_ok (by decide)
theorem sfB_dec : decF (bts ⟨#[4, 140, 1, 22, 10]⟩) = (Fct.zero, 50) := by kernel_rfl
theorem sfB_no : sfB.ok = false := by kernel_rfl
theorem sfC_ok : sfC.ok = true := by kernel_rfl
theorem sfD_no : sfD.ok = false := by kernel_rfl
theorem sfE_ok : sfE.ok = true := by kernel_rfl
theorem sfE_at {lk : Lk} {B3 B4 : Nat} (h3 : lk B3 [.string ⟨#[97]⟩, .string ⟨#[98]⟩]) (h4 : lk B4 (sbE.cells none 0)) : FAt lk sfE (some ⟨B3, 0, none⟩) 2 (some ⟨B4, 0, none⟩) 1 none 0 :=
  ⟨strs_at h3, fun _ => ⟨B4, 0, _, rfl, h4, fun i hi => by
    match i, hi with
    | 0, _ => exact ⟨by decide, none, 0, rfl, fun h => absurd (show 0 < sbE.lab.after.length from h) (by decide), show sbE.text.size ≤ 9223372036854775807 by decide, show sbE.lab.after.length ≤ 9223372036854775807 by decide⟩⟩, fun h => absurd h (by decide), by decide, by decide, by decide, by decide, ⟨by decide, by decide⟩, by decide, by decide⟩
theorem sane_c5 : PureC Tryz.prog 17 ⟨[]⟩ (.bool true) := by
  intro W
  refine sane5_vc (Mem.start [] W) ?_
  have hA : ∀ lk : Lk, FAt lk sfA none 0 none 0 none 0 := fun lk => noLists rfl rfl rfl ⟨e0_sz, e0_sz, e0_sz, e0_sz, e0_sz⟩
  have hB : ∀ lk : Lk, FAt lk sfB none 0 none 0 none 0 := fun lk => noLists rfl rfl rfl ⟨e0_sz, e0_sz, e0_sz, e0_sz, e0_sz⟩
  have hC : ∀ lk : Lk, FAt lk sfC none 0 none 0 none 0 := fun lk => noLists rfl rfl rfl ⟨e0_sz, e0_sz, e0_sz, e0_sz, e0_sz⟩
  have hD : ∀ lk : Lk, FAt lk sfD none 0 none 0 none 0 := fun lk => noLists rfl rfl rfl ⟨by decide, e0_sz, e0_sz, e0_sz, e0_sz⟩
  refine CallH.pw (v := encFAns sfA) (fun W' hm' => fEncode_c (hA _)) ⟨⟨#[4, 140, 1, 12, 10]⟩, 0, by rw [enc_ok sfA_ok, sfA_enc], rfl, ?_⟩
  refine CallH.addF [] (F := []) (decE_e (by decide) sfA_dec) ?_
  rintro _ F ⟨tp, tc, bp, bc, ap, ac, rfl, h0⟩
  refine ⟨sfA, tp, tc, bp, bc, ap, ac, 0, _, rfl, rfl, fun B => ?_⟩
  refine CallH.addF [_] (decE_e (by decide) sfA_more) ?_
  rintro _ F1 ⟨tp1, tc1, bp1, bc1, ap1, ac1, rfl, h1⟩
  refine ⟨Fct.zero, tp1, tc1, bp1, bc1, ap1, ac1, 10, _, rfl, rfl, fun B1 => ?_⟩
  refine CallH.addF [_, _] (decE_e (by decide) sfB_dec) ?_
  rintro _ F2 ⟨tp2, tc2, bp2, bc2, ap2, ac2, rfl, h2⟩
  refine ⟨Fct.zero, tp2, tc2, bp2, bc2, ap2, ac2, 50, _, rfl, rfl, fun B2 => ?_⟩
  refine CallH.pw (v := encFAns sfB) (fun W' hm' => fEncode_c (hB _)) ⟨⟨#[]⟩, 50, by rw [enc_no sfB_no], rfl, ?_⟩
  refine CallH.pw (v := .bool sfC.ok) (fun W' hm' => fValid_c (hC _)) ⟨true, by rw [sfC_ok], rfl, ?_⟩
  refine CallH.pw (v := .bool sfD.ok) (fun W' hm' => fValid_c (hD _)) ⟨false, by rw [sfD_no], rfl, fun B3 B4 => ?_⟩
  refine CallH.pw (v := .bool sfE.ok) (fun W' hm' => fValid_c (sfE_at (lkM_kept hm' _ _ (.inl ⟨_, _, List.mem_cons_of_mem _ List.mem_cons_self⟩)) (lkM_kept hm' _ _ (.inl ⟨_, _, List.mem_cons_self⟩)))) ⟨true, by rw [sfE_ok], rfl, ?_⟩
  refine CallH.addF [_, _, _, _, _] (gone_e (f := sfG) (tp := none) (tc := 0) (bp := none) (bc := 0) (ap := none) (ac := 0) (by decide)) ?_
  rintro _ F3 rfl
  refine ⟨goneF sfG, none, 0, none, 0, none, 0, _, rfl, rfl, fun B5 => ?_⟩
  refine CallH.pw (fun W' hm' => fSame_c (x := goneF sfG) (y := goneF sfG) goneAt goneAt) ⟨_, rfl, rfl, ?_⟩
  refine yes rfl (yes rfl (yes rfl (yes rfl (yes rfl (yes rfl (yes rfl (yes rfl (tt rfl (ff rfl (tt rfl (tt (by simp) ?_)))))))))))
  refine CallH.pw (fun W' hm' => fSame_c (x := sfA) (y := goneF sfG) (h0.mono fun b c h => ?_) goneAt) ⟨_, rfl, rfl, ff (by decide) (finPure rfl)⟩
  refine lkF_W hm' (fun x hx => ?_) b c h
  simp [hx]
end Go.Eng
namespace Go.Eng
open Go Go.RowKit Go.Proofs Wire
set_option linter.unusedVariables false
def BlkLc (lk : Lk) (cs : List Value) (b : Blk) : Prop := ∃ p c, cs = b.cells p c ∧ IntsL lk p b.lab.after ∧ b.Fits ∧ b.lab.after.length ≤ c
structure FArg (lk : Lk) (f : Fct) (tp : Option Addr) (tc : Nat) (bp : Option Addr) (bc : Nat) (ap : Option Addr) (ac : Nat) : Prop where
  tops : StrsL lk tp f.topics
  blks : SlAt lk 9 (BlkLc lk) bp f.blocks
  ints : IntsL lk ap f.lab.after
  ct : f.topics.length ≤ tc
  cb : f.blocks.length ≤ bc
  ca : f.lab.after.length ≤ ac
  fits : f.Fits
theorem BlkLc.mono {lk lk' : Lk} {cs : List Value} {b : Blk} (h : BlkLc lk cs b) (hl : ∀ b c, lk b c → lk' b c) : BlkLc lk' cs b := by
  obtain ⟨p, c, e, h1, h2, h3⟩ := h
  exact ⟨p, c, e, h1.mono hl, h2, h3⟩
theorem FArg.mono {lk lk' : Lk} {f : Fct} {tp : Option Addr} {tc : Nat} {bp : Option Addr} {bc : Nat} {ap : Option Addr} {ac : Nat} (h : FArg lk f tp tc bp bc ap ac) (hl : ∀ b c, lk b c → lk' b c) : FArg lk' f tp tc bp bc ap ac :=
  ⟨h.tops.mono hl, SlAt.mono h.blks hl fun _ _ _ hb => hb.mono hl, h.ints.mono hl, h.ct, h.cb, h.ca, h.fits⟩
def cutT (s : ByteArray) (n : Nat) : ByteArray := s.extract 0 (min s.size n)
theorem cutT_size (s : ByteArray) (n : Nat) : (cutT s n).size = min n s.size := by
  rw [cutT, ByteArray.size_extract]; omega
def fewB (b : Blk) : Blk := { b with text := cutT b.text 400, lab := { b.lab with after := b.lab.after.take 70 } }
def fewF (f : Fct) : Fct := { f with title := cutT f.title 400, text := cutT f.text 1200, topics := f.topics.take 6, blocks := (f.blocks.take 26).map fewB, lab := { f.lab with after := f.lab.after.take 70 } }
theorem cut_if {s : ByteArray} {n : Nat} {i : Int} (hi : i = (n : Int)) : s.extract 0 (Int.toNat (if i < (s.size : Int) then i else (s.size : Int))) = cutT s n := by
  subst hi
  have : Int.toNat (if (n : Int) < (s.size : Int) then (n : Int) else (s.size : Int)) = min s.size n := by split <;> omega
  rw [this, cutT]
theorem take_if {α : Type} {l : List α} {n : Nat} {i : Int} (hi : i = (n : Int)) : Int.toNat (if i < (l.length : Int) then i else (l.length : Int)) = (l.take n).length := by
  subst hi
  rw [List.length_take]; split <;> omega
theorem IntsL.take {lk : Lk} {p : Option Addr} {l : List Int} (h : IntsL lk p l) (n : Nat) : IntsL lk p (l.take n) := by
  intro hp
  rw [List.length_take] at hp
  obtain ⟨b, o, c, h1, h2, h3⟩ := h (by omega)
  refine ⟨b, o, c, h1, h2, fun i hi => ?_⟩
  rw [List.length_take] at hi
  rw [h3 i (by omega), List.getElem_take]
theorem StrsL.take {lk : Lk} {p : Option Addr} {l : List ByteArray} (h : StrsL lk p l) (n : Nat) : StrsL lk p (l.take n) := by
  intro hp
  rw [List.length_take] at hp
  obtain ⟨b, o, c, h1, h2, h3⟩ := h (by omega)
  refine ⟨b, o, c, h1, h2, fun i hi => ?_⟩
  rw [List.length_take] at hi
  rw [h3 i (by omega), List.getElem_take]
theorem fewB_fits {b : Blk} (h : b.Fits) : (fewB b).Fits := ⟨by show (cutT b.text 400).size ≤ _; rw [cutT_size]; omega, by show (b.lab.after.take 70).length ≤ _; rw [List.length_take]; omega⟩
theorem fewF_fits {f : Fct} (h : f.Fits) : (fewF f).Fits :=
  ⟨⟨h.1.1, by show (cutT f.title 400).size ≤ _; rw [cutT_size]; omega, h.1.2.2.1, by show (cutT f.text 1200).size ≤ _; rw [cutT_size]; omega, h.1.2.2.2.2⟩,
    ⟨by show (f.topics.take 6).length ≤ _; rw [List.length_take]; omega, fun t ht => h.2.1.2 t (List.mem_of_mem_take ht)⟩, by show ((f.blocks.take 26).map fewB).length ≤ _; rw [List.length_map, List.length_take]; omega, by show (f.lab.after.take 70).length ≤ _; rw [List.length_take]; omega⟩
def BRowL (lk : Lk) (cs : List Value) (l : List Blk) : Prop := ∀ i (h : i < l.length), i * 9 + 9 ≤ cs.length ∧ BlkL lk ((cs.drop (i * 9)).take 9) l[i]
theorem BRowL.app {lk : Lk} {cs r : List Value} {l : List Blk} {b : Blk} {p : Option Addr} {c cap cap1 : Nat} (h : BRowL lk cs l) (h1 : l.length ≤ cap) (h2 : cs.length = cap * 9) (hb : IntsL lk p b.lab.after) (hf : b.Fits)
    (q1 : l.length + 1 ≤ cap1) (q2 : (cs.take (l.length * 9) ++ b.cells p c ++ r).length = cap1 * 9) : BRowL lk (cs.take (l.length * 9) ++ b.cells p c ++ r) (l ++ [b]) := by
  have hn : l.length * 9 ≤ cs.length := by rw [h2]; exact Nat.mul_le_mul_right _ h1
  intro i hi
  have hi' : i < l.length + 1 := by simpa using hi
  refine ⟨by rw [q2]; omega, ?_⟩
  rcases Nat.lt_or_ge i l.length with hlt | hge
  · rw [row_old hlt hn, List.getElem_append_left hlt]
    exact (h i hlt).2
  · have : i = l.length := by omega
    subst this
    rw [row_new hn rfl]
    simp only [List.getElem_append_right (Nat.le_refl _), Nat.sub_self, List.getElem_cons_zero]
    exact ⟨p, c, rfl, hb, hf⟩
theorem BRowL.one {lk : Lk} {r : List Value} {b : Blk} {p : Option Addr} {c cap : Nat} (hb : IntsL lk p b.lab.after) (hf : b.Fits) (q1 : 1 ≤ cap) (q2 : (b.cells p c ++ r).length = cap * 9) : BRowL lk (b.cells p c ++ r) [b] := by
  intro i hi
  have : i = 0 := by simp at hi; omega
  subst this
  refine ⟨by rw [q2]; omega, p, c, ?_, hb, hf⟩
  simp
def FewOut (lk : Lk) (r : Fct) (v : Value) (F : SHeap) : Prop := ∃ tp tc bp bc ap ac, v = .agg ⟨r.cells tp tc bp bc ap ac⟩ ∧ FAt (lkU F lk) r tp tc bp bc ap ac
theorem few_at {lk : Lk} {f : Fct} {tp bp ap : Option Addr} {tc bc ac : Nat} (h : FArg lk f tp tc bp bc ap ac) {F : SHeap} {p : Option Addr} {c : Nat} (hb : BlksL (lkU F lk) p (fewF f).blocks) (hc : (fewF f).blocks.length ≤ c) : FAt (lkU F lk) (fewF f) tp tc p c ap ac :=
  ⟨(h.tops.take 6).mono lkU_r, hb, (h.ints.take 70).mono lkU_r, Nat.le_trans (by show (f.topics.take 6).length ≤ f.topics.length; rw [List.length_take]; omega) h.ct, hc,
    Nat.le_trans (by show (f.lab.after.take 70).length ≤ f.lab.after.length; rw [List.length_take]; omega) h.ca, fewF_fits h.fits⟩
theorem fewF_len {f : Fct} : (fewF f).blocks.length = min 26 f.blocks.length := by show ((f.blocks.take 26).map fewB).length = _; rw [List.length_map, List.length_take]
theorem fewF_get {f : Fct} {i : Nat} (h : i < (fewF f).blocks.length) : (fewF f).blocks[i] = fewB (f.blocks[i]'(by rw [fewF_len] at h; omega)) := by
  simp [fewF]
theorem take_one_get {α : Type} : ∀ {l : List α} (h : 0 < l.length), l.take 1 = [l[0]]
  | x :: r, _ => rfl
theorem few_loop {w0 : World} {lk : Lk} {f : Fct} {tp bp ap : Option Addr} {tc bc ac : Nat} (hlk : ∀ b c, lk b c → lkW w0 b c) (h : FArg lk f tp tc bp bc ap ac) :
    ∀ (g i B7 B8 B9 cap : Nat) (cs : List Value), g + i = (fewF f).blocks.length → i ≤ cap → cs.length = cap * 9 → BRowL lk cs ((fewF f).blocks.take i) →
      few5_c1 f tp tc bp bc ap ac B7 B8 B9 i cap (i : Int) tp (fewF f).topics.length tc bp (fewF f).blocks.length bc ap (fewF f).lab.after.length ac cs w0 (fun e W' => ∃ v L', e = .returned v ∧ Mem L' [] w0 W' ∧ FewOut lk (fewF f) v L')
  | 0, i, B7, B8, B9, cap, cs, hg, h1, h2, h3 => by
    apply few5_c1_vc
    have hi : i = (fewF f).blocks.length := by omega
    subst hi
    rw [List.take_length] at h3
    refine no (by omega) ⟨by split <;> omega, by split <;> omega, ?_⟩
    have e1 := cut_if (s := f.title) (n := 400) (i := 400) rfl
    have e2 := cut_if (s := f.text) (n := 1200) (i := 1200) rfl
    refine dkFin ⟨tp, tc, some ⟨B9, 0, none⟩, cap, ap, ac, ?_, few_at h (fun _ => ⟨B9, 0, cs, rfl, .inl ⟨_, _, List.mem_cons_of_mem _ (List.mem_cons_of_mem _ List.mem_cons_self)⟩, fun i hi => ⟨by rw [Nat.zero_add]; exact (h3 i hi).1, by rw [Nat.zero_add]; exact (h3 i hi).2.mono lkU_r⟩⟩) h1⟩
    delta few5A1
    rw [e1, e2]; rfl
  | g + 1, i, B7, B8, B9, cap, cs, hg, h1, h2, h3 => by
    apply few5_c1_vc
    have hn := fewF_len (f := f)
    have his : i < (fewF f).blocks.length := by omega
    have hi : i < f.blocks.length := by omega
    obtain ⟨B1, o1, c1, rfl, e2, e3, p6, c6, e4, e5, e6, e7⟩ := h.blks.get hi
    have t4 := cut_if (s := f.blocks[i].text) (n := 400) (i := 400) rfl
    have t7 := take_if (l := f.blocks[i].lab.after) (n := 70) (i := 70) rfl
    refine yes (by omega) ⟨B1, o1, rfl, by omega, c1, f.blocks[i], p6, c6, hlk _ _ e2, ⟨by simpa using e4, by simpa using e3⟩, fun B2 => ⟨by split <;> omega, by split <;> omega, fun B3 => ⟨⟨h1, h2⟩, by omega, fun B4 cap2 r q1 q2 => ?_⟩⟩⟩
    rintro _ rfl
    rw [wi64 (by omega), show (i : Int) + 1 = ((i + 1 : Nat) : Int) by omega]
    rw [t4, t7] at q2 ⊢
    have hlen : ((fewF f).blocks.take i).length = i := by rw [List.length_take]; omega
    have hrow := BRowL.app (b := fewB f.blocks[i]) (p := p6) (c := c6) (r := r) (cap1 := cap2) h3 (by rw [hlen]; exact h1) h2 (e5.take 70) (fewB_fits e6) (by rw [hlen]; exact q1) (by rw [hlen]; exact q2)
    rw [hlen, ← fewF_get his, show (fewF f).blocks.take i ++ [(fewF f).blocks[i]] = (fewF f).blocks.take (i + 1) by rw [List.take_add_one, List.getElem?_eq_getElem his]; rfl] at hrow
    rw [fewF_get his] at hrow
    exact few_loop hlk h g (i + 1) B7 B8 B4 cap2 _ (by omega) q1 q2 hrow
theorem few_first {lk : Lk} {r : List Value} {b : Blk} {p : Option Addr} {c cap : Nat} (hb : IntsL lk p b.lab.after) (hf : b.Fits) (q1 : 1 ≤ cap) (q2 : ([.int .i64 b.id, .int .i64 b.kind, .string (cutT b.text 400), .int .i64 b.story, .int .i64 b.ref, .int .i64 b.lab.unt, .slice p (b.lab.after.take 70).length c, .int .i64 b.lab.appr, .int .i64 b.lab.den] ++ r : List Value).length = cap * 9) : BRowL lk ([.int .i64 b.id, .int .i64 b.kind, .string (cutT b.text 400), .int .i64 b.story, .int .i64 b.ref, .int .i64 b.lab.unt, .slice p (b.lab.after.take 70).length c, .int .i64 b.lab.appr, .int .i64 b.lab.den] ++ r) [fewB b] :=
  BRowL.one (b := fewB b) (hb.take 70) (fewB_fits hf) q1 q2
theorem few_e {lk : Lk} {f : Fct} {tp bp ap : Option Addr} {tc bc ac : Nat} (h : FArg lk f tp tc bp bc ap ac) : EffW Tryz.prog 18 ⟨[.agg ⟨f.cells tp tc bp bc ap ac⟩]⟩ [] (fun W => ∀ b c, lk b c → lkW W b c) (FewOut lk (fewF f)) := by
  intro W hm hlk
  have ht := h.ct; have hb := h.cb; have ha := h.ca
  refine few5_vc f tp tc bp bc ap ac hm fun B B1 => ⟨by split <;> omega, by split <;> omega, by split <;> omega, ?_⟩
  have t6 : Int.toNat (if (6 : Int) < (f.topics.length : Int) then (6 : Int) else (f.topics.length : Int)) = (fewF f).topics.length := take_if (l := f.topics) (n := 6) (i := 6) rfl
  have t26 : Int.toNat (if (26 : Int) < (f.blocks.length : Int) then (26 : Int) else (f.blocks.length : Int)) = (fewF f).blocks.length := by rw [take_if (l := f.blocks) (n := 26) (i := 26) rfl]; show _ = ((f.blocks.take 26).map fewB).length; rw [List.length_map]
  have t70 : Int.toNat (if (70 : Int) < (f.lab.after.length : Int) then (70 : Int) else (f.lab.after.length : Int)) = (fewF f).lab.after.length := take_if (l := f.lab.after) (n := 70) (i := 70) rfl
  rw [t6, t26, t70]
  apply few5_c0_vc
  have hn := fewF_len (f := f)
  rcases Nat.eq_zero_or_pos f.blocks.length with h0 | hi
  · have hz : (fewF f).blocks = [] := List.length_eq_zero_iff.1 (by omega)
    have e1 := cut_if (s := f.title) (n := 400) (i := 400) rfl
    have e2 := cut_if (s := f.text) (n := 1200) (i := 1200) rfl
    refine no (by omega) ⟨by split <;> omega, by split <;> omega, dkFin ⟨tp, tc, none, 0, ap, ac, ?_, few_at h (by rw [hz]; exact blks_nil) (by omega)⟩⟩
    delta few5A2
    rw [e1, e2]
    show _ = Value.agg ⟨[_, _, _, _, _, _, _, _, _, _, .slice none (fewF f).blocks.length 0, _, _, _, _, _, _, _, _, _, _, _, _]⟩
    rw [hz]; rfl
  · have his : 0 < (fewF f).blocks.length := by omega
    obtain ⟨B2, o1, c1, rfl, e2, e3, p6, c6, e4, e5, e6, e7⟩ := h.blks.get hi
    have t4 := cut_if (s := f.blocks[0].text) (n := 400) (i := 400) rfl
    have t7 := take_if (l := f.blocks[0].lab.after) (n := 70) (i := 70) rfl
    refine yes (by omega) ⟨B2, o1, rfl, by omega, c1, f.blocks[0], p6, c6, hlk _ _ e2, ⟨by simpa using e4, by simpa using e3⟩, fun B2 => ⟨by split <;> omega, by split <;> omega, fun B3 B4 cap2 r q1 q2 => ?_⟩⟩
    rintro _ rfl
    rw [wi64 (by omega)]
    rw [t4, t7] at q2 ⊢
    have hrow := few_first (p := p6) (c := c6) (r := r) e5 e6 q1 q2
    have e0 : (fewF f).blocks.take 1 = [fewB f.blocks[0]] := by rw [take_one_get his, fewF_get his]
    exact few_loop hlk h ((fewF f).blocks.length - 1) 1 B B1 B4 cap2 _ (by omega) q1 q2 (by rw [e0]; exact hrow)
end Go.Eng
namespace Go.Eng
open Go Go.RowKit Go.Proofs Wire
set_option linter.unusedVariables false
theorem lkU_W {F L : SHeap} {w0 W : World} (hm : Mem L [] w0 W) (h : ∀ x ∈ F, x ∈ L) : ∀ b c, lkU F (lkW w0) b c → lkW W b c := by
  rintro b c (hb | hb)
  · exact lkF_W hm h b c hb
  · exact lkW_kept hm b c hb
theorem CallH.few {w0 : World} {f : Fct} {tp bp ap : Option Addr} {tc bc ac : Nat} {K : Value → SHeap → Prop} (told : SHeap) {F : SHeap} (h : FArg (lkW w0) f tp tc bp bc ap ac)
    (hK : ∀ tp' tc' bp' bc' ap' ac' F', FAt (lkU F' (lkW w0)) (fewF f) tp' tc' bp' bc' ap' ac' → K (.agg ⟨(fewF f).cells tp' tc' bp' bc' ap' ac'⟩) (told ++ (F' ++ F))) : CallH Tryz.prog 18 ⟨[.agg ⟨f.cells tp tc bp bc ap ac⟩]⟩ (told ++ F) [] w0 K := by
  refine CallH.effW (L0 := []) (L1 := told ++ F) (few_e h) (fun W hm => lkW_kept hm) (List.Perm.refl _) ?_
  rintro _ F' ⟨tp', tc', bp', bc', ap', ac', rfl, hw⟩
  exact ⟨told ++ (F' ++ F), List.perm_append_comm_assoc _ _ _, hK _ _ _ _ _ _ _ hw⟩
end Go.Eng
namespace Go.Eng
open Go Go.RowKit Go.Proofs
set_option linter.unusedVariables false
set_option maxRecDepth 100000
abbrev law6A0 : Array Value := #[.int .i64 (0 : Int), .int .i64 (0 : Int), .int .i64 (0 : Int), .int .i64 (0 : Int), .string (⟨#[]⟩), .int .i64 (0 : Int), .int .i64 (0 : Int), .string (⟨#[]⟩), .string (⟨#[]⟩), .slice none 0 0, .slice none 0 0, .int .i64 (0 : Int), .slice none 0 0, .int .i64 (0 : Int), .int .i64 (0 : Int), .int .i64 (0 : Int), .int .i64 (0 : Int), .int .i64 (0 : Int), .string (⟨#[]⟩), .string (⟨#[]⟩), .int .i64 (0 : Int), .int .i64 (0 : Int), .int .i64 (0 : Int)]
abbrev law6A1 (m21 : Fct) (m21tp : Option Addr) (m21tc : Nat) (m21bp : Option Addr) (m21bc : Nat) (m21ap : Option Addr) (m21ac : Nat) : Array Value := #[.int .i64 m21.n, .int .i64 m21.time, .int .i64 m21.kind, .int .i64 m21.story, .string m21.lang, .int .i64 m21.rev, .int .i64 m21.base, .string m21.title, .string m21.author, .slice m21tp m21.topics.length m21tc, .slice m21bp m21.blocks.length m21bc, .int .i64 m21.lab.unt, .slice m21ap m21.lab.after.length m21ac, .int .i64 m21.lab.appr, .int .i64 m21.lab.den, .int .i64 m21.editor, .int .i64 m21.block, .int .i64 m21.sentence, .string m21.text, .string m21.name, .int .i64 m21.partner, .int .i64 m21.cls, .int .i64 m21.unt]
abbrev law6A2 (m31 : Fct) (m31tp : Option Addr) (m31tc : Nat) (m31bp : Option Addr) (m31bc : Nat) (m31ap : Option Addr) (m31ac : Nat) : Array Value := #[.int .i64 m31.n, .int .i64 m31.time, .int .i64 m31.kind, .int .i64 m31.story, .string m31.lang, .int .i64 m31.rev, .int .i64 m31.base, .string m31.title, .string m31.author, .slice m31tp m31.topics.length m31tc, .slice m31bp m31.blocks.length m31bc, .int .i64 m31.lab.unt, .slice m31ap m31.lab.after.length m31ac, .int .i64 m31.lab.appr, .int .i64 m31.lab.den, .int .i64 m31.editor, .int .i64 m31.block, .int .i64 m31.sentence, .string m31.text, .string m31.name, .int .i64 m31.partner, .int .i64 m31.cls, .int .i64 m31.unt]
abbrev law6A3 (m61 : Fct) (m61tp : Option Addr) (m61tc : Nat) (m61bp : Option Addr) (m61bc : Nat) (m61ap : Option Addr) (m61ac : Nat) : Array Value := #[.int .i64 m61.n, .int .i64 m61.time, .int .i64 m61.kind, .int .i64 m61.story, .string m61.lang, .int .i64 m61.rev, .int .i64 m61.base, .string m61.title, .string m61.author, .slice m61tp m61.topics.length m61tc, .slice m61bp m61.blocks.length m61bc, .int .i64 m61.lab.unt, .slice m61ap m61.lab.after.length m61ac, .int .i64 m61.lab.appr, .int .i64 m61.lab.den, .int .i64 m61.editor, .int .i64 m61.block, .int .i64 m61.sentence, .string m61.text, .string m61.name, .int .i64 m61.partner, .int .i64 m61.cls, .int .i64 m61.unt]
abbrev law6A4 (m71 : Fct) (m71tp : Option Addr) (m71tc : Nat) (m71bp : Option Addr) (m71bc : Nat) (m71ap : Option Addr) (m71ac : Nat) : Array Value := #[.int .i64 m71.n, .int .i64 m71.time, .int .i64 m71.kind, .int .i64 m71.story, .string m71.lang, .int .i64 m71.rev, .int .i64 m71.base, .string m71.title, .string m71.author, .slice m71tp m71.topics.length m71tc, .slice m71bp m71.blocks.length m71bc, .int .i64 m71.lab.unt, .slice m71ap m71.lab.after.length m71ac, .int .i64 m71.lab.appr, .int .i64 m71.lab.den, .int .i64 m71.editor, .int .i64 m71.block, .int .i64 m71.sentence, .string m71.text, .string m71.name, .int .i64 m71.partner, .int .i64 m71.cls, .int .i64 m71.unt]
abbrev law6A5 (m81 : Fct) (m81tp : Option Addr) (m81tc : Nat) (m81bp : Option Addr) (m81bc : Nat) (m81ap : Option Addr) (m81ac : Nat) : Array Value := #[.int .i64 m81.n, .int .i64 m81.time, .int .i64 m81.kind, .int .i64 m81.story, .string m81.lang, .int .i64 m81.rev, .int .i64 m81.base, .string m81.title, .string m81.author, .slice m81tp m81.topics.length m81tc, .slice m81bp m81.blocks.length m81bc, .int .i64 m81.lab.unt, .slice m81ap m81.lab.after.length m81ac, .int .i64 m81.lab.appr, .int .i64 m81.lab.den, .int .i64 m81.editor, .int .i64 m81.block, .int .i64 m81.sentence, .string m81.text, .string m81.name, .int .i64 m81.partner, .int .i64 m81.cls, .int .i64 m81.unt]
abbrev law6A6 (m1 : Fct) (m1tp : Option Addr) (m1tc : Nat) (m1bp : Option Addr) (m1bc : Nat) (m1ap : Option Addr) (m1ac : Nat) : Array Value := #[.int .i64 m1.n, .int .i64 m1.time, .int .i64 m1.kind, .int .i64 m1.story, .string m1.lang, .int .i64 m1.rev, .int .i64 m1.base, .string m1.title, .string m1.author, .slice m1tp m1.topics.length m1tc, .slice m1bp m1.blocks.length m1bc, .int .i64 m1.lab.unt, .slice m1ap m1.lab.after.length m1ac, .int .i64 m1.lab.appr, .int .i64 m1.lab.den, .int .i64 m1.editor, .int .i64 m1.block, .int .i64 m1.sentence, .string m1.text, .string m1.name, .int .i64 m1.partner, .int .i64 m1.cls, .int .i64 m1.unt]
abbrev law6A7 (w1 : Fct) (w1tp : Option Addr) (w1tc : Nat) (w1bp : Option Addr) (w1bc : Nat) (w1ap : Option Addr) (w1ac : Nat) : Array Value := #[.int .i64 w1.n, .int .i64 w1.time, .int .i64 w1.kind, .int .i64 w1.story, .string w1.lang, .int .i64 w1.rev, .int .i64 w1.base, .string w1.title, .string w1.author, .slice w1tp w1.topics.length w1tc, .slice w1bp w1.blocks.length w1bc, .int .i64 w1.lab.unt, .slice w1ap w1.lab.after.length w1ac, .int .i64 w1.lab.appr, .int .i64 w1.lab.den, .int .i64 w1.editor, .int .i64 w1.block, .int .i64 w1.sentence, .string w1.text, .string w1.name, .int .i64 w1.partner, .int .i64 w1.cls, .int .i64 w1.unt]
abbrev law6A8 (w2 : Fct) (w2tp : Option Addr) (w2tc : Nat) (w2bp : Option Addr) (w2bc : Nat) (w2ap : Option Addr) (w2ac : Nat) : Array Value := #[.int .i64 w2.n, .int .i64 w2.time, .int .i64 w2.kind, .int .i64 w2.story, .string w2.lang, .int .i64 w2.rev, .int .i64 w2.base, .string w2.title, .string w2.author, .slice w2tp w2.topics.length w2tc, .slice w2bp w2.blocks.length w2bc, .int .i64 w2.lab.unt, .slice w2ap w2.lab.after.length w2ac, .int .i64 w2.lab.appr, .int .i64 w2.lab.den, .int .i64 w2.editor, .int .i64 w2.block, .int .i64 w2.sentence, .string w2.text, .string w2.name, .int .i64 w2.partner, .int .i64 w2.cls, .int .i64 w2.unt]
abbrev law6A9 (w3 : Fct) (w3tp : Option Addr) (w3tc : Nat) (w3bp : Option Addr) (w3bc : Nat) (w3ap : Option Addr) (w3ac : Nat) : Array Value := #[.int .i64 w3.n, .int .i64 w3.time, .int .i64 w3.kind, .int .i64 w3.story, .string w3.lang, .int .i64 w3.rev, .int .i64 w3.base, .string w3.title, .string w3.author, .slice w3tp w3.topics.length w3tc, .slice w3bp w3.blocks.length w3bc, .int .i64 w3.lab.unt, .slice w3ap w3.lab.after.length w3ac, .int .i64 w3.lab.appr, .int .i64 w3.lab.den, .int .i64 w3.editor, .int .i64 w3.block, .int .i64 w3.sentence, .string w3.text, .string w3.name, .int .i64 w3.partner, .int .i64 w3.cls, .int .i64 w3.unt]
abbrev law6A10 (w : Fct) (wtp : Option Addr) (wtc : Nat) (wbp : Option Addr) (wbc : Nat) (wap : Option Addr) (wac : Nat) : Array Value := #[.int .i64 w.n, .int .i64 w.time, .int .i64 w.kind, .int .i64 w.story, .string w.lang, .int .i64 w.rev, .int .i64 w.base, .string w.title, .string w.author, .slice wtp w.topics.length wtc, .slice wbp w.blocks.length wbc, .int .i64 w.lab.unt, .slice wap w.lab.after.length wac, .int .i64 w.lab.appr, .int .i64 w.lab.den, .int .i64 w.editor, .int .i64 w.block, .int .i64 w.sentence, .string w.text, .string w.name, .int .i64 w.partner, .int .i64 w.cls, .int .i64 w.unt]
def law6_c0 (a_p : Option Addr) (a_l : Nat) (a_c : Nat) (b_p : Option Addr) (b_l : Nat) (b_c : Nat) (equal : Bool) (equal1 : Bool) (ok : Bool) (i : Int) (F1 : SHeap) (w0 : World) (R : Ending → World → Prop) : Prop :=
 AtE Tryz.prog 9 102 [.code (sub (Eng.body Tryz.f9) [1,1,1,1,0,1,0,0]), .inLoop (sub (Eng.body Tryz.f9) [1,1,1,1,0,1,0,0]), .inBlock 0, .code (sub (Eng.body Tryz.f9) [1,1,1,1,1])] [(0, .slice a_p a_l a_c), (1, .slice b_p b_l b_c), (2, .bool equal1), (7, .bool ok), (8, .slice none 0 0), (9, .slice none 0 0), (10, .int .i64 i)] (F1) [] w0 (nrm R)
def law6_c1 (a_p : Option Addr) (a_l : Nat) (a_c : Nat) (b_p : Option Addr) (b_l : Nat) (b_c : Nat) (equal : Bool) (B2 : Nat) (equal2 : Bool) (ok1 : Bool) (l_l : Nat) (l_c : Nat) (i2 : Int) (cs : List Value) (F3 : SHeap) (w0 : World) (R : Ending → World → Prop) : Prop :=
 AtE Tryz.prog 9 102 [.code (sub (Eng.body Tryz.f9) [1,1,1,1,0,1,0,0]), .inLoop (sub (Eng.body Tryz.f9) [1,1,1,1,0,1,0,0]), .inBlock 0, .code (sub (Eng.body Tryz.f9) [1,1,1,1,1])] [(0, .slice a_p a_l a_c), (1, .slice b_p b_l b_c), (2, .bool equal2), (7, .bool ok1), (8, .slice (some ⟨B2, 0, none⟩) l_l l_c), (9, .slice none 0 0), (10, .int .i64 i2)] ((B2, .cells ⟨cs⟩ 28) :: F3) [] w0 (nrm R)
def law6_c2 (a_p : Option Addr) (a_l : Nat) (a_c : Nat) (b_p : Option Addr) (b_l : Nat) (b_c : Nat) (equal : Bool) (equal3 : Bool) (ok2 : Bool) (l1_p : Option Addr) (l1_l : Nat) (l1_c : Nat) (i3 : Int) (F4 : SHeap) (w0 : World) (R : Ending → World → Prop) : Prop :=
 AtE Tryz.prog 9 102 [.code (sub (Eng.body Tryz.f9) [1,1,1,1,1,0,1,0,0]), .inLoop (sub (Eng.body Tryz.f9) [1,1,1,1,1,0,1,0,0]), .inBlock 2, .code (sub (Eng.body Tryz.f9) [1,1,1,1,1,1])] [(1, .slice b_p b_l b_c), (2, .bool equal3), (7, .bool ok2), (8, .slice l1_p l1_l l1_c), (9, .slice none 0 0), (11, .int .i64 i3)] (F4) [] w0 (nrm R)
def law6_c3 (a_p : Option Addr) (a_l : Nat) (a_c : Nat) (b_p : Option Addr) (b_l : Nat) (b_c : Nat) (equal : Bool) (B7 : Nat) (equal4 : Bool) (ok3 : Bool) (l2_p : Option Addr) (l2_l : Nat) (l2_c : Nat) (m4_l : Nat) (m4_c : Nat) (i6 : Int) (cs1 : List Value) (F7 : SHeap) (w0 : World) (R : Ending → World → Prop) : Prop :=
 AtE Tryz.prog 9 102 [.code (sub (Eng.body Tryz.f9) [1,1,1,1,1,0,1,0,0]), .inLoop (sub (Eng.body Tryz.f9) [1,1,1,1,1,0,1,0,0]), .inBlock 2, .code (sub (Eng.body Tryz.f9) [1,1,1,1,1,1])] [(1, .slice b_p b_l b_c), (2, .bool equal4), (7, .bool ok3), (8, .slice l2_p l2_l l2_c), (9, .slice (some ⟨B7, 0, none⟩) m4_l m4_c), (11, .int .i64 i6)] ((B7, .cells ⟨cs1⟩ 28) :: F7) [] w0 (nrm R)
def law6_c4 (a_p : Option Addr) (a_l : Nat) (a_c : Nat) (b_p : Option Addr) (b_l : Nat) (b_c : Nat) (equal : Bool) (ok4 : Bool) (l3_p : Option Addr) (l3_l : Nat) (l3_c : Nat) (m5_p : Option Addr) (m5_l : Nat) (m5_c : Nat) (same : Bool) (i7 : Int) (F8 : SHeap) (w0 : World) (R : Ending → World → Prop) : Prop :=
 AtE Tryz.prog 9 102 [.code (sub (Eng.body Tryz.f9) [1,1,1,1,1,1,1,1,0,1,0,0]), .inLoop (sub (Eng.body Tryz.f9) [1,1,1,1,1,1,1,1,0,1,0,0]), .inBlock 4, .code (sub (Eng.body Tryz.f9) [1,1,1,1,1,1,1,1,1])] [(7, .bool ok4), (8, .slice l3_p l3_l l3_c), (9, .slice m5_p m5_l m5_c), (12, .bool same), (13, .int .i64 i7)] (F8) [] w0 (nrm R)
theorem law6_c0_vc (a_p : Option Addr) (a_l : Nat) (a_c : Nat) (b_p : Option Addr) (b_l : Nat) (b_c : Nat) (equal : Bool) (equal1 : Bool) (ok : Bool) (i : Int) (F1 : SHeap) {R : Ending → World → Prop} {w0 : World}
  (H :
   ((i < (a_l : Int)) →
    ((i < (5 : Int)) →
     ∃ a_pb a_po : Nat, a_p = some ⟨a_pb, a_po, none⟩ ∧ (0 ≤ i ∧ i < a_l) ∧
     ∃ (cw : List Value) (m1 : Fct) (m1tp : Option Addr) (m1tc : Nat) (m1bp : Option Addr) (m1bc : Nat) (m1ap : Option Addr) (m1ac : Nat), held (F1) w0 a_pb cw ∧ ((cw.drop (a_po + ((Int.toNat i) * 23))).take 23 = [.int .i64 m1.n, .int .i64 m1.time, .int .i64 m1.kind, .int .i64 m1.story, .string m1.lang, .int .i64 m1.rev, .int .i64 m1.base, .string m1.title, .string m1.author, .slice m1tp m1.topics.length m1tc, .slice m1bp m1.blocks.length m1bc, .int .i64 m1.lab.unt, .slice m1ap m1.lab.after.length m1ac, .int .i64 m1.lab.appr, .int .i64 m1.lab.den, .int .i64 m1.editor, .int .i64 m1.block, .int .i64 m1.sentence, .string m1.text, .string m1.name, .int .i64 m1.partner, .int .i64 m1.cls, .int .i64 m1.unt] ∧ (a_po + ((Int.toNat i) * 23)) + 23 ≤ cw.length) ∧
     CallH Tryz.prog 18 ⟨[.agg (law6A6 m1 m1tp m1tc m1bp m1bc m1ap m1ac)]⟩ (F1) [] w0 (fun v L' => ∃ (w : Fct) (wtp : Option Addr) (wtc : Nat) (wbp : Option Addr) (wbc : Nat) (wap : Option Addr) (wac : Nat) (F2 : SHeap), v = (.agg (law6A10 w wtp wtc wbp wbc wap wac)) ∧ L' = (F2) ∧
      ∀ B : Nat,
      ∀ (B1 cap : Nat) (r3 : List Value), 1 ≤ cap → (([.int .i64 w.n, .int .i64 w.time, .int .i64 w.kind, .int .i64 w.story, .string w.lang, .int .i64 w.rev, .int .i64 w.base, .string w.title, .string w.author, .slice wtp w.topics.length wtc, .slice wbp w.blocks.length wbc, .int .i64 w.lab.unt, .slice wap w.lab.after.length wac, .int .i64 w.lab.appr, .int .i64 w.lab.den, .int .i64 w.editor, .int .i64 w.block, .int .i64 w.sentence, .string w.text, .string w.name, .int .i64 w.partner, .int .i64 w.cls, .int .i64 w.unt] : List Value) ++ r3).length = cap * 23 →
      ∀ i1 : Int, i1 = (IntKind.i64.wrap (i + (1 : Int))) →
      law6_c1 a_p a_l a_c b_p b_l b_c equal B1 equal1 ok 1 cap i1 (([.int .i64 w.n, .int .i64 w.time, .int .i64 w.kind, .int .i64 w.story, .string w.lang, .int .i64 w.rev, .int .i64 w.base, .string w.title, .string w.author, .slice wtp w.topics.length wtc, .slice wbp w.blocks.length wbc, .int .i64 w.lab.unt, .slice wap w.lab.after.length wac, .int .i64 w.lab.appr, .int .i64 w.lab.den, .int .i64 w.editor, .int .i64 w.block, .int .i64 w.sentence, .string w.text, .string w.name, .int .i64 w.partner, .int .i64 w.cls, .int .i64 w.unt] : List Value) ++ r3) F2 w0 R)) ∧
     ((¬ (i < (5 : Int))) →
     law6_c2 a_p a_l a_c b_p b_l b_c equal equal1 ok none 0 0 (0 : Int) F1 w0 R)) ∧
    ((¬ (i < (a_l : Int))) →
    law6_c2 a_p a_l a_c b_p b_l b_c equal equal1 ok none 0 0 (0 : Int) F1 w0 R)) :
  law6_c0 a_p a_l a_c b_p b_l b_c equal equal1 ok i F1 w0 R := by
 unfold law6_c0
 refine AtE.ru 8 ?_
 refine AtE.splitP 19 (p := i < (a_l : Int)) (by kernel_rfl) (fun h1' => ?_) (fun h1' => ?_)
 ·replace H := H.1 h1'
  refine AtE.ru 4 ?_
  refine AtE.splitP 22 (p := i < (5 : Int)) (by kernel_rfl) (fun h2' => ?_) (fun h2' => ?_)
  ·replace H := H.1 h2'
   refine AtE.ru 8 ?_
   obtain ⟨a_pb, a_po, hp, H⟩ := H
   refine AtE.indexAddrP (E := 28) (p := a_p) (b := a_pb) (o := a_po) (len := a_l) (cap := a_c) (sz := 23) (o' := (a_po + ((Int.toNat i) * 23))) (kd := .i64) (i := i) hp (by kernel_rfl) H.1 (by omega) ?_
   replace H := H.2
   obtain ⟨cw, m1, m1tp, m1tc, m1bp, m1bc, m1ap, m1ac, hw, hx, H⟩ := H
   refine AtE.loadM (b := a_pb) (off := (a_po + ((Int.toNat i) * 23))) (T := 28) (v := .agg (law6A6 m1 m1tp m1tc m1bp m1bc m1ap m1ac)) (by kernel_rfl) List.not_mem_nil hw (valAt_agg hx.1 hx.2 (by kernel_rfl) (by kernel_rfl)) ?_
   refine AtE.call 18 ⟨[.agg (law6A6 m1 m1tp m1tc m1bp m1bc m1ap m1ac)]⟩ (fun W => by kernel_rfl) (by kernel_rfl) H ?_
   clear H
   rintro _ F2 ⟨w, wtp, wtc, wbp, wbc, wap, wac, _, rfl, rfl, H⟩
   refine AtE.new (fun B => .slice (some ⟨B, 0, none⟩) 1 1) (.cells (law6A10 w wtp wtc wbp wbc wap wac) 28) (fun W => by kernel_rfl) (by kernel_rfl) (fun B => ?_)
   replace H := H B
   refine AtE.front ?_
   refine AtE.appendN (T := 45) (E := 28) (z := .agg law6A0) (sz := 23) (bytes := 272) (a := ⟨B, 0, none⟩) (m := 1) (c := 1) ([.int .i64 w.n, .int .i64 w.time, .int .i64 w.kind, .int .i64 w.story, .string w.lang, .int .i64 w.rev, .int .i64 w.base, .string w.title, .string w.author, .slice wtp w.topics.length wtc, .slice wbp w.blocks.length wbc, .int .i64 w.lab.unt, .slice wap w.lab.after.length wac, .int .i64 w.lab.appr, .int .i64 w.lab.den, .int .i64 w.editor, .int .i64 w.block, .int .i64 w.sentence, .string w.text, .string w.name, .int .i64 w.partner, .int .i64 w.cls, .int .i64 w.unt] : List Value) (by kernel_rfl) (show Src _ _ _ _ ([.int .i64 w.n, .int .i64 w.time, .int .i64 w.kind, .int .i64 w.story, .string w.lang, .int .i64 w.rev, .int .i64 w.base, .string w.title, .string w.author, .slice wtp w.topics.length wtc, .slice wbp w.blocks.length wbc, .int .i64 w.lab.unt, .slice wap w.lab.after.length wac, .int .i64 w.lab.appr, .int .i64 w.lab.den, .int .i64 w.editor, .int .i64 w.block, .int .i64 w.sentence, .string w.text, .string w.name, .int .i64 w.partner, .int .i64 w.cls, .int .i64 w.unt] : List Value) from Src.own (j := 0) (o := 0) (n := 23) (c := ([.int .i64 w.n, .int .i64 w.time, .int .i64 w.kind, .int .i64 w.story, .string w.lang, .int .i64 w.rev, .int .i64 w.base, .string w.title, .string w.author, .slice wtp w.topics.length wtc, .slice wbp w.blocks.length wbc, .int .i64 w.lab.unt, .slice wap w.lab.after.length wac, .int .i64 w.lab.appr, .int .i64 w.lab.den, .int .i64 w.editor, .int .i64 w.block, .int .i64 w.sentence, .string w.text, .string w.name, .int .i64 w.partner, .int .i64 w.cls, .int .i64 w.unt] : List Value)) (by kernel_rfl)) (by simp) (by omega) (by omega) (fun B1 cap r3 h1 h2 => ?_)
   replace H := H B1 cap r3 h1 h2
   refine AtE.front ?_
   refine AtE.norm (k' := [.inRegion (regOps [.code (sub (Eng.body Tryz.f9) [1,1,1,1,0,1,0,0,1,0,0])]) [8], .inBlock 1, .code (sub (Eng.body Tryz.f9) [1,1,1,1,0,1,0,0,1,1]), .inLoop (sub (Eng.body Tryz.f9) [1,1,1,1,0,1,0,0]), .inBlock 0, .code (sub (Eng.body Tryz.f9) [1,1,1,1,1])]) (e' := [(0, .slice a_p a_l a_c), (1, .slice b_p b_l b_c), (2, .bool equal1), (7, .bool ok), (9, .slice none 0 0), (10, .int .i64 i), (32, .slice (some ⟨B1, 0, none⟩) 1 cap)]) (L' := ((B1, .cells ⟨(([.int .i64 w.n, .int .i64 w.time, .int .i64 w.kind, .int .i64 w.story, .string w.lang, .int .i64 w.rev, .int .i64 w.base, .string w.title, .string w.author, .slice wtp w.topics.length wtc, .slice wbp w.blocks.length wbc, .int .i64 w.lab.unt, .slice wap w.lab.after.length wac, .int .i64 w.lab.appr, .int .i64 w.lab.den, .int .i64 w.editor, .int .i64 w.block, .int .i64 w.sentence, .string w.text, .string w.name, .int .i64 w.partner, .int .i64 w.cls, .int .i64 w.unt] : List Value) ++ r3)⟩ 28) :: (B, .cells (law6A10 w wtp wtc wbp wbc wap wac) 28) :: F2)) ?_ (by kernel_rfl)
   refine AtE.ru 7 ?_
   refine AtE.letI 10 (kd := .i64) (n := (IntKind.i64.wrap (i + (1 : Int)))) (by kernel_rfl) (fun i1 hi1 => ?_)
   replace H := H i1 hi1
   refine AtE.ru 2 ?_
   exact AtE.cutT [0] 2 H (by kernel_rfl)
  ·replace H := H.2 h2'
   refine AtE.ru 9 ?_
   exact AtE.cutT [] 0 H (by kernel_rfl)
 ·replace H := H.2 h1'
  refine AtE.ru 13 ?_
  exact AtE.cutT [] 0 H (by kernel_rfl)
theorem law6_c1_vc (a_p : Option Addr) (a_l : Nat) (a_c : Nat) (b_p : Option Addr) (b_l : Nat) (b_c : Nat) (equal : Bool) (B2 : Nat) (equal2 : Bool) (ok1 : Bool) (l_l : Nat) (l_c : Nat) (i2 : Int) (cs : List Value) (F3 : SHeap) {R : Ending → World → Prop} {w0 : World}
  (H :
   ((i2 < (a_l : Int)) →
    ((i2 < (5 : Int)) →
     ∃ a_pb1 a_po1 : Nat, a_p = some ⟨a_pb1, a_po1, none⟩ ∧ (0 ≤ i2 ∧ i2 < a_l) ∧
     ∃ (cw1 : List Value) (m21 : Fct) (m21tp : Option Addr) (m21tc : Nat) (m21bp : Option Addr) (m21bc : Nat) (m21ap : Option Addr) (m21ac : Nat), held ((B2, .cells ⟨cs⟩ 28) :: F3) w0 a_pb1 cw1 ∧ ((cw1.drop (a_po1 + ((Int.toNat i2) * 23))).take 23 = [.int .i64 m21.n, .int .i64 m21.time, .int .i64 m21.kind, .int .i64 m21.story, .string m21.lang, .int .i64 m21.rev, .int .i64 m21.base, .string m21.title, .string m21.author, .slice m21tp m21.topics.length m21tc, .slice m21bp m21.blocks.length m21bc, .int .i64 m21.lab.unt, .slice m21ap m21.lab.after.length m21ac, .int .i64 m21.lab.appr, .int .i64 m21.lab.den, .int .i64 m21.editor, .int .i64 m21.block, .int .i64 m21.sentence, .string m21.text, .string m21.name, .int .i64 m21.partner, .int .i64 m21.cls, .int .i64 m21.unt] ∧ (a_po1 + ((Int.toNat i2) * 23)) + 23 ≤ cw1.length) ∧
     CallH Tryz.prog 18 ⟨[.agg (law6A1 m21 m21tp m21tc m21bp m21bc m21ap m21ac)]⟩ ((B2, .cells ⟨cs⟩ 28) :: F3) [] w0 (fun v L' => ∃ (w1 : Fct) (w1tp : Option Addr) (w1tc : Nat) (w1bp : Option Addr) (w1bc : Nat) (w1ap : Option Addr) (w1ac : Nat) (F5 : SHeap), v = (.agg (law6A7 w1 w1tp w1tc w1bp w1bc w1ap w1ac)) ∧ L' = ((B2, .cells ⟨cs⟩ 28) :: F5) ∧
      ∀ B3 : Nat,
      (l_l ≤ l_c ∧ (cs).length = l_c * 23) ∧ ((l_l + 1) ≤ 9223372036854775807 ∧ (l_l + 1) * 272 ≤ 140737488355328) ∧
      ∀ (B4 cap1 : Nat) (r5 : List Value), (l_l + 1) ≤ cap1 → ((cs).take (l_l * 23) ++ ([.int .i64 w1.n, .int .i64 w1.time, .int .i64 w1.kind, .int .i64 w1.story, .string w1.lang, .int .i64 w1.rev, .int .i64 w1.base, .string w1.title, .string w1.author, .slice w1tp w1.topics.length w1tc, .slice w1bp w1.blocks.length w1bc, .int .i64 w1.lab.unt, .slice w1ap w1.lab.after.length w1ac, .int .i64 w1.lab.appr, .int .i64 w1.lab.den, .int .i64 w1.editor, .int .i64 w1.block, .int .i64 w1.sentence, .string w1.text, .string w1.name, .int .i64 w1.partner, .int .i64 w1.cls, .int .i64 w1.unt] : List Value) ++ r5).length = cap1 * 23 →
      ∀ i4 : Int, i4 = (IntKind.i64.wrap (i2 + (1 : Int))) →
      law6_c1 a_p a_l a_c b_p b_l b_c equal B4 equal2 ok1 (l_l + 1) cap1 i4 ((cs).take (l_l * 23) ++ ([.int .i64 w1.n, .int .i64 w1.time, .int .i64 w1.kind, .int .i64 w1.story, .string w1.lang, .int .i64 w1.rev, .int .i64 w1.base, .string w1.title, .string w1.author, .slice w1tp w1.topics.length w1tc, .slice w1bp w1.blocks.length w1bc, .int .i64 w1.lab.unt, .slice w1ap w1.lab.after.length w1ac, .int .i64 w1.lab.appr, .int .i64 w1.lab.den, .int .i64 w1.editor, .int .i64 w1.block, .int .i64 w1.sentence, .string w1.text, .string w1.name, .int .i64 w1.partner, .int .i64 w1.cls, .int .i64 w1.unt] : List Value) ++ r5) F5 w0 R)) ∧
     ((¬ (i2 < (5 : Int))) →
     law6_c2 a_p a_l a_c b_p b_l b_c equal equal2 ok1 (some ⟨B2, 0, none⟩) l_l l_c (0 : Int) ((B2, .cells ⟨cs⟩ 28) :: F3) w0 R)) ∧
    ((¬ (i2 < (a_l : Int))) →
    law6_c2 a_p a_l a_c b_p b_l b_c equal equal2 ok1 (some ⟨B2, 0, none⟩) l_l l_c (0 : Int) ((B2, .cells ⟨cs⟩ 28) :: F3) w0 R)) :
  law6_c1 a_p a_l a_c b_p b_l b_c equal B2 equal2 ok1 l_l l_c i2 cs F3 w0 R := by
 unfold law6_c1
 refine AtE.ru 8 ?_
 refine AtE.splitP 19 (p := i2 < (a_l : Int)) (by kernel_rfl) (fun h3' => ?_) (fun h3' => ?_)
 ·replace H := H.1 h3'
  refine AtE.ru 4 ?_
  refine AtE.splitP 22 (p := i2 < (5 : Int)) (by kernel_rfl) (fun h4' => ?_) (fun h4' => ?_)
  ·replace H := H.1 h4'
   refine AtE.ru 8 ?_
   obtain ⟨a_pb1, a_po1, hp, H⟩ := H
   refine AtE.indexAddrP (E := 28) (p := a_p) (b := a_pb1) (o := a_po1) (len := a_l) (cap := a_c) (sz := 23) (o' := (a_po1 + ((Int.toNat i2) * 23))) (kd := .i64) (i := i2) hp (by kernel_rfl) H.1 (by omega) ?_
   replace H := H.2
   obtain ⟨cw1, m21, m21tp, m21tc, m21bp, m21bc, m21ap, m21ac, hw, hx, H⟩ := H
   refine AtE.loadM (b := a_pb1) (off := (a_po1 + ((Int.toNat i2) * 23))) (T := 28) (v := .agg (law6A1 m21 m21tp m21tc m21bp m21bc m21ap m21ac)) (by kernel_rfl) List.not_mem_nil hw (valAt_agg hx.1 hx.2 (by kernel_rfl) (by kernel_rfl)) ?_
   refine AtE.call 18 ⟨[.agg (law6A1 m21 m21tp m21tc m21bp m21bc m21ap m21ac)]⟩ (fun W => by kernel_rfl) (by kernel_rfl) H ?_
   clear H
   rintro _ _ ⟨w1, w1tp, w1tc, w1bp, w1bc, w1ap, w1ac, F5, rfl, rfl, H⟩
   refine AtE.new (fun B => .slice (some ⟨B, 0, none⟩) 1 1) (.cells (law6A7 w1 w1tp w1tc w1bp w1bc w1ap w1ac) 28) (fun W => by kernel_rfl) (by kernel_rfl) (fun B3 => ?_)
   replace H := H B3
   refine AtE.front ?_
   refine AtE.appendO 1 (T := 45) (E := 28) (z := .agg law6A0) (sz := 23) (bytes := 272) (n := l_l) (cap := l_c) (a := ⟨B3, 0, none⟩) (m := 1) (c := 1) (cs := cs) ([.int .i64 w1.n, .int .i64 w1.time, .int .i64 w1.kind, .int .i64 w1.story, .string w1.lang, .int .i64 w1.rev, .int .i64 w1.base, .string w1.title, .string w1.author, .slice w1tp w1.topics.length w1tc, .slice w1bp w1.blocks.length w1bc, .int .i64 w1.lab.unt, .slice w1ap w1.lab.after.length w1ac, .int .i64 w1.lab.appr, .int .i64 w1.lab.den, .int .i64 w1.editor, .int .i64 w1.block, .int .i64 w1.sentence, .string w1.text, .string w1.name, .int .i64 w1.partner, .int .i64 w1.cls, .int .i64 w1.unt] : List Value) (by kernel_rfl) (show Src _ _ _ _ ([.int .i64 w1.n, .int .i64 w1.time, .int .i64 w1.kind, .int .i64 w1.story, .string w1.lang, .int .i64 w1.rev, .int .i64 w1.base, .string w1.title, .string w1.author, .slice w1tp w1.topics.length w1tc, .slice w1bp w1.blocks.length w1bc, .int .i64 w1.lab.unt, .slice w1ap w1.lab.after.length w1ac, .int .i64 w1.lab.appr, .int .i64 w1.lab.den, .int .i64 w1.editor, .int .i64 w1.block, .int .i64 w1.sentence, .string w1.text, .string w1.name, .int .i64 w1.partner, .int .i64 w1.cls, .int .i64 w1.unt] : List Value) from Src.own (j := 0) (o := 0) (n := 23) (c := ([.int .i64 w1.n, .int .i64 w1.time, .int .i64 w1.kind, .int .i64 w1.story, .string w1.lang, .int .i64 w1.rev, .int .i64 w1.base, .string w1.title, .string w1.author, .slice w1tp w1.topics.length w1tc, .slice w1bp w1.blocks.length w1bc, .int .i64 w1.lab.unt, .slice w1ap w1.lab.after.length w1ac, .int .i64 w1.lab.appr, .int .i64 w1.lab.den, .int .i64 w1.editor, .int .i64 w1.block, .int .i64 w1.sentence, .string w1.text, .string w1.name, .int .i64 w1.partner, .int .i64 w1.cls, .int .i64 w1.unt] : List Value)) (by kernel_rfl)) (by simp) (by simp [Value.oneCell']) H.1 H.2.1 (fun B4 cap1 r5 h1 h2 => ?_)
   replace H := H.2.2 B4 cap1 r5 h1 h2
   refine AtE.front ?_
   refine AtE.norm (k' := [.inRegion (regOps [.code (sub (Eng.body Tryz.f9) [1,1,1,1,0,1,0,0,1,0,0])]) [8], .inBlock 1, .code (sub (Eng.body Tryz.f9) [1,1,1,1,0,1,0,0,1,1]), .inLoop (sub (Eng.body Tryz.f9) [1,1,1,1,0,1,0,0]), .inBlock 0, .code (sub (Eng.body Tryz.f9) [1,1,1,1,1])]) (e' := [(0, .slice a_p a_l a_c), (1, .slice b_p b_l b_c), (2, .bool equal2), (7, .bool ok1), (9, .slice none 0 0), (10, .int .i64 i2), (32, .slice (some ⟨B4, 0, none⟩) (l_l + 1) cap1)]) (L' := ((B4, .cells ⟨((cs).take (l_l * 23) ++ ([.int .i64 w1.n, .int .i64 w1.time, .int .i64 w1.kind, .int .i64 w1.story, .string w1.lang, .int .i64 w1.rev, .int .i64 w1.base, .string w1.title, .string w1.author, .slice w1tp w1.topics.length w1tc, .slice w1bp w1.blocks.length w1bc, .int .i64 w1.lab.unt, .slice w1ap w1.lab.after.length w1ac, .int .i64 w1.lab.appr, .int .i64 w1.lab.den, .int .i64 w1.editor, .int .i64 w1.block, .int .i64 w1.sentence, .string w1.text, .string w1.name, .int .i64 w1.partner, .int .i64 w1.cls, .int .i64 w1.unt] : List Value) ++ r5)⟩ 28) :: (B3, .cells (law6A7 w1 w1tp w1tc w1bp w1bc w1ap w1ac) 28) :: F5)) ?_ (by kernel_rfl)
   refine AtE.ru 7 ?_
   refine AtE.letI 10 (kd := .i64) (n := (IntKind.i64.wrap (i2 + (1 : Int)))) (by kernel_rfl) (fun i4 hi4 => ?_)
   replace H := H i4 hi4
   refine AtE.ru 2 ?_
   exact AtE.cutT [0] 2 H (by kernel_rfl)
  ·replace H := H.2 h4'
   refine AtE.ru 9 ?_
   exact AtE.cutT [0] 1 H (by kernel_rfl)
 ·replace H := H.2 h3'
  refine AtE.ru 13 ?_
  exact AtE.cutT [0] 1 H (by kernel_rfl)
theorem law6_c2_vc (a_p : Option Addr) (a_l : Nat) (a_c : Nat) (b_p : Option Addr) (b_l : Nat) (b_c : Nat) (equal : Bool) (equal3 : Bool) (ok2 : Bool) (l1_p : Option Addr) (l1_l : Nat) (l1_c : Nat) (i3 : Int) (F4 : SHeap) {R : Ending → World → Prop} {w0 : World}
  (H :
   ((i3 < (b_l : Int)) →
    ((i3 < (5 : Int)) →
     ∃ b_pb b_po : Nat, b_p = some ⟨b_pb, b_po, none⟩ ∧ (0 ≤ i3 ∧ i3 < b_l) ∧
     ∃ (cw2 : List Value) (m31 : Fct) (m31tp : Option Addr) (m31tc : Nat) (m31bp : Option Addr) (m31bc : Nat) (m31ap : Option Addr) (m31ac : Nat), held (F4) w0 b_pb cw2 ∧ ((cw2.drop (b_po + ((Int.toNat i3) * 23))).take 23 = [.int .i64 m31.n, .int .i64 m31.time, .int .i64 m31.kind, .int .i64 m31.story, .string m31.lang, .int .i64 m31.rev, .int .i64 m31.base, .string m31.title, .string m31.author, .slice m31tp m31.topics.length m31tc, .slice m31bp m31.blocks.length m31bc, .int .i64 m31.lab.unt, .slice m31ap m31.lab.after.length m31ac, .int .i64 m31.lab.appr, .int .i64 m31.lab.den, .int .i64 m31.editor, .int .i64 m31.block, .int .i64 m31.sentence, .string m31.text, .string m31.name, .int .i64 m31.partner, .int .i64 m31.cls, .int .i64 m31.unt] ∧ (b_po + ((Int.toNat i3) * 23)) + 23 ≤ cw2.length) ∧
     CallH Tryz.prog 18 ⟨[.agg (law6A2 m31 m31tp m31tc m31bp m31bc m31ap m31ac)]⟩ (F4) [] w0 (fun v L' => ∃ (w2 : Fct) (w2tp : Option Addr) (w2tc : Nat) (w2bp : Option Addr) (w2bc : Nat) (w2ap : Option Addr) (w2ac : Nat) (F6 : SHeap), v = (.agg (law6A8 w2 w2tp w2tc w2bp w2bc w2ap w2ac)) ∧ L' = (F6) ∧
      ∀ B5 : Nat,
      ∀ (B6 cap2 : Nat) (r7 : List Value), 1 ≤ cap2 → (([.int .i64 w2.n, .int .i64 w2.time, .int .i64 w2.kind, .int .i64 w2.story, .string w2.lang, .int .i64 w2.rev, .int .i64 w2.base, .string w2.title, .string w2.author, .slice w2tp w2.topics.length w2tc, .slice w2bp w2.blocks.length w2bc, .int .i64 w2.lab.unt, .slice w2ap w2.lab.after.length w2ac, .int .i64 w2.lab.appr, .int .i64 w2.lab.den, .int .i64 w2.editor, .int .i64 w2.block, .int .i64 w2.sentence, .string w2.text, .string w2.name, .int .i64 w2.partner, .int .i64 w2.cls, .int .i64 w2.unt] : List Value) ++ r7).length = cap2 * 23 →
      ∀ i5 : Int, i5 = (IntKind.i64.wrap (i3 + (1 : Int))) →
      law6_c3 a_p a_l a_c b_p b_l b_c equal B6 equal3 ok2 l1_p l1_l l1_c 1 cap2 i5 (([.int .i64 w2.n, .int .i64 w2.time, .int .i64 w2.kind, .int .i64 w2.story, .string w2.lang, .int .i64 w2.rev, .int .i64 w2.base, .string w2.title, .string w2.author, .slice w2tp w2.topics.length w2tc, .slice w2bp w2.blocks.length w2bc, .int .i64 w2.lab.unt, .slice w2ap w2.lab.after.length w2ac, .int .i64 w2.lab.appr, .int .i64 w2.lab.den, .int .i64 w2.editor, .int .i64 w2.block, .int .i64 w2.sentence, .string w2.text, .string w2.name, .int .i64 w2.partner, .int .i64 w2.cls, .int .i64 w2.unt] : List Value) ++ r7) F6 w0 R)) ∧
     ((¬ (i3 < (5 : Int))) →
     ((equal3 = true) →
      law6_c4 a_p a_l a_c b_p b_l b_c equal ok2 l1_p l1_l l1_c l1_p l1_l l1_c (decide ((l1_l : Int) = (l1_l : Int))) (0 : Int) F4 w0 R) ∧
      ((equal3 = false) →
      law6_c4 a_p a_l a_c b_p b_l b_c equal ok2 l1_p l1_l l1_c none 0 0 (decide ((l1_l : Int) = (0 : Int))) (0 : Int) F4 w0 R))) ∧
    ((¬ (i3 < (b_l : Int))) →
    ((equal3 = true) →
     law6_c4 a_p a_l a_c b_p b_l b_c equal ok2 l1_p l1_l l1_c l1_p l1_l l1_c (decide ((l1_l : Int) = (l1_l : Int))) (0 : Int) F4 w0 R) ∧
     ((equal3 = false) →
     law6_c4 a_p a_l a_c b_p b_l b_c equal ok2 l1_p l1_l l1_c none 0 0 (decide ((l1_l : Int) = (0 : Int))) (0 : Int) F4 w0 R))) :
  law6_c2 a_p a_l a_c b_p b_l b_c equal equal3 ok2 l1_p l1_l l1_c i3 F4 w0 R := by
 unfold law6_c2
 refine AtE.ru 8 ?_
 refine AtE.splitP 37 (p := i3 < (b_l : Int)) (by kernel_rfl) (fun h5' => ?_) (fun h5' => ?_)
 ·replace H := H.1 h5'
  refine AtE.ru 4 ?_
  refine AtE.splitP 40 (p := i3 < (5 : Int)) (by kernel_rfl) (fun h6' => ?_) (fun h6' => ?_)
  ·replace H := H.1 h6'
   refine AtE.ru 8 ?_
   obtain ⟨b_pb, b_po, hp, H⟩ := H
   refine AtE.indexAddrP (E := 28) (p := b_p) (b := b_pb) (o := b_po) (len := b_l) (cap := b_c) (sz := 23) (o' := (b_po + ((Int.toNat i3) * 23))) (kd := .i64) (i := i3) hp (by kernel_rfl) H.1 (by omega) ?_
   replace H := H.2
   obtain ⟨cw2, m31, m31tp, m31tc, m31bp, m31bc, m31ap, m31ac, hw, hx, H⟩ := H
   refine AtE.loadM (b := b_pb) (off := (b_po + ((Int.toNat i3) * 23))) (T := 28) (v := .agg (law6A2 m31 m31tp m31tc m31bp m31bc m31ap m31ac)) (by kernel_rfl) List.not_mem_nil hw (valAt_agg hx.1 hx.2 (by kernel_rfl) (by kernel_rfl)) ?_
   refine AtE.call 18 ⟨[.agg (law6A2 m31 m31tp m31tc m31bp m31bc m31ap m31ac)]⟩ (fun W => by kernel_rfl) (by kernel_rfl) H ?_
   clear H
   rintro _ F6 ⟨w2, w2tp, w2tc, w2bp, w2bc, w2ap, w2ac, _, rfl, rfl, H⟩
   refine AtE.new (fun B => .slice (some ⟨B, 0, none⟩) 1 1) (.cells (law6A8 w2 w2tp w2tc w2bp w2bc w2ap w2ac) 28) (fun W => by kernel_rfl) (by kernel_rfl) (fun B5 => ?_)
   replace H := H B5
   refine AtE.front ?_
   refine AtE.appendN (T := 45) (E := 28) (z := .agg law6A0) (sz := 23) (bytes := 272) (a := ⟨B5, 0, none⟩) (m := 1) (c := 1) ([.int .i64 w2.n, .int .i64 w2.time, .int .i64 w2.kind, .int .i64 w2.story, .string w2.lang, .int .i64 w2.rev, .int .i64 w2.base, .string w2.title, .string w2.author, .slice w2tp w2.topics.length w2tc, .slice w2bp w2.blocks.length w2bc, .int .i64 w2.lab.unt, .slice w2ap w2.lab.after.length w2ac, .int .i64 w2.lab.appr, .int .i64 w2.lab.den, .int .i64 w2.editor, .int .i64 w2.block, .int .i64 w2.sentence, .string w2.text, .string w2.name, .int .i64 w2.partner, .int .i64 w2.cls, .int .i64 w2.unt] : List Value) (by kernel_rfl) (show Src _ _ _ _ ([.int .i64 w2.n, .int .i64 w2.time, .int .i64 w2.kind, .int .i64 w2.story, .string w2.lang, .int .i64 w2.rev, .int .i64 w2.base, .string w2.title, .string w2.author, .slice w2tp w2.topics.length w2tc, .slice w2bp w2.blocks.length w2bc, .int .i64 w2.lab.unt, .slice w2ap w2.lab.after.length w2ac, .int .i64 w2.lab.appr, .int .i64 w2.lab.den, .int .i64 w2.editor, .int .i64 w2.block, .int .i64 w2.sentence, .string w2.text, .string w2.name, .int .i64 w2.partner, .int .i64 w2.cls, .int .i64 w2.unt] : List Value) from Src.own (j := 0) (o := 0) (n := 23) (c := ([.int .i64 w2.n, .int .i64 w2.time, .int .i64 w2.kind, .int .i64 w2.story, .string w2.lang, .int .i64 w2.rev, .int .i64 w2.base, .string w2.title, .string w2.author, .slice w2tp w2.topics.length w2tc, .slice w2bp w2.blocks.length w2bc, .int .i64 w2.lab.unt, .slice w2ap w2.lab.after.length w2ac, .int .i64 w2.lab.appr, .int .i64 w2.lab.den, .int .i64 w2.editor, .int .i64 w2.block, .int .i64 w2.sentence, .string w2.text, .string w2.name, .int .i64 w2.partner, .int .i64 w2.cls, .int .i64 w2.unt] : List Value)) (by kernel_rfl)) (by simp) (by omega) (by omega) (fun B6 cap2 r7 h1 h2 => ?_)
   replace H := H B6 cap2 r7 h1 h2
   refine AtE.front ?_
   refine AtE.norm (k' := [.inRegion (regOps [.code (sub (Eng.body Tryz.f9) [1,1,1,1,1,0,1,0,0,1,0,0])]) [8], .inBlock 3, .code (sub (Eng.body Tryz.f9) [1,1,1,1,1,0,1,0,0,1,1]), .inLoop (sub (Eng.body Tryz.f9) [1,1,1,1,1,0,1,0,0]), .inBlock 2, .code (sub (Eng.body Tryz.f9) [1,1,1,1,1,1])]) (e' := [(1, .slice b_p b_l b_c), (2, .bool equal3), (7, .bool ok2), (8, .slice l1_p l1_l l1_c), (11, .int .i64 i3), (50, .slice (some ⟨B6, 0, none⟩) 1 cap2)]) (L' := ((B6, .cells ⟨(([.int .i64 w2.n, .int .i64 w2.time, .int .i64 w2.kind, .int .i64 w2.story, .string w2.lang, .int .i64 w2.rev, .int .i64 w2.base, .string w2.title, .string w2.author, .slice w2tp w2.topics.length w2tc, .slice w2bp w2.blocks.length w2bc, .int .i64 w2.lab.unt, .slice w2ap w2.lab.after.length w2ac, .int .i64 w2.lab.appr, .int .i64 w2.lab.den, .int .i64 w2.editor, .int .i64 w2.block, .int .i64 w2.sentence, .string w2.text, .string w2.name, .int .i64 w2.partner, .int .i64 w2.cls, .int .i64 w2.unt] : List Value) ++ r7)⟩ 28) :: (B5, .cells (law6A8 w2 w2tp w2tc w2bp w2bc w2ap w2ac) 28) :: F6)) ?_ (by kernel_rfl)
   refine AtE.ru 7 ?_
   refine AtE.letI 11 (kd := .i64) (n := (IntKind.i64.wrap (i3 + (1 : Int)))) (by kernel_rfl) (fun i5 hi5 => ?_)
   replace H := H i5 hi5
   refine AtE.ru 2 ?_
   exact AtE.cutT [0] 2 H (by kernel_rfl)
  ·replace H := H.2 h6'
   refine AtE.ru 7 ?_
   refine AtE.split 51 (b := equal3) (by kernel_rfl) (fun h7' => ?_) (fun h7' => ?_)
   ·replace H := H.1 h7'
    refine AtE.ru 21 ?_
    exact AtE.cutT [] 0 H (by kernel_rfl)
   ·replace H := H.2 h7'
    refine AtE.ru 18 ?_
    exact AtE.cutT [] 0 H (by kernel_rfl)
 ·replace H := H.2 h5'
  refine AtE.ru 11 ?_
  refine AtE.split 51 (b := equal3) (by kernel_rfl) (fun h8' => ?_) (fun h8' => ?_)
  ·replace H := H.1 h8'
   refine AtE.ru 21 ?_
   exact AtE.cutT [] 0 H (by kernel_rfl)
  ·replace H := H.2 h8'
   refine AtE.ru 18 ?_
   exact AtE.cutT [] 0 H (by kernel_rfl)
theorem law6_c3_vc (a_p : Option Addr) (a_l : Nat) (a_c : Nat) (b_p : Option Addr) (b_l : Nat) (b_c : Nat) (equal : Bool) (B7 : Nat) (equal4 : Bool) (ok3 : Bool) (l2_p : Option Addr) (l2_l : Nat) (l2_c : Nat) (m4_l : Nat) (m4_c : Nat) (i6 : Int) (cs1 : List Value) (F7 : SHeap) {R : Ending → World → Prop} {w0 : World}
  (H :
   ((i6 < (b_l : Int)) →
    ((i6 < (5 : Int)) →
     ∃ b_pb1 b_po1 : Nat, b_p = some ⟨b_pb1, b_po1, none⟩ ∧ (0 ≤ i6 ∧ i6 < b_l) ∧
     ∃ (cw3 : List Value) (m61 : Fct) (m61tp : Option Addr) (m61tc : Nat) (m61bp : Option Addr) (m61bc : Nat) (m61ap : Option Addr) (m61ac : Nat), held ((B7, .cells ⟨cs1⟩ 28) :: F7) w0 b_pb1 cw3 ∧ ((cw3.drop (b_po1 + ((Int.toNat i6) * 23))).take 23 = [.int .i64 m61.n, .int .i64 m61.time, .int .i64 m61.kind, .int .i64 m61.story, .string m61.lang, .int .i64 m61.rev, .int .i64 m61.base, .string m61.title, .string m61.author, .slice m61tp m61.topics.length m61tc, .slice m61bp m61.blocks.length m61bc, .int .i64 m61.lab.unt, .slice m61ap m61.lab.after.length m61ac, .int .i64 m61.lab.appr, .int .i64 m61.lab.den, .int .i64 m61.editor, .int .i64 m61.block, .int .i64 m61.sentence, .string m61.text, .string m61.name, .int .i64 m61.partner, .int .i64 m61.cls, .int .i64 m61.unt] ∧ (b_po1 + ((Int.toNat i6) * 23)) + 23 ≤ cw3.length) ∧
     CallH Tryz.prog 18 ⟨[.agg (law6A3 m61 m61tp m61tc m61bp m61bc m61ap m61ac)]⟩ ((B7, .cells ⟨cs1⟩ 28) :: F7) [] w0 (fun v L' => ∃ (w3 : Fct) (w3tp : Option Addr) (w3tc : Nat) (w3bp : Option Addr) (w3bc : Nat) (w3ap : Option Addr) (w3ac : Nat) (F9 : SHeap), v = (.agg (law6A9 w3 w3tp w3tc w3bp w3bc w3ap w3ac)) ∧ L' = ((B7, .cells ⟨cs1⟩ 28) :: F9) ∧
      ∀ B8 : Nat,
      (m4_l ≤ m4_c ∧ (cs1).length = m4_c * 23) ∧ ((m4_l + 1) ≤ 9223372036854775807 ∧ (m4_l + 1) * 272 ≤ 140737488355328) ∧
      ∀ (B9 cap3 : Nat) (r9 : List Value), (m4_l + 1) ≤ cap3 → ((cs1).take (m4_l * 23) ++ ([.int .i64 w3.n, .int .i64 w3.time, .int .i64 w3.kind, .int .i64 w3.story, .string w3.lang, .int .i64 w3.rev, .int .i64 w3.base, .string w3.title, .string w3.author, .slice w3tp w3.topics.length w3tc, .slice w3bp w3.blocks.length w3bc, .int .i64 w3.lab.unt, .slice w3ap w3.lab.after.length w3ac, .int .i64 w3.lab.appr, .int .i64 w3.lab.den, .int .i64 w3.editor, .int .i64 w3.block, .int .i64 w3.sentence, .string w3.text, .string w3.name, .int .i64 w3.partner, .int .i64 w3.cls, .int .i64 w3.unt] : List Value) ++ r9).length = cap3 * 23 →
      ∀ i8 : Int, i8 = (IntKind.i64.wrap (i6 + (1 : Int))) →
      law6_c3 a_p a_l a_c b_p b_l b_c equal B9 equal4 ok3 l2_p l2_l l2_c (m4_l + 1) cap3 i8 ((cs1).take (m4_l * 23) ++ ([.int .i64 w3.n, .int .i64 w3.time, .int .i64 w3.kind, .int .i64 w3.story, .string w3.lang, .int .i64 w3.rev, .int .i64 w3.base, .string w3.title, .string w3.author, .slice w3tp w3.topics.length w3tc, .slice w3bp w3.blocks.length w3bc, .int .i64 w3.lab.unt, .slice w3ap w3.lab.after.length w3ac, .int .i64 w3.lab.appr, .int .i64 w3.lab.den, .int .i64 w3.editor, .int .i64 w3.block, .int .i64 w3.sentence, .string w3.text, .string w3.name, .int .i64 w3.partner, .int .i64 w3.cls, .int .i64 w3.unt] : List Value) ++ r9) F9 w0 R)) ∧
     ((¬ (i6 < (5 : Int))) →
     ((equal4 = true) →
      law6_c4 a_p a_l a_c b_p b_l b_c equal ok3 l2_p l2_l l2_c l2_p l2_l l2_c (decide ((l2_l : Int) = (l2_l : Int))) (0 : Int) F7 w0 R) ∧
      ((equal4 = false) →
      law6_c4 a_p a_l a_c b_p b_l b_c equal ok3 l2_p l2_l l2_c (some ⟨B7, 0, none⟩) m4_l m4_c (decide ((l2_l : Int) = (m4_l : Int))) (0 : Int) ((B7, .cells ⟨cs1⟩ 28) :: F7) w0 R))) ∧
    ((¬ (i6 < (b_l : Int))) →
    ((equal4 = true) →
     law6_c4 a_p a_l a_c b_p b_l b_c equal ok3 l2_p l2_l l2_c l2_p l2_l l2_c (decide ((l2_l : Int) = (l2_l : Int))) (0 : Int) F7 w0 R) ∧
     ((equal4 = false) →
     law6_c4 a_p a_l a_c b_p b_l b_c equal ok3 l2_p l2_l l2_c (some ⟨B7, 0, none⟩) m4_l m4_c (decide ((l2_l : Int) = (m4_l : Int))) (0 : Int) ((B7, .cells ⟨cs1⟩ 28) :: F7) w0 R))) :
  law6_c3 a_p a_l a_c b_p b_l b_c equal B7 equal4 ok3 l2_p l2_l l2_c m4_l m4_c i6 cs1 F7 w0 R := by
 unfold law6_c3
 refine AtE.ru 8 ?_
 refine AtE.splitP 37 (p := i6 < (b_l : Int)) (by kernel_rfl) (fun h9' => ?_) (fun h9' => ?_)
 ·replace H := H.1 h9'
  refine AtE.ru 4 ?_
  refine AtE.splitP 40 (p := i6 < (5 : Int)) (by kernel_rfl) (fun h10' => ?_) (fun h10' => ?_)
  ·replace H := H.1 h10'
   refine AtE.ru 8 ?_
   obtain ⟨b_pb1, b_po1, hp, H⟩ := H
   refine AtE.indexAddrP (E := 28) (p := b_p) (b := b_pb1) (o := b_po1) (len := b_l) (cap := b_c) (sz := 23) (o' := (b_po1 + ((Int.toNat i6) * 23))) (kd := .i64) (i := i6) hp (by kernel_rfl) H.1 (by omega) ?_
   replace H := H.2
   obtain ⟨cw3, m61, m61tp, m61tc, m61bp, m61bc, m61ap, m61ac, hw, hx, H⟩ := H
   refine AtE.loadM (b := b_pb1) (off := (b_po1 + ((Int.toNat i6) * 23))) (T := 28) (v := .agg (law6A3 m61 m61tp m61tc m61bp m61bc m61ap m61ac)) (by kernel_rfl) List.not_mem_nil hw (valAt_agg hx.1 hx.2 (by kernel_rfl) (by kernel_rfl)) ?_
   refine AtE.call 18 ⟨[.agg (law6A3 m61 m61tp m61tc m61bp m61bc m61ap m61ac)]⟩ (fun W => by kernel_rfl) (by kernel_rfl) H ?_
   clear H
   rintro _ _ ⟨w3, w3tp, w3tc, w3bp, w3bc, w3ap, w3ac, F9, rfl, rfl, H⟩
   refine AtE.new (fun B => .slice (some ⟨B, 0, none⟩) 1 1) (.cells (law6A9 w3 w3tp w3tc w3bp w3bc w3ap w3ac) 28) (fun W => by kernel_rfl) (by kernel_rfl) (fun B8 => ?_)
   replace H := H B8
   refine AtE.front ?_
   refine AtE.appendO 1 (T := 45) (E := 28) (z := .agg law6A0) (sz := 23) (bytes := 272) (n := m4_l) (cap := m4_c) (a := ⟨B8, 0, none⟩) (m := 1) (c := 1) (cs := cs1) ([.int .i64 w3.n, .int .i64 w3.time, .int .i64 w3.kind, .int .i64 w3.story, .string w3.lang, .int .i64 w3.rev, .int .i64 w3.base, .string w3.title, .string w3.author, .slice w3tp w3.topics.length w3tc, .slice w3bp w3.blocks.length w3bc, .int .i64 w3.lab.unt, .slice w3ap w3.lab.after.length w3ac, .int .i64 w3.lab.appr, .int .i64 w3.lab.den, .int .i64 w3.editor, .int .i64 w3.block, .int .i64 w3.sentence, .string w3.text, .string w3.name, .int .i64 w3.partner, .int .i64 w3.cls, .int .i64 w3.unt] : List Value) (by kernel_rfl) (show Src _ _ _ _ ([.int .i64 w3.n, .int .i64 w3.time, .int .i64 w3.kind, .int .i64 w3.story, .string w3.lang, .int .i64 w3.rev, .int .i64 w3.base, .string w3.title, .string w3.author, .slice w3tp w3.topics.length w3tc, .slice w3bp w3.blocks.length w3bc, .int .i64 w3.lab.unt, .slice w3ap w3.lab.after.length w3ac, .int .i64 w3.lab.appr, .int .i64 w3.lab.den, .int .i64 w3.editor, .int .i64 w3.block, .int .i64 w3.sentence, .string w3.text, .string w3.name, .int .i64 w3.partner, .int .i64 w3.cls, .int .i64 w3.unt] : List Value) from Src.own (j := 0) (o := 0) (n := 23) (c := ([.int .i64 w3.n, .int .i64 w3.time, .int .i64 w3.kind, .int .i64 w3.story, .string w3.lang, .int .i64 w3.rev, .int .i64 w3.base, .string w3.title, .string w3.author, .slice w3tp w3.topics.length w3tc, .slice w3bp w3.blocks.length w3bc, .int .i64 w3.lab.unt, .slice w3ap w3.lab.after.length w3ac, .int .i64 w3.lab.appr, .int .i64 w3.lab.den, .int .i64 w3.editor, .int .i64 w3.block, .int .i64 w3.sentence, .string w3.text, .string w3.name, .int .i64 w3.partner, .int .i64 w3.cls, .int .i64 w3.unt] : List Value)) (by kernel_rfl)) (by simp) (by simp [Value.oneCell']) H.1 H.2.1 (fun B9 cap3 r9 h1 h2 => ?_)
   replace H := H.2.2 B9 cap3 r9 h1 h2
   refine AtE.front ?_
   refine AtE.norm (k' := [.inRegion (regOps [.code (sub (Eng.body Tryz.f9) [1,1,1,1,1,0,1,0,0,1,0,0])]) [8], .inBlock 3, .code (sub (Eng.body Tryz.f9) [1,1,1,1,1,0,1,0,0,1,1]), .inLoop (sub (Eng.body Tryz.f9) [1,1,1,1,1,0,1,0,0]), .inBlock 2, .code (sub (Eng.body Tryz.f9) [1,1,1,1,1,1])]) (e' := [(1, .slice b_p b_l b_c), (2, .bool equal4), (7, .bool ok3), (8, .slice l2_p l2_l l2_c), (11, .int .i64 i6), (50, .slice (some ⟨B9, 0, none⟩) (m4_l + 1) cap3)]) (L' := ((B9, .cells ⟨((cs1).take (m4_l * 23) ++ ([.int .i64 w3.n, .int .i64 w3.time, .int .i64 w3.kind, .int .i64 w3.story, .string w3.lang, .int .i64 w3.rev, .int .i64 w3.base, .string w3.title, .string w3.author, .slice w3tp w3.topics.length w3tc, .slice w3bp w3.blocks.length w3bc, .int .i64 w3.lab.unt, .slice w3ap w3.lab.after.length w3ac, .int .i64 w3.lab.appr, .int .i64 w3.lab.den, .int .i64 w3.editor, .int .i64 w3.block, .int .i64 w3.sentence, .string w3.text, .string w3.name, .int .i64 w3.partner, .int .i64 w3.cls, .int .i64 w3.unt] : List Value) ++ r9)⟩ 28) :: (B8, .cells (law6A9 w3 w3tp w3tc w3bp w3bc w3ap w3ac) 28) :: F9)) ?_ (by kernel_rfl)
   refine AtE.ru 7 ?_
   refine AtE.letI 11 (kd := .i64) (n := (IntKind.i64.wrap (i6 + (1 : Int)))) (by kernel_rfl) (fun i8 hi8 => ?_)
   replace H := H i8 hi8
   refine AtE.ru 2 ?_
   exact AtE.cutT [0] 2 H (by kernel_rfl)
  ·replace H := H.2 h10'
   refine AtE.ru 7 ?_
   refine AtE.split 51 (b := equal4) (by kernel_rfl) (fun h11' => ?_) (fun h11' => ?_)
   ·replace H := H.1 h11'
    refine AtE.ru 21 ?_
    exact AtE.cutT [] 1 H (by kernel_rfl)
   ·replace H := H.2 h11'
    refine AtE.ru 18 ?_
    exact AtE.cutT [0] 1 H (by kernel_rfl)
 ·replace H := H.2 h9'
  refine AtE.ru 11 ?_
  refine AtE.split 51 (b := equal4) (by kernel_rfl) (fun h12' => ?_) (fun h12' => ?_)
  ·replace H := H.1 h12'
   refine AtE.ru 21 ?_
   exact AtE.cutT [] 1 H (by kernel_rfl)
  ·replace H := H.2 h12'
   refine AtE.ru 18 ?_
   exact AtE.cutT [0] 1 H (by kernel_rfl)
theorem law6_c4_vc (a_p : Option Addr) (a_l : Nat) (a_c : Nat) (b_p : Option Addr) (b_l : Nat) (b_c : Nat) (equal : Bool) (ok4 : Bool) (l3_p : Option Addr) (l3_l : Nat) (l3_c : Nat) (m5_p : Option Addr) (m5_l : Nat) (m5_c : Nat) (same : Bool) (i7 : Int) (F8 : SHeap) {R : Ending → World → Prop} {w0 : World}
  (H :
   ((i7 < (l3_l : Int)) →
    ((i7 < (m5_l : Int)) →
     ((same = true) →
      ∃ l3_pb l3_po : Nat, l3_p = some ⟨l3_pb, l3_po, none⟩ ∧ (0 ≤ i7 ∧ i7 < l3_l) ∧
      ∃ (cw4 : List Value) (m71 : Fct) (m71tp : Option Addr) (m71tc : Nat) (m71bp : Option Addr) (m71bc : Nat) (m71ap : Option Addr) (m71ac : Nat), held (F8) w0 l3_pb cw4 ∧ ((cw4.drop (l3_po + ((Int.toNat i7) * 23))).take 23 = [.int .i64 m71.n, .int .i64 m71.time, .int .i64 m71.kind, .int .i64 m71.story, .string m71.lang, .int .i64 m71.rev, .int .i64 m71.base, .string m71.title, .string m71.author, .slice m71tp m71.topics.length m71tc, .slice m71bp m71.blocks.length m71bc, .int .i64 m71.lab.unt, .slice m71ap m71.lab.after.length m71ac, .int .i64 m71.lab.appr, .int .i64 m71.lab.den, .int .i64 m71.editor, .int .i64 m71.block, .int .i64 m71.sentence, .string m71.text, .string m71.name, .int .i64 m71.partner, .int .i64 m71.cls, .int .i64 m71.unt] ∧ (l3_po + ((Int.toNat i7) * 23)) + 23 ≤ cw4.length) ∧
      ∃ m5_pb m5_po : Nat, m5_p = some ⟨m5_pb, m5_po, none⟩ ∧ (0 ≤ i7 ∧ i7 < m5_l) ∧
      ∃ (cw5 : List Value) (m81 : Fct) (m81tp : Option Addr) (m81tc : Nat) (m81bp : Option Addr) (m81bc : Nat) (m81ap : Option Addr) (m81ac : Nat), held (F8) w0 m5_pb cw5 ∧ ((cw5.drop (m5_po + ((Int.toNat i7) * 23))).take 23 = [.int .i64 m81.n, .int .i64 m81.time, .int .i64 m81.kind, .int .i64 m81.story, .string m81.lang, .int .i64 m81.rev, .int .i64 m81.base, .string m81.title, .string m81.author, .slice m81tp m81.topics.length m81tc, .slice m81bp m81.blocks.length m81bc, .int .i64 m81.lab.unt, .slice m81ap m81.lab.after.length m81ac, .int .i64 m81.lab.appr, .int .i64 m81.lab.den, .int .i64 m81.editor, .int .i64 m81.block, .int .i64 m81.sentence, .string m81.text, .string m81.name, .int .i64 m81.partner, .int .i64 m81.cls, .int .i64 m81.unt] ∧ (m5_po + ((Int.toNat i7) * 23)) + 23 ≤ cw5.length) ∧
      CallH Tryz.prog 22 ⟨[.agg (law6A4 m71 m71tp m71tc m71bp m71bc m71ap m71ac), .agg (law6A5 m81 m81tp m81tc m81bp m81bc m81ap m81ac)]⟩ (F8) [] w0 (fun v L' => ∃ (r101 : Bool), v = (.bool r101) ∧ L' = (F8) ∧
       ∀ i9 : Int, i9 = (IntKind.i64.wrap (i7 + (1 : Int))) →
       law6_c4 a_p a_l a_c b_p b_l b_c equal ok4 l3_p l3_l l3_c m5_p m5_l m5_c r101 i9 F8 w0 R)) ∧
      ((same = false) →
      ∀ i10 : Int, i10 = (IntKind.i64.wrap (i7 + (1 : Int))) →
      law6_c4 a_p a_l a_c b_p b_l b_c equal ok4 l3_p l3_l l3_c m5_p m5_l m5_c false i10 F8 w0 R)) ∧
     ((¬ (i7 < (m5_l : Int))) →
     ((ok4 = true) →
      CallH Tryz.prog 27 ⟨[.slice l3_p l3_l l3_c, .slice m5_p m5_l m5_c]⟩ (F8) [] w0 (fun v L' => ∃ (r111 : Bool), v = (.bool r111) ∧ L' = (F8) ∧
       ((r111 = true) →
        ((same = true) →
         (((l3_l : Int) = (0 : Int)) →
          Fin R (F8) [] w0 (.bool true)) ∧
          ((¬ ((l3_l : Int) = (0 : Int))) →
          ∃ l3_pb1 l3_po1 : Nat, l3_p = some ⟨l3_pb1, l3_po1, none⟩ ∧
          (0 ≤ (1 : Int) ∧ (1 : Int) ≤ (l3_l : Int) ∧ (l3_l : Int) ≤ (l3_c : Int)) ∧
          ∀ o : Nat, o = (if (Int.toNat (1 : Int)) = l3_c then l3_po1 else l3_po1 + (Int.toNat (1 : Int)) * 23) →
          CallH Tryz.prog 27 ⟨[.slice (some ⟨l3_pb1, l3_po1, none⟩) l3_l l3_c, .slice (some ⟨l3_pb1, o, none⟩) (l3_l - (Int.toNat (1 : Int))) (l3_c - (Int.toNat (1 : Int)))]⟩ (F8) [] w0 (fun v L' => ∃ (r121 : Bool), v = (.bool r121) ∧ L' = (F8) ∧
           ((r121 = true) →
            Fin R (F8) [] w0 (.bool false)) ∧
            ((r121 = false) →
            Fin R (F8) [] w0 (.bool true))))) ∧
         ((same = false) →
         Fin R (F8) [] w0 (.bool false))) ∧
        ((r111 = false) →
        ((same = true) →
         Fin R (F8) [] w0 (.bool false)) ∧
         ((same = false) →
         (((l3_l : Int) = (0 : Int)) →
          Fin R (F8) [] w0 (.bool true)) ∧
          ((¬ ((l3_l : Int) = (0 : Int))) →
          ∃ l3_pb2 l3_po2 : Nat, l3_p = some ⟨l3_pb2, l3_po2, none⟩ ∧
          (0 ≤ (1 : Int) ∧ (1 : Int) ≤ (l3_l : Int) ∧ (l3_l : Int) ≤ (l3_c : Int)) ∧
          ∀ o1 : Nat, o1 = (if (Int.toNat (1 : Int)) = l3_c then l3_po2 else l3_po2 + (Int.toNat (1 : Int)) * 23) →
          CallH Tryz.prog 27 ⟨[.slice (some ⟨l3_pb2, l3_po2, none⟩) l3_l l3_c, .slice (some ⟨l3_pb2, o1, none⟩) (l3_l - (Int.toNat (1 : Int))) (l3_c - (Int.toNat (1 : Int)))]⟩ (F8) [] w0 (fun v L' => ∃ (r131 : Bool), v = (.bool r131) ∧ L' = (F8) ∧
           ((r131 = true) →
            Fin R (F8) [] w0 (.bool false)) ∧
            ((r131 = false) →
            Fin R (F8) [] w0 (.bool true)))))))) ∧
      ((ok4 = false) →
      Fin R (F8) [] w0 (.bool false)))) ∧
    ((¬ (i7 < (l3_l : Int))) →
    ((ok4 = true) →
     CallH Tryz.prog 27 ⟨[.slice l3_p l3_l l3_c, .slice m5_p m5_l m5_c]⟩ (F8) [] w0 (fun v L' => ∃ (r141 : Bool), v = (.bool r141) ∧ L' = (F8) ∧
      ((r141 = true) →
       ((same = true) →
        (((l3_l : Int) = (0 : Int)) →
         Fin R (F8) [] w0 (.bool true)) ∧
         ((¬ ((l3_l : Int) = (0 : Int))) →
         ∃ l3_pb3 l3_po3 : Nat, l3_p = some ⟨l3_pb3, l3_po3, none⟩ ∧
         (0 ≤ (1 : Int) ∧ (1 : Int) ≤ (l3_l : Int) ∧ (l3_l : Int) ≤ (l3_c : Int)) ∧
         ∀ o2 : Nat, o2 = (if (Int.toNat (1 : Int)) = l3_c then l3_po3 else l3_po3 + (Int.toNat (1 : Int)) * 23) →
         CallH Tryz.prog 27 ⟨[.slice (some ⟨l3_pb3, l3_po3, none⟩) l3_l l3_c, .slice (some ⟨l3_pb3, o2, none⟩) (l3_l - (Int.toNat (1 : Int))) (l3_c - (Int.toNat (1 : Int)))]⟩ (F8) [] w0 (fun v L' => ∃ (r151 : Bool), v = (.bool r151) ∧ L' = (F8) ∧
          ((r151 = true) →
           Fin R (F8) [] w0 (.bool false)) ∧
           ((r151 = false) →
           Fin R (F8) [] w0 (.bool true))))) ∧
        ((same = false) →
        Fin R (F8) [] w0 (.bool false))) ∧
       ((r141 = false) →
       ((same = true) →
        Fin R (F8) [] w0 (.bool false)) ∧
        ((same = false) →
        (((l3_l : Int) = (0 : Int)) →
         Fin R (F8) [] w0 (.bool true)) ∧
         ((¬ ((l3_l : Int) = (0 : Int))) →
         ∃ l3_pb4 l3_po4 : Nat, l3_p = some ⟨l3_pb4, l3_po4, none⟩ ∧
         (0 ≤ (1 : Int) ∧ (1 : Int) ≤ (l3_l : Int) ∧ (l3_l : Int) ≤ (l3_c : Int)) ∧
         ∀ o3 : Nat, o3 = (if (Int.toNat (1 : Int)) = l3_c then l3_po4 else l3_po4 + (Int.toNat (1 : Int)) * 23) →
         CallH Tryz.prog 27 ⟨[.slice (some ⟨l3_pb4, l3_po4, none⟩) l3_l l3_c, .slice (some ⟨l3_pb4, o3, none⟩) (l3_l - (Int.toNat (1 : Int))) (l3_c - (Int.toNat (1 : Int)))]⟩ (F8) [] w0 (fun v L' => ∃ (r161 : Bool), v = (.bool r161) ∧ L' = (F8) ∧
          ((r161 = true) →
           Fin R (F8) [] w0 (.bool false)) ∧
           ((r161 = false) →
           Fin R (F8) [] w0 (.bool true)))))))) ∧
     ((ok4 = false) →
     Fin R (F8) [] w0 (.bool false)))) :
  law6_c4 a_p a_l a_c b_p b_l b_c equal ok4 l3_p l3_l l3_c m5_p m5_l m5_c same i7 F8 w0 R := by
 unfold law6_c4
 refine AtE.ru 8 ?_
 refine AtE.splitP 62 (p := i7 < (l3_l : Int)) (by kernel_rfl) (fun h13' => ?_) (fun h13' => ?_)
 ·replace H := H.1 h13'
  refine AtE.ru 6 ?_
  refine AtE.splitP 67 (p := i7 < (m5_l : Int)) (by kernel_rfl) (fun h14' => ?_) (fun h14' => ?_)
  ·replace H := H.1 h14'
   refine AtE.ru 4 ?_
   refine AtE.norm (k' := [.code (sub (Eng.body Tryz.f9) [1,1,1,1,1,1,1,1,0,1,0,0,1,0,0]), .inBlock 5, .code (sub (Eng.body Tryz.f9) [1,1,1,1,1,1,1,1,0,1,0,0,1,1]), .inLoop (sub (Eng.body Tryz.f9) [1,1,1,1,1,1,1,1,0,1,0,0]), .inBlock 4, .code (sub (Eng.body Tryz.f9) [1,1,1,1,1,1,1,1,1])]) (e' := [(7, .bool ok4), (8, .slice l3_p l3_l l3_c), (9, .slice m5_p m5_l m5_c), (12, .bool same), (13, .int .i64 i7)]) (L' := (F8)) ?_ (by kernel_rfl)
   refine AtE.draw 10 (by kernel_rfl) ?_
   refine AtQ.pu ?_
   refine AtQ.pu ?_
   refine AtQ.split 71 (b := same) (by kernel_rfl) (fun h15' => ?_) (fun h15' => ?_)
   ·replace H := H.1 h15'
    refine AtQ.pu ?_
    refine AtQ.pu ?_
    obtain ⟨l3_pb, l3_po, hp, H⟩ := H
    refine AtQ.indexAddrP (E := 28) (p := l3_p) (b := l3_pb) (o := l3_po) (len := l3_l) (cap := l3_c) (sz := 23) (o' := (l3_po + ((Int.toNat i7) * 23))) (kd := .i64) (i := i7) hp (by kernel_rfl) H.1 (by omega) ?_
    replace H := H.2
    obtain ⟨cw4, m71, m71tp, m71tc, m71bp, m71bc, m71ap, m71ac, hw, hx, H⟩ := H
    refine AtQ.loadM (b := l3_pb) (off := (l3_po + ((Int.toNat i7) * 23))) (T := 28) (v := .agg (law6A4 m71 m71tp m71tc m71bp m71bc m71ap m71ac)) (by kernel_rfl) List.not_mem_nil hw (valAt_agg hx.1 hx.2 (by kernel_rfl) (by kernel_rfl)) ?_
    refine AtQ.pu ?_
    refine AtQ.pu ?_
    obtain ⟨m5_pb, m5_po, hp, H⟩ := H
    refine AtQ.indexAddrP (E := 28) (p := m5_p) (b := m5_pb) (o := m5_po) (len := m5_l) (cap := m5_c) (sz := 23) (o' := (m5_po + ((Int.toNat i7) * 23))) (kd := .i64) (i := i7) hp (by kernel_rfl) H.1 (by omega) ?_
    replace H := H.2
    obtain ⟨cw5, m81, m81tp, m81tc, m81bp, m81bc, m81ap, m81ac, hw, hx, H⟩ := H
    refine AtQ.loadM (b := m5_pb) (off := (m5_po + ((Int.toNat i7) * 23))) (T := 28) (v := .agg (law6A5 m81 m81tp m81tc m81bp m81bc m81ap m81ac)) (by kernel_rfl) List.not_mem_nil hw (valAt_agg hx.1 hx.2 (by kernel_rfl) (by kernel_rfl)) ?_
    refine AtQ.done (by kernel_rfl) ?_
    refine AtE.call 22 ⟨[.agg (law6A4 m71 m71tp m71tc m71bp m71bc m71ap m71ac), .agg (law6A5 m81 m81tp m81tc m81bp m81bc m81ap m81ac)]⟩ (fun W => by kernel_rfl) (by kernel_rfl) H ?_
    clear H
    rintro _ F8 ⟨r101, rfl, rfl, H⟩
    refine AtE.ru 8 ?_
    refine AtE.letI 13 (kd := .i64) (n := (IntKind.i64.wrap (i7 + (1 : Int)))) (by kernel_rfl) (fun i9 hi9 => ?_)
    replace H := H i9 hi9
    refine AtE.norm (k' := [.inRegion (regOps [.code (sub (Eng.body Tryz.f9) [1,1,1,1,1,1,1,1,0,1,0,0,1,1])]) [], .inLoop (sub (Eng.body Tryz.f9) [1,1,1,1,1,1,1,1,0,1,0,0]), .inBlock 4, .code (sub (Eng.body Tryz.f9) [1,1,1,1,1,1,1,1,1])]) (e' := [(7, .bool ok4), (8, .slice l3_p l3_l l3_c), (9, .slice m5_p m5_l m5_c), (12, .bool r101), (13, .int .i64 i9)]) (L' := (F8)) ?_ (by kernel_rfl)
    refine AtE.ru 2 ?_
    exact AtE.cutT [] 0 H (by kernel_rfl)
   ·replace H := H.2 h15'
    refine AtQ.skip (by kernel_rfl) ?_
    refine AtQ.skip (by kernel_rfl) ?_
    refine AtQ.skip (by kernel_rfl) ?_
    refine AtQ.skip (by kernel_rfl) ?_
    refine AtQ.skip (by kernel_rfl) ?_
    refine AtQ.skip (by kernel_rfl) ?_
    refine AtQ.skip (by kernel_rfl) ?_
    refine AtQ.skip (by kernel_rfl) ?_
    refine AtQ.done (by kernel_rfl) ?_
    refine AtE.ru 9 ?_
    refine AtE.letI 13 (kd := .i64) (n := (IntKind.i64.wrap (i7 + (1 : Int)))) (by kernel_rfl) (fun i10 hi10 => ?_)
    replace H := H i10 hi10
    refine AtE.ru 2 ?_
    exact AtE.cutT [] 0 H (by kernel_rfl)
  ·replace H := H.2 h14'
   refine AtE.ru 6 ?_
   refine AtE.split 83 (b := ok4) (by kernel_rfl) (fun h16' => ?_) (fun h16' => ?_)
   ·replace H := H.1 h16'
    refine AtE.ru 2 ?_
    refine AtE.call 27 ⟨[.slice l3_p l3_l l3_c, .slice m5_p m5_l m5_c]⟩ (fun W => by kernel_rfl) (by kernel_rfl) H ?_
    clear H
    rintro _ F8 ⟨r111, rfl, rfl, H⟩
    refine AtE.ru 1 ?_
    refine AtE.split 86 (b := r111) (by kernel_rfl) (fun h17' => ?_) (fun h17' => ?_)
    ·replace H := H.1 h17'
     refine AtE.split 87 (b := same) (by kernel_rfl) (fun h18' => ?_) (fun h18' => ?_)
     ·replace H := H.1 h18'
      refine AtE.ru 7 ?_
      refine AtE.splitP 94 (p := (l3_l : Int) = (0 : Int)) (by kernel_rfl) (fun h19' => ?_) (fun h19' => ?_)
      ·replace H := H.1 h19'
       refine AtE.norm (k' := [.inRegion (regOps [.code (sub (Eng.body Tryz.f9) [1,1,1,1,1,1,1,1,1,0])]) [13,14,15,16,17,18,19,20], .code (sub (Eng.body Tryz.f9) [1,1,1,1,1,1,1,1,1,1])]) (e' := [(8, .slice l3_p l3_l l3_c), (90, .bool true), (94, .bool true)]) (L' := (F8)) ?_ (by kernel_rfl)
       refine AtE.ru 9 ?_
       exact AtE.ret Tryz.func9 (by kernel_rfl) H
      ·replace H := H.2 h19'
       refine AtE.norm (k' := [.inRegion (regOps [.code (sub (Eng.body Tryz.f9) [1,1,1,1,1,1,1,1,1,0])]) [13,14,15,16,17,18,19,20], .code (sub (Eng.body Tryz.f9) [1,1,1,1,1,1,1,1,1,1])]) (e' := [(8, .slice l3_p l3_l l3_c), (90, .bool true), (94, .bool false)]) (L' := (F8)) ?_ (by kernel_rfl)
       refine AtE.ru 2 ?_
       obtain ⟨l3_pb1, l3_po1, rfl, H⟩ := H
       obtain ⟨o, ho⟩ : ∃ x : Nat, x = (if (Int.toNat (1 : Int)) = l3_c then l3_po1 else l3_po1 + (Int.toNat (1 : Int)) * 23) := ⟨_, rfl⟩
       refine AtE.sliceL (E := 28) (b := l3_pb1) (o := l3_po1) (len := l3_l) (cap := l3_c) (sz := 23) (o' := o) (l' := (l3_l - (Int.toNat (1 : Int)))) (c' := (l3_c - (Int.toNat (1 : Int)))) (lo := some (.int .i64 (1 : Int))) (hi := none) (x := (1 : Int)) (y := (l3_l : Int)) (by kernel_rfl) (.inl ⟨.i64, rfl⟩) (.inr ⟨rfl, rfl, by omega⟩) H.1 ho (by simp) rfl ?_
       replace H := H.2 o ho
       refine AtE.call 27 ⟨[.slice (some ⟨l3_pb1, l3_po1, none⟩) l3_l l3_c, .slice (some ⟨l3_pb1, o, none⟩) (l3_l - (Int.toNat (1 : Int))) (l3_c - (Int.toNat (1 : Int)))]⟩ (fun W => by kernel_rfl) (by kernel_rfl) H ?_
       clear H
       rintro _ F8 ⟨r121, rfl, rfl, H⟩
       refine AtE.split 98 (b := r121) (by kernel_rfl) (fun h20' => ?_) (fun h20' => ?_)
       ·replace H := H.1 h20'
        refine AtE.ru 5 ?_
        exact AtE.ret Tryz.func9 (by kernel_rfl) H
       ·replace H := H.2 h20'
        refine AtE.ru 5 ?_
        exact AtE.ret Tryz.func9 (by kernel_rfl) H
     ·replace H := H.2 h18'
      refine AtE.ru 16 ?_
      exact AtE.ret Tryz.func9 (by kernel_rfl) H
    ·replace H := H.2 h17'
     refine AtE.split 87 (b := same) (by kernel_rfl) (fun h21' => ?_) (fun h21' => ?_)
     ·replace H := H.1 h21'
      refine AtE.ru 16 ?_
      exact AtE.ret Tryz.func9 (by kernel_rfl) H
     ·replace H := H.2 h21'
      refine AtE.ru 7 ?_
      refine AtE.splitP 94 (p := (l3_l : Int) = (0 : Int)) (by kernel_rfl) (fun h22' => ?_) (fun h22' => ?_)
      ·replace H := H.1 h22'
       refine AtE.norm (k' := [.inRegion (regOps [.code (sub (Eng.body Tryz.f9) [1,1,1,1,1,1,1,1,1,0])]) [13,14,15,16,17,18,19,20], .code (sub (Eng.body Tryz.f9) [1,1,1,1,1,1,1,1,1,1])]) (e' := [(8, .slice l3_p l3_l l3_c), (90, .bool true), (94, .bool true)]) (L' := (F8)) ?_ (by kernel_rfl)
       refine AtE.ru 9 ?_
       exact AtE.ret Tryz.func9 (by kernel_rfl) H
      ·replace H := H.2 h22'
       refine AtE.norm (k' := [.inRegion (regOps [.code (sub (Eng.body Tryz.f9) [1,1,1,1,1,1,1,1,1,0])]) [13,14,15,16,17,18,19,20], .code (sub (Eng.body Tryz.f9) [1,1,1,1,1,1,1,1,1,1])]) (e' := [(8, .slice l3_p l3_l l3_c), (90, .bool true), (94, .bool false)]) (L' := (F8)) ?_ (by kernel_rfl)
       refine AtE.ru 2 ?_
       obtain ⟨l3_pb2, l3_po2, rfl, H⟩ := H
       obtain ⟨o1, ho1⟩ : ∃ x : Nat, x = (if (Int.toNat (1 : Int)) = l3_c then l3_po2 else l3_po2 + (Int.toNat (1 : Int)) * 23) := ⟨_, rfl⟩
       refine AtE.sliceL (E := 28) (b := l3_pb2) (o := l3_po2) (len := l3_l) (cap := l3_c) (sz := 23) (o' := o1) (l' := (l3_l - (Int.toNat (1 : Int)))) (c' := (l3_c - (Int.toNat (1 : Int)))) (lo := some (.int .i64 (1 : Int))) (hi := none) (x := (1 : Int)) (y := (l3_l : Int)) (by kernel_rfl) (.inl ⟨.i64, rfl⟩) (.inr ⟨rfl, rfl, by omega⟩) H.1 ho1 (by simp) rfl ?_
       replace H := H.2 o1 ho1
       refine AtE.call 27 ⟨[.slice (some ⟨l3_pb2, l3_po2, none⟩) l3_l l3_c, .slice (some ⟨l3_pb2, o1, none⟩) (l3_l - (Int.toNat (1 : Int))) (l3_c - (Int.toNat (1 : Int)))]⟩ (fun W => by kernel_rfl) (by kernel_rfl) H ?_
       clear H
       rintro _ F8 ⟨r131, rfl, rfl, H⟩
       refine AtE.split 98 (b := r131) (by kernel_rfl) (fun h23' => ?_) (fun h23' => ?_)
       ·replace H := H.1 h23'
        refine AtE.ru 5 ?_
        exact AtE.ret Tryz.func9 (by kernel_rfl) H
       ·replace H := H.2 h23'
        refine AtE.ru 5 ?_
        exact AtE.ret Tryz.func9 (by kernel_rfl) H
   ·replace H := H.2 h16'
    refine AtE.ru 20 ?_
    exact AtE.ret Tryz.func9 (by kernel_rfl) H
 ·replace H := H.2 h13'
  refine AtE.ru 12 ?_
  refine AtE.split 83 (b := ok4) (by kernel_rfl) (fun h24' => ?_) (fun h24' => ?_)
  ·replace H := H.1 h24'
   refine AtE.ru 2 ?_
   refine AtE.call 27 ⟨[.slice l3_p l3_l l3_c, .slice m5_p m5_l m5_c]⟩ (fun W => by kernel_rfl) (by kernel_rfl) H ?_
   clear H
   rintro _ F8 ⟨r141, rfl, rfl, H⟩
   refine AtE.ru 1 ?_
   refine AtE.split 86 (b := r141) (by kernel_rfl) (fun h25' => ?_) (fun h25' => ?_)
   ·replace H := H.1 h25'
    refine AtE.split 87 (b := same) (by kernel_rfl) (fun h26' => ?_) (fun h26' => ?_)
    ·replace H := H.1 h26'
     refine AtE.ru 7 ?_
     refine AtE.splitP 94 (p := (l3_l : Int) = (0 : Int)) (by kernel_rfl) (fun h27' => ?_) (fun h27' => ?_)
     ·replace H := H.1 h27'
      refine AtE.ru 9 ?_
      exact AtE.ret Tryz.func9 (by kernel_rfl) H
     ·replace H := H.2 h27'
      refine AtE.ru 2 ?_
      obtain ⟨l3_pb3, l3_po3, rfl, H⟩ := H
      refine AtE.norm (k' := [.inRegion (regOps [.code (sub (Eng.body Tryz.f9) [1,1,1,1,1,1,1,1,1,0])]) [15,16,17,18,19,20], .code (sub (Eng.body Tryz.f9) [1,1,1,1,1,1,1,1,1,1])]) (e' := [(90, .bool true), (94, .bool false), (95, .slice (some ⟨l3_pb3, l3_po3, none⟩) l3_l l3_c), (96, .slice (some ⟨l3_pb3, l3_po3, none⟩) l3_l l3_c)]) (L' := (F8)) ?_ (by kernel_rfl)
      obtain ⟨o2, ho2⟩ : ∃ x : Nat, x = (if (Int.toNat (1 : Int)) = l3_c then l3_po3 else l3_po3 + (Int.toNat (1 : Int)) * 23) := ⟨_, rfl⟩
      refine AtE.sliceL (E := 28) (b := l3_pb3) (o := l3_po3) (len := l3_l) (cap := l3_c) (sz := 23) (o' := o2) (l' := (l3_l - (Int.toNat (1 : Int)))) (c' := (l3_c - (Int.toNat (1 : Int)))) (lo := some (.int .i64 (1 : Int))) (hi := none) (x := (1 : Int)) (y := (l3_l : Int)) (by kernel_rfl) (.inl ⟨.i64, rfl⟩) (.inr ⟨rfl, rfl, by omega⟩) H.1 ho2 (by simp) rfl ?_
      replace H := H.2 o2 ho2
      refine AtE.call 27 ⟨[.slice (some ⟨l3_pb3, l3_po3, none⟩) l3_l l3_c, .slice (some ⟨l3_pb3, o2, none⟩) (l3_l - (Int.toNat (1 : Int))) (l3_c - (Int.toNat (1 : Int)))]⟩ (fun W => by kernel_rfl) (by kernel_rfl) H ?_
      clear H
      rintro _ F8 ⟨r151, rfl, rfl, H⟩
      refine AtE.split 98 (b := r151) (by kernel_rfl) (fun h28' => ?_) (fun h28' => ?_)
      ·replace H := H.1 h28'
       refine AtE.ru 5 ?_
       exact AtE.ret Tryz.func9 (by kernel_rfl) H
      ·replace H := H.2 h28'
       refine AtE.ru 5 ?_
       exact AtE.ret Tryz.func9 (by kernel_rfl) H
    ·replace H := H.2 h26'
     refine AtE.ru 16 ?_
     exact AtE.ret Tryz.func9 (by kernel_rfl) H
   ·replace H := H.2 h25'
    refine AtE.split 87 (b := same) (by kernel_rfl) (fun h29' => ?_) (fun h29' => ?_)
    ·replace H := H.1 h29'
     refine AtE.ru 16 ?_
     exact AtE.ret Tryz.func9 (by kernel_rfl) H
    ·replace H := H.2 h29'
     refine AtE.ru 7 ?_
     refine AtE.splitP 94 (p := (l3_l : Int) = (0 : Int)) (by kernel_rfl) (fun h30' => ?_) (fun h30' => ?_)
     ·replace H := H.1 h30'
      refine AtE.ru 9 ?_
      exact AtE.ret Tryz.func9 (by kernel_rfl) H
     ·replace H := H.2 h30'
      refine AtE.ru 2 ?_
      obtain ⟨l3_pb4, l3_po4, rfl, H⟩ := H
      refine AtE.norm (k' := [.inRegion (regOps [.code (sub (Eng.body Tryz.f9) [1,1,1,1,1,1,1,1,1,0])]) [15,16,17,18,19,20], .code (sub (Eng.body Tryz.f9) [1,1,1,1,1,1,1,1,1,1])]) (e' := [(90, .bool true), (94, .bool false), (95, .slice (some ⟨l3_pb4, l3_po4, none⟩) l3_l l3_c), (96, .slice (some ⟨l3_pb4, l3_po4, none⟩) l3_l l3_c)]) (L' := (F8)) ?_ (by kernel_rfl)
      obtain ⟨o3, ho3⟩ : ∃ x : Nat, x = (if (Int.toNat (1 : Int)) = l3_c then l3_po4 else l3_po4 + (Int.toNat (1 : Int)) * 23) := ⟨_, rfl⟩
      refine AtE.sliceL (E := 28) (b := l3_pb4) (o := l3_po4) (len := l3_l) (cap := l3_c) (sz := 23) (o' := o3) (l' := (l3_l - (Int.toNat (1 : Int)))) (c' := (l3_c - (Int.toNat (1 : Int)))) (lo := some (.int .i64 (1 : Int))) (hi := none) (x := (1 : Int)) (y := (l3_l : Int)) (by kernel_rfl) (.inl ⟨.i64, rfl⟩) (.inr ⟨rfl, rfl, by omega⟩) H.1 ho3 (by simp) rfl ?_
      replace H := H.2 o3 ho3
      refine AtE.call 27 ⟨[.slice (some ⟨l3_pb4, l3_po4, none⟩) l3_l l3_c, .slice (some ⟨l3_pb4, o3, none⟩) (l3_l - (Int.toNat (1 : Int))) (l3_c - (Int.toNat (1 : Int)))]⟩ (fun W => by kernel_rfl) (by kernel_rfl) H ?_
      clear H
      rintro _ F8 ⟨r161, rfl, rfl, H⟩
      refine AtE.split 98 (b := r161) (by kernel_rfl) (fun h31' => ?_) (fun h31' => ?_)
      ·replace H := H.1 h31'
       refine AtE.ru 5 ?_
       exact AtE.ret Tryz.func9 (by kernel_rfl) H
      ·replace H := H.2 h31'
       refine AtE.ru 5 ?_
       exact AtE.ret Tryz.func9 (by kernel_rfl) H
  ·replace H := H.2 h24'
   refine AtE.ru 20 ?_
   exact AtE.ret Tryz.func9 (by kernel_rfl) H
theorem law6_vc (a_p : Option Addr) (a_l : Nat) (a_c : Nat) (b_p : Option Addr) (b_l : Nat) (b_c : Nat) (equal : Bool) (F : SHeap) {R : Ending → World → Prop} {w0 W : World} (hm : Mem (F) [] w0 W)
  (H :
   CallH Tryz.prog 17 ⟨[]⟩ (F) [] w0 (fun v L' => ∃ (r1 : Bool), v = (.bool r1) ∧ L' = (F) ∧
    law6_c0 a_p a_l a_c b_p b_l b_c equal equal r1 (0 : Int) F w0 R)) :
  Calls Tryz.prog 9 ⟨[.slice a_p a_l a_c, .slice b_p b_l b_c, .bool equal]⟩ W R := by
 refine AtE.calls (nt := 102) Tryz.func9 (by kernel_rfl) hm ?_
 refine AtE.ru 6 ?_
 refine AtE.call 17 ⟨[]⟩ (fun W => by kernel_rfl) (by kernel_rfl) H ?_
 clear H
 rintro _ F ⟨r1, rfl, rfl, H⟩
 refine AtE.ru 17 ?_
 exact AtE.cutT [] 0 H (by kernel_rfl)
end Go.Eng
namespace Go.Eng
open Go Go.RowKit Go.Proofs Wire
set_option linter.unusedVariables false
def FctLc (lk : Lk) (cs : List Value) (f : Fct) : Prop := ∃ tp tc bp bc ap ac, cs = f.cells tp tc bp bc ap ac ∧ FArg lk f tp tc bp bc ap ac
def FRowL (lk : Lk) (cs : List Value) (l : List Fct) : Prop := ∀ i (h : i < l.length), i * 23 + 23 ≤ cs.length ∧ FctL lk ((cs.drop (i * 23)).take 23) l[i]
theorem FRowL.mono {lk lk' : Lk} {cs : List Value} {l : List Fct} (h : FRowL lk cs l) (hl : ∀ b c, lk b c → lk' b c) : FRowL lk' cs l := fun i hi => ⟨(h i hi).1, (h i hi).2.mono hl⟩
theorem FRowL.app {lk : Lk} {cs r : List Value} {l : List Fct} {f : Fct} {tp bp ap : Option Addr} {tc bc ac cap cap1 : Nat} (h : FRowL lk cs l) (h1 : l.length ≤ cap) (h2 : cs.length = cap * 23) (hf : FAt lk f tp tc bp bc ap ac)
    (q1 : l.length + 1 ≤ cap1) (q2 : (cs.take (l.length * 23) ++ f.cells tp tc bp bc ap ac ++ r).length = cap1 * 23) : FRowL lk (cs.take (l.length * 23) ++ f.cells tp tc bp bc ap ac ++ r) (l ++ [f]) := by
  have hn : l.length * 23 ≤ cs.length := by rw [h2]; exact Nat.mul_le_mul_right _ h1
  intro i hi
  have hi' : i < l.length + 1 := by simpa using hi
  refine ⟨by rw [q2]; omega, ?_⟩
  rcases Nat.lt_or_ge i l.length with hlt | hge
  · rw [row_old hlt hn, List.getElem_append_left hlt]
    exact (h i hlt).2
  · have : i = l.length := by omega
    subst this
    rw [row_new hn rfl]
    simp only [List.getElem_append_right (Nat.le_refl _), Nat.sub_self, List.getElem_cons_zero]
    exact ⟨tp, tc, bp, bc, ap, ac, rfl, hf⟩
theorem FRowL.one {lk : Lk} {r : List Value} {f : Fct} {tp bp ap : Option Addr} {tc bc ac cap : Nat} (hf : FAt lk f tp tc bp bc ap ac) (q1 : 1 ≤ cap) (q2 : (f.cells tp tc bp bc ap ac ++ r).length = cap * 23) : FRowL lk (f.cells tp tc bp bc ap ac ++ r) [f] := by
  intro i hi
  have : i = 0 := by simp at hi; omega
  subst this
  refine ⟨by rw [q2]; omega, tp, tc, bp, bc, ap, ac, ?_, hf⟩
  simp
theorem FRowL.sl {lk : Lk} {F : SHeap} {cs : List Value} {l : List Fct} {B t : Nat} (h : FRowL (lkU F lk) cs l) : FctsL (lkU ((B, .cells ⟨cs⟩ t) :: F) lk) (some ⟨B, 0, none⟩) l :=
  fun _ => ⟨B, 0, cs, rfl, .inl ⟨t, _, List.mem_cons_self⟩, fun i hi => ⟨by rw [Nat.zero_add]; exact (h i hi).1, by rw [Nat.zero_add]; exact (h i hi).2.mono (by
    rintro b c (hb | hb)
    · exact .inl (lkF_cons b c hb)
    · exact .inr hb)⟩⟩
theorem lkU_up {F F' : SHeap} {lk : Lk} (h : ∀ x ∈ F, x ∈ F') : ∀ b c, lkU F lk b c → lkU F' lk b c := by
  rintro b c (hb | hb)
  · exact .inl (lkF_mono h b c hb)
  · exact .inr hb
def fewL (l : List Fct) : List Fct := (l.take 5).map fewF
theorem fewL_len (l : List Fct) : (fewL l).length = min 5 l.length := by rw [fewL, List.length_map, List.length_take]
theorem fewL_get {l : List Fct} {i : Nat} (h : i < (fewL l).length) : (fewL l)[i] = fewF (l[i]'(by rw [fewL_len] at h; omega)) := by simp [fewL]
theorem fewL_next {l : List Fct} {i : Nat} (h : i < (fewL l).length) : (fewL l).take i ++ [fewF (l[i]'(by rw [fewL_len] at h; omega))] = (fewL l).take (i + 1) := by
  rw [← fewL_get h, List.take_add_one, List.getElem?_eq_getElem h]; rfl
theorem fcts_nil {lk : Lk} {p : Option Addr} : FctsL lk p [] := fun h => absurd h (by simp)
theorem FctsL.tail {lk : Lk} {b o : Nat} {l : List Fct} {cap q : Nat} (h : FctsL lk (some ⟨b, o, none⟩) l) (hc : l.length ≤ cap) (hq : q = if Int.toNat (1 : Int) = cap then o else o + Int.toNat (1 : Int) * 23) : FctsL lk (some ⟨b, q, none⟩) (l.drop 1) := by
  intro hp
  rw [List.length_drop] at hp
  have hq : q = o + 23 := by rw [hq, if_neg (show ¬ Int.toNat (1 : Int) = cap by show ¬ 1 = cap; omega)]; rfl
  obtain ⟨b', o', c, h1, h2, h3⟩ := h (by omega)
  simp only [Option.some.injEq, Addr.mk.injEq, and_true] at h1
  obtain ⟨rfl, rfl⟩ := h1
  refine ⟨b, q, c, rfl, h2, fun i hi => ?_⟩
  rw [List.length_drop] at hi
  have := h3 (1 + i) (by omega)
  rw [hq, show o + 23 + i * 23 = o + (1 + i) * 23 by omega, List.getElem_drop]
  exact this
abbrev R6 (w0 : World) : Ending → World → Prop := fun e W' => e = .returned (.bool true) ∧ Below w0.heap.size w0 W'
theorem l6_4 {w0 : World} {ap bp px py : Option Addr} {al ac bl bc cx cy : Nat} {eq : Bool} {F : SHeap} {x y : List Fct} (hx : FctsL (lkU F (lkW w0)) px x) (hy : FctsL (lkU F (lkW w0)) py y) (lx : x.length ≤ 5) (ly : y.length ≤ 5) (cxx : x.length ≤ cx) :
    ∀ (g i : Nat) (same : Bool), g + i = min x.length y.length → same = (decide (x.length = y.length) && decide (x.take i = y.take i)) → law6_c4 ap al ac bp bl bc eq true px x.length cx py y.length cy same (i : Int) F w0 (R6 w0)
  | 0, i, same, hg, hs => by
    apply law6_c4_vc
    have hxy : same = decide (x = y) := by
      rw [hs]
      by_cases hl : x.length = y.length
      · rw [List.take_of_length_le (by omega), List.take_of_length_le (by omega)]; simp [hl]
      · have : x ≠ y := fun e => hl (by rw [e])
        simp [hl, this]
    refine ⟨fun h1 => no (by omega) ?_, fun h1 => ?_⟩
    all_goals
      refine tt rfl (CallH.pw (fun W' hm' => fSameL_c (hx.mono (lkU_W hm' fun x hx => hx)) (hy.mono (lkU_W hm' fun x hx => hx)) (by omega)) ⟨_, rfl, rfl, ?_⟩)
      have rest : x.length ≠ 0 → x ≠ x.drop 1 := fun h0 e => by
        have := congrArg List.length e
        rw [List.length_drop] at this; omega
      by_cases e : x = y
      · refine tt (decide_eq_true e) (tt (hxy.trans (decide_eq_true e)) ⟨fun _ => finPW rfl, fun h0 => ?_⟩)
        obtain ⟨b, o, c, rfl, k2, k3⟩ := hx (by omega)
        refine ⟨b, o, rfl, by omega, fun q hq => ?_⟩
        have ht := hx.tail cxx hq
        rw [show x.length - Int.toNat (1 : Int) = (x.drop 1).length by rw [List.length_drop]; rfl]
        exact CallH.pw (fun W' hm' => fSameL_c (hx.mono (lkU_W hm' fun x hx => hx)) (ht.mono (lkU_W hm' fun x hx => hx)) (by omega)) ⟨_, rfl, rfl, ff (decide_eq_false (rest (by omega))) (finPW rfl)⟩
      · refine ff (decide_eq_false e) (ff (hxy.trans (decide_eq_false e)) ⟨fun _ => finPW rfl, fun h0 => ?_⟩)
        obtain ⟨b, o, c, rfl, k2, k3⟩ := hx (by omega)
        refine ⟨b, o, rfl, by omega, fun q hq => ?_⟩
        have ht := hx.tail cxx hq
        rw [show x.length - Int.toNat (1 : Int) = (x.drop 1).length by rw [List.length_drop]; rfl]
        exact CallH.pw (fun W' hm' => fSameL_c (hx.mono (lkU_W hm' fun x hx => hx)) (ht.mono (lkU_W hm' fun x hx => hx)) (by omega)) ⟨_, rfl, rfl, ff (decide_eq_false (rest (by omega))) (finPW rfl)⟩
  | g + 1, i, same, hg, hs => by
    apply law6_c4_vc
    have h1 : i < x.length := by omega
    have h2 : i < y.length := by omega
    have t1 : x.take (i + 1) = x.take i ++ [x[i]] := by rw [List.take_add_one, List.getElem?_eq_getElem h1]; rfl
    have t2 : y.take (i + 1) = y.take i ++ [y[i]] := by rw [List.take_add_one, List.getElem?_eq_getElem h2]; rfl
    have l1 : (x.take i).length = (y.take i).length := by rw [List.length_take, List.length_take]; omega
    have hw : IntKind.i64.wrap ((i : Int) + 1) = ((i + 1 : Nat) : Int) := by rw [wi64 (by omega)]; omega
    refine yes (by omega) (yes (by omega) ⟨fun ht => ?_, fun hf => ?_⟩)
    · obtain ⟨B1, o1, c1, rfl, e2, e3, tp, tc, vp, vc, zp, zc, e4, e5⟩ := hx.get h1
      obtain ⟨B2, o2, c2, rfl, f2, f3, tp', tc', vp', vc', zp', zc', f4, f5⟩ := hy.get h2
      refine ⟨B1, o1, rfl, by omega, c1, x[i], tp, tc, vp, vc, zp, zc, e2, ⟨by simpa using e4, by simpa using e3⟩, B2, o2, rfl, by omega, c2, y[i], tp', tc', vp', vc', zp', zc', f2, ⟨by simpa using f4, by simpa using f3⟩, ?_⟩
      refine CallH.pw (fun W' hm' => fSame_c (e5.mono (lkU_W hm' fun x hx => hx)) (f5.mono (lkU_W hm' fun x hx => hx))) ⟨_, rfl, rfl, ?_⟩
      rintro _ rfl
      rw [hw]
      refine l6_4 hx hy lx ly cxx g (i + 1) _ (by omega) ?_
      rw [hs, Bool.and_eq_true, decide_eq_true_eq, decide_eq_true_eq] at ht
      rw [t1, t2, ht.2, decide_eq_true ht.1, Bool.true_and, decide_eq_decide]
      exact ⟨fun e => by rw [e], fun e => by have := List.append_cancel_left e; simpa using this⟩
    · rintro _ rfl
      rw [hw]
      refine l6_4 hx hy lx ly cxx g (i + 1) _ (by omega) ?_
      rw [hf] at hs
      rw [t1, t2]
      by_cases hl : x.length = y.length
      · have hne : x.take i ≠ y.take i := fun e => by rw [e] at hs; simp [hl] at hs
        have : x.take i ++ [x[i]] ≠ y.take i ++ [y[i]] := fun e => hne (List.append_inj_left e l1)
        rw [decide_eq_false this, Bool.and_false]
      · simp [hl]
theorem l6_3 {w0 : World} {ap bp px : Option Addr} {al ac bc cx : Nat} {eq equal : Bool} {x b : List Fct} (hb : SlAt (lkW w0) 23 (FctLc (lkW w0)) bp b) (lx : x.length ≤ 5) (cxx : x.length ≤ cx) :
    ∀ (g i B cap : Nat) (cs : List Value) (F : SHeap), g + i = min 5 b.length → i ≤ cap → cs.length = cap * 23 → FctsL (lkU F (lkW w0)) px x → FRowL (lkU F (lkW w0)) cs ((fewL b).take i) → law6_c3 ap al ac bp b.length bc eq B equal true px x.length cx i cap (i : Int) cs F w0 (R6 w0)
  | 0, i, B, cap, cs, F, hg, h1, h2, hx, h3 => by
    apply law6_c3_vc
    have hn := fewL_len b
    have hi : i = (fewL b).length := by omega
    subst hi
    rw [List.take_length] at h3
    have fin : (equal = true → law6_c4 ap al ac bp b.length bc eq true px x.length cx px x.length cx (decide ((x.length : Int) = (x.length : Int))) (0 : Int) F w0 (R6 w0)) ∧ (equal = false → law6_c4 ap al ac bp b.length bc eq true px x.length cx (some ⟨B, 0, none⟩) (fewL b).length cap (decide ((x.length : Int) = ((fewL b).length : Int))) (0 : Int) ((B, .cells ⟨cs⟩ 28) :: F) w0 (R6 w0)) :=
      ⟨fun _ => l6_4 hx hx lx lx cxx _ 0 _ rfl (by simp), fun _ => l6_4 (hx.mono (lkU_up fun x hx => List.mem_cons_of_mem _ hx)) h3.sl lx (by omega) cxx _ 0 _ rfl (by simp [Int.natCast_inj])⟩
    exact ⟨fun h4 => ⟨fun h5 => by omega, fun _ => fin⟩, fun _ => fin⟩
  | g + 1, i, B, cap, cs, F, hg, h1, h2, hx, h3 => by
    apply law6_c3_vc
    have hn := fewL_len b
    have his : i < (fewL b).length := by omega
    have hi : i < b.length := by omega
    obtain ⟨B1, o1, c1, rfl, e2, e3, tp, tc, vp, vc, zp, zc, e4, e5⟩ := hb.get hi
    refine yes (by omega) (yes (by omega) ⟨B1, o1, rfl, by omega, c1, b[i], tp, tc, vp, vc, zp, zc, .inr e2, ⟨by simpa using e4, by simpa using e3⟩, ?_⟩)
    refine CallH.few [_] e5 fun w1 w2 w3 w4 w5 w6 F' hw => ⟨fewF b[i], w1, w2, w3, w4, w5, w6, _, rfl, rfl, fun B3 => ⟨⟨h1, h2⟩, by omega, fun B4 cap1 r q1 q2 => ?_⟩⟩
    rintro _ rfl
    rw [wi64 (by omega), show (i : Int) + 1 = ((i + 1 : Nat) : Int) by omega]
    have hlen : ((fewL b).take i).length = i := by rw [List.length_take]; omega
    have hrow := FRowL.app (r := r) (cap1 := cap1) (h3.mono (lkU_up (F' := F' ++ F) fun x hx => List.mem_append_right _ hx)) (by rw [hlen]; exact h1) h2 (hw.mono (lkU_up (F' := F' ++ F) fun x hx => List.mem_append_left _ hx)) (by rw [hlen]; exact q1) (by rw [hlen]; exact q2)
    rw [hlen, fewL_next his] at hrow
    exact l6_3 hb lx cxx g (i + 1) B4 cap1 _ _ (by omega) q1 q2 (hx.mono (lkU_up fun x hx => by simp [hx])) hrow
theorem l6_2 {w0 : World} {ap bp px : Option Addr} {al ac bc cx : Nat} {eq equal : Bool} {x b : List Fct} {F : SHeap} (hb : SlAt (lkW w0) 23 (FctLc (lkW w0)) bp b) (lx : x.length ≤ 5) (cxx : x.length ≤ cx) (hx : FctsL (lkU F (lkW w0)) px x) :
    law6_c2 ap al ac bp b.length bc eq equal true px x.length cx (0 : Int) F w0 (R6 w0) := by
  apply law6_c2_vc
  have hn := fewL_len b
  rcases Nat.eq_zero_or_pos b.length with h0 | hi
  · have fin : (equal = true → law6_c4 ap al ac bp b.length bc eq true px x.length cx px x.length cx (decide ((x.length : Int) = (x.length : Int))) (0 : Int) F w0 (R6 w0)) ∧ (equal = false → law6_c4 ap al ac bp b.length bc eq true px x.length cx none 0 0 (decide ((x.length : Int) = (0 : Int))) (0 : Int) F w0 (R6 w0)) :=
      ⟨fun _ => l6_4 hx hx lx lx cxx _ 0 _ rfl (by simp), fun _ => l6_4 (y := []) hx fcts_nil lx (by decide) cxx _ 0 _ rfl (by simp)⟩
    exact no (by omega) fin
  · have his : 0 < (fewL b).length := by omega
    obtain ⟨B1, o1, c1, rfl, e2, e3, tp, tc, vp, vc, zp, zc, e4, e5⟩ := hb.get hi
    refine yes (by omega) (yes (by omega) ⟨B1, o1, rfl, by omega, c1, b[0], tp, tc, vp, vc, zp, zc, .inr e2, ⟨by simpa using e4, by simpa using e3⟩, ?_⟩)
    refine CallH.few [] e5 fun w1 w2 w3 w4 w5 w6 F' hw => ⟨fewF b[0], w1, w2, w3, w4, w5, w6, _, rfl, rfl, fun B3 B4 cap1 r q1 q2 => ?_⟩
    rintro _ rfl
    rw [wi64 (by omega)]
    have hrow := FRowL.one (r := r) (hw.mono (lkU_up (F' := F' ++ F) fun x hx => List.mem_append_left _ hx)) q1 q2
    have e0 : (fewL b).take 1 = [fewF b[0]] := by rw [← fewL_next his]; rfl
    exact l6_3 hb lx cxx (min 5 b.length - 1) 1 B4 cap1 _ _ (by omega) q1 q2 (hx.mono (lkU_up fun x hx => by simp [hx])) (by rw [e0]; exact hrow.mono (lkU_up fun x hx => by simpa using hx))
theorem l6_1 {w0 : World} {ap bp : Option Addr} {ac bc : Nat} {eq equal : Bool} {a b : List Fct} (ha : SlAt (lkW w0) 23 (FctLc (lkW w0)) ap a) (hb : SlAt (lkW w0) 23 (FctLc (lkW w0)) bp b) :
    ∀ (g i B cap : Nat) (cs : List Value) (F : SHeap), g + i = min 5 a.length → i ≤ cap → cs.length = cap * 23 → FRowL (lkU F (lkW w0)) cs ((fewL a).take i) → law6_c1 ap a.length ac bp b.length bc eq B equal true i cap (i : Int) cs F w0 (R6 w0)
  | 0, i, B, cap, cs, F, hg, h1, h2, h3 => by
    apply law6_c1_vc
    have hn := fewL_len a
    have hi : i = (fewL a).length := by omega
    subst hi
    rw [List.take_length] at h3
    have fin : law6_c2 ap a.length ac bp b.length bc eq equal true (some ⟨B, 0, none⟩) (fewL a).length cap (0 : Int) ((B, .cells ⟨cs⟩ 28) :: F) w0 (R6 w0) := l6_2 hb (by omega) h1 h3.sl
    exact ⟨fun h4 => ⟨fun h5 => by omega, fun _ => fin⟩, fun _ => fin⟩
  | g + 1, i, B, cap, cs, F, hg, h1, h2, h3 => by
    apply law6_c1_vc
    have hn := fewL_len a
    have his : i < (fewL a).length := by omega
    have hi : i < a.length := by omega
    obtain ⟨B1, o1, c1, rfl, e2, e3, tp, tc, vp, vc, zp, zc, e4, e5⟩ := ha.get hi
    refine yes (by omega) (yes (by omega) ⟨B1, o1, rfl, by omega, c1, a[i], tp, tc, vp, vc, zp, zc, .inr e2, ⟨by simpa using e4, by simpa using e3⟩, ?_⟩)
    refine CallH.few [_] e5 fun w1 w2 w3 w4 w5 w6 F' hw => ⟨fewF a[i], w1, w2, w3, w4, w5, w6, _, rfl, rfl, fun B3 => ⟨⟨h1, h2⟩, by omega, fun B4 cap1 r q1 q2 => ?_⟩⟩
    rintro _ rfl
    rw [wi64 (by omega), show (i : Int) + 1 = ((i + 1 : Nat) : Int) by omega]
    have hlen : ((fewL a).take i).length = i := by rw [List.length_take]; omega
    have hrow := FRowL.app (r := r) (cap1 := cap1) (h3.mono (lkU_up (F' := F' ++ F) fun x hx => List.mem_append_right _ hx)) (by rw [hlen]; exact h1) h2 (hw.mono (lkU_up (F' := F' ++ F) fun x hx => List.mem_append_left _ hx)) (by rw [hlen]; exact q1) (by rw [hlen]; exact q2)
    rw [hlen, fewL_next his] at hrow
    exact l6_1 ha hb g (i + 1) B4 cap1 _ _ (by omega) q1 q2 hrow
theorem fact6 {W : World} {ap bp : Option Addr} {ac bc : Nat} {equal : Bool} {a b : List Fct} (ha : SlAt (lkW W) 23 (FctLc (lkW W)) ap a) (hb : SlAt (lkW W) 23 (FctLc (lkW W)) bp b) :
    PW Tryz.prog 9 ⟨[.slice ap a.length ac, .slice bp b.length bc, .bool equal]⟩ W (.bool true) := by
  refine law6_vc ap a.length ac bp b.length bc equal [] (Mem.start [] W) (CallH.pure sane_c5 ⟨_, rfl, rfl, ?_⟩)
  apply law6_c0_vc
  have hn := fewL_len a
  rcases Nat.eq_zero_or_pos a.length with h0 | hi
  · exact no (by omega) (l6_2 (x := []) hb (by decide) (by decide) fcts_nil)
  · have his : 0 < (fewL a).length := by omega
    obtain ⟨B1, o1, c1, rfl, e2, e3, tp, tc, vp, vc, zp, zc, e4, e5⟩ := ha.get hi
    refine yes (by omega) (yes (by omega) ⟨B1, o1, rfl, by omega, c1, a[0], tp, tc, vp, vc, zp, zc, .inr e2, ⟨by simpa using e4, by simpa using e3⟩, ?_⟩)
    refine CallH.few [] (F := []) e5 fun w1 w2 w3 w4 w5 w6 F' hw => ⟨fewF a[0], w1, w2, w3, w4, w5, w6, _, rfl, rfl, fun B3 B4 cap1 r q1 q2 => ?_⟩
    rintro _ rfl
    rw [wi64 (by omega)]
    have hrow := FRowL.one (r := r) (hw.mono (lkU_up (F' := F' ++ []) fun x hx => List.mem_append_left _ hx)) q1 q2
    have e0 : (fewL a).take 1 = [fewF a[0]] := by rw [← fewL_next his]; rfl
    exact l6_1 ha hb (min 5 a.length - 1) 1 B4 cap1 _ _ (by omega) q1 q2 (by rw [e0]; exact hrow.mono (lkU_up fun x hx => by simpa using hx))
end Go.Eng
