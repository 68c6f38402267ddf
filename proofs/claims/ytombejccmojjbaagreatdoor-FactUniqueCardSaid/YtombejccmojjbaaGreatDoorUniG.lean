/- A part of the proof: the engine by which functions are walked, verification conditions that a program of the prover wrote, contracts and plain laws; no claim of its own. -/
import Derived.Test.YtombejccmojjbaaGreatDoorChecked
import Derived.Test.YtombejccmojjbaaGreatDoorUniF
namespace Go.Eng
open Go Go.RowKit Go.Proofs
set_option linter.unusedVariables false
set_option maxRecDepth 100000
abbrev fRedactH1 (B13 : Nat) (f : Fct) (B14 : Nat) (m91_l : Nat) (m91_c : Nat) (B15 : Nat) (m101_l : Nat) (m101_c : Nat) (fap : Option Addr) (fac : Nat) (cs2 : List Value) (cs3 : List Value) (B16 : Nat) : SHeap := [(B13, .cells #[.int .i64 f.n, .int .i64 f.time, .int .i64 f.kind, .int .i64 f.story, .string f.lang, .int .i64 f.rev, .int .i64 f.base, .string f.title, .string f.author, .slice (some ⟨B14, 0, none⟩) m91_l m91_c, .slice (some ⟨B15, 0, none⟩) m101_l m101_c, .int .i64 f.lab.unt, .slice fap f.lab.after.length fac, .int .i64 f.lab.appr, .int .i64 f.lab.den, .int .i64 f.editor, .int .i64 f.block, .int .i64 f.sentence, .string f.text, .string f.name, .int .i64 f.partner, .int .i64 f.cls, .int .i64 f.unt] 28), (B14, .cells ⟨cs2⟩ 9), (B15, .cells ⟨cs3⟩ 89), (B16, .cells #[.int .i64 (0 : Int), .int .i64 (0 : Int), .int .i64 (0 : Int), .int .i64 (0 : Int), .string (⟨#[]⟩), .int .i64 (0 : Int), .int .i64 (0 : Int), .string (⟨#[]⟩), .string (⟨#[]⟩), .slice none 0 0, .slice none 0 0, .int .i64 (0 : Int), .slice none 0 0, .int .i64 (0 : Int), .int .i64 (0 : Int), .int .i64 (0 : Int), .int .i64 (0 : Int), .int .i64 (0 : Int), .string (⟨#[]⟩), .string (⟨#[]⟩), .int .i64 (0 : Int), .int .i64 (0 : Int), .int .i64 (0 : Int)] 28)]
abbrev fRedactH3 (B6 : Nat) (f : Fct) (B7 : Nat) (m10_l : Nat) (m10_c : Nat) (fap : Option Addr) (fac : Nat) (cs : List Value) (B8 : Nat) : SHeap := [(B6, .cells #[.int .i64 f.n, .int .i64 f.time, .int .i64 f.kind, .int .i64 f.story, .string f.lang, .int .i64 f.rev, .int .i64 f.base, .string f.title, .string f.author, .slice none 0 0, .slice (some ⟨B7, 0, none⟩) m10_l m10_c, .int .i64 f.lab.unt, .slice fap f.lab.after.length fac, .int .i64 f.lab.appr, .int .i64 f.lab.den, .int .i64 f.editor, .int .i64 f.block, .int .i64 f.sentence, .string f.text, .string f.name, .int .i64 f.partner, .int .i64 f.cls, .int .i64 f.unt] 28), (B7, .cells ⟨cs⟩ 89), (B8, .cells #[.int .i64 (0 : Int), .int .i64 (0 : Int), .int .i64 (0 : Int), .int .i64 (0 : Int), .string (⟨#[]⟩), .int .i64 (0 : Int), .int .i64 (0 : Int), .string (⟨#[]⟩), .string (⟨#[]⟩), .slice none 0 0, .slice none 0 0, .int .i64 (0 : Int), .slice none 0 0, .int .i64 (0 : Int), .int .i64 (0 : Int), .int .i64 (0 : Int), .int .i64 (0 : Int), .int .i64 (0 : Int), .string (⟨#[]⟩), .string (⟨#[]⟩), .int .i64 (0 : Int), .int .i64 (0 : Int), .int .i64 (0 : Int)] 28)]
abbrev fRedactH4 (B10 : Nat) (f : Fct) (B11 : Nat) (m9_l : Nat) (m9_c : Nat) (fap : Option Addr) (fac : Nat) (cs1 : List Value) (B12 : Nat) : SHeap := [(B10, .cells #[.int .i64 f.n, .int .i64 f.time, .int .i64 f.kind, .int .i64 f.story, .string f.lang, .int .i64 f.rev, .int .i64 f.base, .string f.title, .string f.author, .slice (some ⟨B11, 0, none⟩) m9_l m9_c, .slice none 0 0, .int .i64 f.lab.unt, .slice fap f.lab.after.length fac, .int .i64 f.lab.appr, .int .i64 f.lab.den, .int .i64 f.editor, .int .i64 f.block, .int .i64 f.sentence, .string f.text, .string f.name, .int .i64 f.partner, .int .i64 f.cls, .int .i64 f.unt] 28), (B11, .cells ⟨cs1⟩ 9), (B12, .cells #[.int .i64 (0 : Int), .int .i64 (0 : Int), .int .i64 (0 : Int), .int .i64 (0 : Int), .string (⟨#[]⟩), .int .i64 (0 : Int), .int .i64 (0 : Int), .string (⟨#[]⟩), .string (⟨#[]⟩), .slice none 0 0, .slice none 0 0, .int .i64 (0 : Int), .slice none 0 0, .int .i64 (0 : Int), .int .i64 (0 : Int), .int .i64 (0 : Int), .int .i64 (0 : Int), .int .i64 (0 : Int), .string (⟨#[]⟩), .string (⟨#[]⟩), .int .i64 (0 : Int), .int .i64 (0 : Int), .int .i64 (0 : Int)] 28)]
abbrev fRedactH5 (B : Nat) (f : Fct) (ftp : Option Addr) (ftc : Nat) (fbp : Option Addr) (fbc : Nat) (fap : Option Addr) (fac : Nat) (B1 : Nat) : SHeap := [(B, .cells #[.int .i64 f.n, .int .i64 f.time, .int .i64 f.kind, .int .i64 f.story, .string f.lang, .int .i64 f.rev, .int .i64 f.base, .string f.title, .string f.author, .slice ftp f.topics.length ftc, .slice fbp f.blocks.length fbc, .int .i64 f.lab.unt, .slice fap f.lab.after.length fac, .int .i64 f.lab.appr, .int .i64 f.lab.den, .int .i64 f.editor, .int .i64 f.block, .int .i64 f.sentence, .string f.text, .string f.name, .int .i64 f.partner, .int .i64 f.cls, .int .i64 f.unt] 28), (B1, .cells #[.int .i64 (0 : Int), .int .i64 (0 : Int), .int .i64 (0 : Int), .int .i64 (0 : Int), .string (⟨#[]⟩), .int .i64 (0 : Int), .int .i64 (0 : Int), .string (⟨#[]⟩), .string (⟨#[]⟩), .slice none 0 0, .slice none 0 0, .int .i64 (0 : Int), .slice none 0 0, .int .i64 (0 : Int), .int .i64 (0 : Int), .int .i64 (0 : Int), .int .i64 (0 : Int), .int .i64 (0 : Int), .string (⟨#[]⟩), .string (⟨#[]⟩), .int .i64 (0 : Int), .int .i64 (0 : Int), .int .i64 (0 : Int)] 28)]
abbrev fRedactH6 (B4 : Nat) (f : Fct) (fap : Option Addr) (fac : Nat) (B5 : Nat) : SHeap := [(B4, .cells #[.int .i64 f.n, .int .i64 f.time, .int .i64 f.kind, .int .i64 f.story, .string f.lang, .int .i64 f.rev, .int .i64 f.base, .string f.title, .string f.author, .slice none 0 0, .slice none 0 0, .int .i64 f.lab.unt, .slice fap f.lab.after.length fac, .int .i64 f.lab.appr, .int .i64 f.lab.den, .int .i64 f.editor, .int .i64 f.block, .int .i64 f.sentence, .string f.text, .string f.name, .int .i64 f.partner, .int .i64 f.cls, .int .i64 f.unt] 28), (B5, .cells #[.int .i64 (0 : Int), .int .i64 (0 : Int), .int .i64 (0 : Int), .int .i64 (0 : Int), .string (⟨#[]⟩), .int .i64 (0 : Int), .int .i64 (0 : Int), .string (⟨#[]⟩), .string (⟨#[]⟩), .slice none 0 0, .slice none 0 0, .int .i64 (0 : Int), .slice none 0 0, .int .i64 (0 : Int), .int .i64 (0 : Int), .int .i64 (0 : Int), .int .i64 (0 : Int), .int .i64 (0 : Int), .string (⟨#[]⟩), .string (⟨#[]⟩), .int .i64 (0 : Int), .int .i64 (0 : Int), .int .i64 (0 : Int)] 28)]
abbrev fRedactH7 (B : Nat) (f : Fct) (ftp : Option Addr) (ftc : Nat) (fbp : Option Addr) (fbc : Nat) (fap : Option Addr) (fac : Nat) (B1 : Nat) : SHeap := [(B, .cells #[.int .i64 f.n, .int .i64 f.time, .int .i64 f.kind, .int .i64 f.story, .string f.lang, .int .i64 f.rev, .int .i64 f.base, .string f.title, .string f.author, .slice ftp f.topics.length ftc, .slice fbp f.blocks.length fbc, .int .i64 f.lab.unt, .slice fap f.lab.after.length fac, .int .i64 f.lab.appr, .int .i64 f.lab.den, .int .i64 f.editor, .int .i64 f.block, .int .i64 f.sentence, .string f.text, .string f.name, .int .i64 f.partner, .int .i64 f.cls, .int .i64 f.unt] 28), (B1, .cells #[.int .i64 f.n, .int .i64 f.time, .int .i64 (10 : Int), .int .i64 f.story, .string (⟨#[]⟩), .int .i64 (0 : Int), .int .i64 (0 : Int), .string (⟨#[]⟩), .string (⟨#[]⟩), .slice none 0 0, .slice none 0 0, .int .i64 (0 : Int), .slice none 0 0, .int .i64 (0 : Int), .int .i64 (0 : Int), .int .i64 (0 : Int), .int .i64 (0 : Int), .int .i64 (0 : Int), .string (⟨#[]⟩), .string (⟨#[]⟩), .int .i64 (0 : Int), .int .i64 (0 : Int), .int .i64 (0 : Int)] 28)]
abbrev fRedactA0 (f : Fct) : Array Value := #[.int .i64 f.n, .int .i64 f.time, .int .i64 (10 : Int), .int .i64 f.story, .string (⟨#[]⟩), .int .i64 (0 : Int), .int .i64 (0 : Int), .string (⟨#[]⟩), .string (⟨#[]⟩), .slice none 0 0, .slice none 0 0, .int .i64 (0 : Int), .slice none 0 0, .int .i64 (0 : Int), .int .i64 (0 : Int), .int .i64 (0 : Int), .int .i64 (0 : Int), .int .i64 (0 : Int), .string (⟨#[]⟩), .string (⟨#[]⟩), .int .i64 (0 : Int), .int .i64 (0 : Int), .int .i64 (0 : Int)]
abbrev fRedactA1 : Array Value := #[.int .i64 (0 : Int), .int .i64 (0 : Int), .int .i64 (0 : Int), .int .i64 (0 : Int), .string (⟨#[]⟩), .int .i64 (0 : Int), .int .i64 (0 : Int), .string (⟨#[]⟩), .string (⟨#[]⟩), .slice none 0 0, .slice none 0 0, .int .i64 (0 : Int), .slice none 0 0, .int .i64 (0 : Int), .int .i64 (0 : Int), .int .i64 (0 : Int), .int .i64 (0 : Int), .int .i64 (0 : Int), .string (⟨#[]⟩), .string (⟨#[]⟩), .int .i64 (0 : Int), .int .i64 (0 : Int), .int .i64 (0 : Int)]
abbrev fRedactA14 (f : Fct) (ftp : Option Addr) (ftc : Nat) (fbp : Option Addr) (fbc : Nat) (fap : Option Addr) (fac : Nat) : Array Value := #[.int .i64 f.n, .int .i64 f.time, .int .i64 f.kind, .int .i64 f.story, .string f.lang, .int .i64 f.rev, .int .i64 f.base, .string f.title, .string f.author, .slice ftp f.topics.length ftc, .slice fbp f.blocks.length fbc, .int .i64 f.lab.unt, .slice fap f.lab.after.length fac, .int .i64 f.lab.appr, .int .i64 f.lab.den, .int .i64 f.editor, .int .i64 f.block, .int .i64 f.sentence, .string f.text, .string f.name, .int .i64 f.partner, .int .i64 f.cls, .int .i64 f.unt]
def fRedact_c0 (f : Fct) (ftp : Option Addr) (ftc : Nat) (fbp : Option Addr) (fbc : Nat) (fap : Option Addr) (fac : Nat) (B4 : Nat) (B5 : Nat) (t27 : Int) (t28 : Int) (w0 : World) (R : Ending → World → Prop) : Prop :=
  AtE Tryz.prog 26 53 [.code (sub (Eng.body Tryz.f26) [1, 1, 1, 1, 0, 1, 0, 0]), .inLoop (sub (Eng.body Tryz.f26) [1, 1, 1, 1, 0, 1, 0, 0]), .inBlock 1, .code (sub (Eng.body Tryz.f26) [1, 1, 1, 1, 1])] [(1, .pointer (some ⟨B4, 0, none⟩)), (2, .pointer (some ⟨B5, 0, none⟩)), (27, .int .i64 t27), (28, .int .i64 t28)] (fRedactH6 B4 f fap fac B5) [] w0 (nrm R)
def fRedact_c1 (f : Fct) (ftp : Option Addr) (ftc : Nat) (fbp : Option Addr) (fbc : Nat) (fap : Option Addr) (fac : Nat) (B6 : Nat) (B7 : Nat) (B8 : Nat) (t281 : Int) (m10_l : Nat) (m10_c : Nat) (cs : List Value) (w0 : World) (R : Ending → World → Prop) : Prop :=
  AtE Tryz.prog 26 53 [.code (sub (Eng.body Tryz.f26) [1, 1, 1, 1, 0, 1, 0, 0]), .inLoop (sub (Eng.body Tryz.f26) [1, 1, 1, 1, 0, 1, 0, 0]), .inBlock 1, .code (sub (Eng.body Tryz.f26) [1, 1, 1, 1, 1])] [(1, .pointer (some ⟨B6, 0, none⟩)), (2, .pointer (some ⟨B8, 0, none⟩)), (27, .int .i64 (f.blocks.length : Int)), (28, .int .i64 t281)] (fRedactH3 B6 f B7 m10_l m10_c fap fac cs B8) [] w0 (nrm R)
def fRedact_c2 (f : Fct) (ftp : Option Addr) (ftc : Nat) (fbp : Option Addr) (fbc : Nat) (fap : Option Addr) (fac : Nat) (B10 : Nat) (B11 : Nat) (B12 : Nat) (t271 : Int) (t282 : Int) (m9_l : Nat) (m9_c : Nat) (cs1 : List Value) (w0 : World) (R : Ending → World → Prop) : Prop :=
  AtE Tryz.prog 26 53 [.code (sub (Eng.body Tryz.f26) [1, 1, 1, 1, 0, 1, 0, 0]), .inLoop (sub (Eng.body Tryz.f26) [1, 1, 1, 1, 0, 1, 0, 0]), .inBlock 1, .code (sub (Eng.body Tryz.f26) [1, 1, 1, 1, 1])] [(1, .pointer (some ⟨B10, 0, none⟩)), (2, .pointer (some ⟨B12, 0, none⟩)), (27, .int .i64 t271), (28, .int .i64 t282)] (fRedactH4 B10 f B11 m9_l m9_c fap fac cs1 B12) [] w0 (nrm R)
def fRedact_c3 (f : Fct) (ftp : Option Addr) (ftc : Nat) (fbp : Option Addr) (fbc : Nat) (fap : Option Addr) (fac : Nat) (B13 : Nat) (B14 : Nat) (B15 : Nat) (B16 : Nat) (t283 : Int) (m91_l : Nat) (m91_c : Nat) (m101_l : Nat) (m101_c : Nat) (cs2 : List Value) (cs3 : List Value) (w0 : World) (R : Ending → World → Prop) : Prop :=
  AtE Tryz.prog 26 53 [.code (sub (Eng.body Tryz.f26) [1, 1, 1, 1, 0, 1, 0, 0]), .inLoop (sub (Eng.body Tryz.f26) [1, 1, 1, 1, 0, 1, 0, 0]), .inBlock 1, .code (sub (Eng.body Tryz.f26) [1, 1, 1, 1, 1])] [(1, .pointer (some ⟨B13, 0, none⟩)), (2, .pointer (some ⟨B16, 0, none⟩)), (27, .int .i64 (f.blocks.length : Int)), (28, .int .i64 t283)] (fRedactH1 B13 f B14 m91_l m91_c B15 m101_l m101_c fap fac cs2 cs3 B16) [] w0 (nrm R)
theorem fRedact_vc (f : Fct) (ftp : Option Addr) (ftc : Nat) (fbp : Option Addr) (fbc : Nat) (fap : Option Addr) (fac : Nat) {R : Ending → World → Prop} {w0 W : World} (hm : Mem [] [] w0 W)
    (H :
      ∀ B : Nat,
      ∀ B1 : Nat,
      ((f.kind = (1 : Int)) →
        Fin R (fRedactH7 B f ftp ftc fbp fbc fap fac B1) [] w0 (.agg (fRedactA0 f))) ∧
       ((¬ (f.kind = (1 : Int))) →
        ((f.kind = (4 : Int)) →
          Fin R (fRedactH7 B f ftp ftc fbp fbc fap fac B1) [] w0 (.agg (fRedactA0 f))) ∧
         ((¬ (f.kind = (4 : Int))) →
          ((f.kind = (5 : Int)) →
            Fin R (fRedactH7 B f ftp ftc fbp fbc fap fac B1) [] w0 (.agg (fRedactA0 f))) ∧
           ((¬ (f.kind = (5 : Int))) →
            ∃ news : List Value, (∀ W, Mem (fRedactH5 B f ftp ftc fbp fbc fap fac B1) [] w0 W → Go.Src Tryz.prog 1 22 (.slice ftp f.topics.length ftc) f.topics.length news W) ∧
            (f.topics.length ≤ 9223372036854775807 ∧ f.topics.length * 16 ≤ 140737488355328) ∧ ((f.topics.length = 0 →
              ∃ news1 : List Value, (∀ W, Mem [(B, .cells #[.int .i64 f.n, .int .i64 f.time, .int .i64 f.kind, .int .i64 f.story, .string f.lang, .int .i64 f.rev, .int .i64 f.base, .string f.title, .string f.author, .slice none 0 0, .slice fbp f.blocks.length fbc, .int .i64 f.lab.unt, .slice fap f.lab.after.length fac, .int .i64 f.lab.appr, .int .i64 f.lab.den, .int .i64 f.editor, .int .i64 f.block, .int .i64 f.sentence, .string f.text, .string f.name, .int .i64 f.partner, .int .i64 f.cls, .int .i64 f.unt] 28), (B1, .cells fRedactA1 28)] [] w0 W → Go.Src Tryz.prog 9 23 (.slice fbp f.blocks.length fbc) f.blocks.length news1 W) ∧
              (f.blocks.length ≤ 9223372036854775807 ∧ f.blocks.length * 96 ≤ 140737488355328) ∧ ((f.blocks.length = 0 →
                fRedact_c0 f ftp ftc fbp fbc fap fac B B1 (0 : Int) (0 : Int) w0 R) ∧
               (0 < f.blocks.length → ∀ (B3 cap1 : Nat) (r1 : List Value), f.blocks.length ≤ cap1 → (news1 ++ r1).length = cap1 * 9 →
                fRedact_c1 f ftp ftc fbp fbc fap fac B B3 B1 (0 : Int) f.blocks.length cap1 (news1 ++ r1) w0 R))) ∧
             (0 < f.topics.length → ∀ (B2 cap : Nat) (r : List Value), f.topics.length ≤ cap → (news ++ r).length = cap * 1 →
              ∃ news2 : List Value, (∀ W, Mem [(B, .cells #[.int .i64 f.n, .int .i64 f.time, .int .i64 f.kind, .int .i64 f.story, .string f.lang, .int .i64 f.rev, .int .i64 f.base, .string f.title, .string f.author, .slice (some ⟨B2, 0, none⟩) f.topics.length cap, .slice fbp f.blocks.length fbc, .int .i64 f.lab.unt, .slice fap f.lab.after.length fac, .int .i64 f.lab.appr, .int .i64 f.lab.den, .int .i64 f.editor, .int .i64 f.block, .int .i64 f.sentence, .string f.text, .string f.name, .int .i64 f.partner, .int .i64 f.cls, .int .i64 f.unt] 28), (B1, .cells fRedactA1 28), (B2, .cells ⟨(news ++ r)⟩ 9)] [] w0 W → Go.Src Tryz.prog 9 23 (.slice fbp f.blocks.length fbc) f.blocks.length news2 W) ∧
              (f.blocks.length ≤ 9223372036854775807 ∧ f.blocks.length * 96 ≤ 140737488355328) ∧ ((f.blocks.length = 0 →
                fRedact_c2 f ftp ftc fbp fbc fap fac B B2 B1 (0 : Int) (0 : Int) f.topics.length cap (news ++ r) w0 R) ∧
               (0 < f.blocks.length → ∀ (B9 cap2 : Nat) (r2 : List Value), f.blocks.length ≤ cap2 → (news2 ++ r2).length = cap2 * 9 →
                fRedact_c3 f ftp ftc fbp fbc fap fac B B2 B9 B1 (0 : Int) f.topics.length cap f.blocks.length cap2 (news ++ r) (news2 ++ r2) w0 R)))))))) :
    Calls Tryz.prog 26 ⟨[.agg (fRedactA14 f ftp ftc fbp fbc fap fac)]⟩ W R := by
  refine AtE.calls (nt := 53) Tryz.func26 (by kernel_rfl) hm ?_
  refine AtE.run 2 (fun W => by kernel_rfl) ?_
  refine AtE.new (fun B => .pointer (some ⟨B, 0, none⟩)) (.cells (fRedactA14 f ftp ftc fbp fbc fap fac) 28) (fun W => by kernel_rfl) (by kernel_rfl) (fun B => ?_)
  replace H := H B
  refine AtE.new (fun B => .pointer (some ⟨B, 0, none⟩)) (.cells fRedactA1 28) (fun W => by kernel_rfl) (by kernel_rfl) (fun B1 => ?_)
  replace H := H B1
  refine AtE.run 5 (fun W => by kernel_rfl) ?_
  refine AtE.load 0 2 (T := 3) (v := .int .i64 f.kind) (by kernel_rfl) ?_
  refine AtE.run 8 (fun W => by kernel_rfl) ?_
  refine AtE.splitP 6 (p := f.kind = (1 : Int)) (by kernel_rfl) (fun h1' => ?_) (fun h1' => ?_)
  · replace H := H.1 h1'
    refine AtE.run 6 (fun W => by kernel_rfl) ?_
    refine AtE.load 0 0 (T := 3) (v := .int .i64 f.n) (by kernel_rfl) ?_
    refine AtE.run 1 (fun W => by kernel_rfl) ?_
    refine AtE.load 0 1 (T := 3) (v := .int .i64 f.time) (by kernel_rfl) ?_
    refine AtE.run 1 (fun W => by kernel_rfl) ?_
    refine AtE.load 0 3 (T := 3) (v := .int .i64 f.story) (by kernel_rfl) ?_
    refine AtE.norm (k' := [.inRegion (regOps [.code (sub (Eng.body Tryz.f26) [1, 0, 1, 0, 1, 0, 0])]) [6, 7], .code (sub (Eng.body Tryz.f26) [1, 0, 1, 0, 1, 0, 1]), .inBlock 0, .code (sub (Eng.body Tryz.f26) [1, 1])]) (e' := [(2, .pointer (some ⟨B1, 0, none⟩)), (11, .int .i64 f.n), (13, .int .i64 f.time), (15, .int .i64 f.story)]) (L' := (fRedactH5 B f ftp ftc fbp fbc fap fac B1)) ?_ (by kernel_rfl)
    refine AtE.run 1 (fun W => by kernel_rfl) ?_
    refine AtE.store 1 0 (T := 28) (v := .agg (fRedactA0 f)) (by kernel_rfl) ?_
    refine AtE.run 1 (fun W => by kernel_rfl) ?_
    exact AtE.retC 1 0 (a := 2) (T := 28) (v := .agg (fRedactA0 f)) Tryz.func26 (by kernel_rfl) (by kernel_rfl) H
  · replace H := H.2 h1'
    refine AtE.run 6 (fun W => by kernel_rfl) ?_
    refine AtE.splitP 6 (p := f.kind = (4 : Int)) (by kernel_rfl) (fun h2' => ?_) (fun h2' => ?_)
    · replace H := H.1 h2'
      refine AtE.run 6 (fun W => by kernel_rfl) ?_
      refine AtE.load 0 0 (T := 3) (v := .int .i64 f.n) (by kernel_rfl) ?_
      refine AtE.run 1 (fun W => by kernel_rfl) ?_
      refine AtE.load 0 1 (T := 3) (v := .int .i64 f.time) (by kernel_rfl) ?_
      refine AtE.norm (k' := [.inRegion (regOps [.code (sub (Eng.body Tryz.f26) [1, 0, 1, 0, 1, 0, 0])]) [4, 5, 6, 7], .code (sub (Eng.body Tryz.f26) [1, 0, 1, 0, 1, 0, 1]), .inBlock 0, .code (sub (Eng.body Tryz.f26) [1, 1])]) (e' := [(1, .pointer (some ⟨B, 0, none⟩)), (2, .pointer (some ⟨B1, 0, none⟩)), (11, .int .i64 f.n), (13, .int .i64 f.time)]) (L' := (fRedactH5 B f ftp ftc fbp fbc fap fac B1)) ?_ (by kernel_rfl)
      refine AtE.run 1 (fun W => by kernel_rfl) ?_
      refine AtE.load 0 3 (T := 3) (v := .int .i64 f.story) (by kernel_rfl) ?_
      refine AtE.run 1 (fun W => by kernel_rfl) ?_
      refine AtE.store 1 0 (T := 28) (v := .agg (fRedactA0 f)) (by kernel_rfl) ?_
      refine AtE.run 1 (fun W => by kernel_rfl) ?_
      exact AtE.retC 1 0 (a := 2) (T := 28) (v := .agg (fRedactA0 f)) Tryz.func26 (by kernel_rfl) (by kernel_rfl) H
    · replace H := H.2 h2'
      refine AtE.run 5 (fun W => by kernel_rfl) ?_
      refine AtE.splitP 6 (p := f.kind = (5 : Int)) (by kernel_rfl) (fun h3' => ?_) (fun h3' => ?_)
      · replace H := H.1 h3'
        refine AtE.run 4 (fun W => by kernel_rfl) ?_
        refine AtE.load 0 0 (T := 3) (v := .int .i64 f.n) (by kernel_rfl) ?_
        refine AtE.norm (k' := [.inRegion (regOps [.code (sub (Eng.body Tryz.f26) [1, 0, 1, 0, 1, 0, 0])]) [2, 3, 4, 5, 6, 7], .code (sub (Eng.body Tryz.f26) [1, 0, 1, 0, 1, 0, 1]), .inBlock 0, .code (sub (Eng.body Tryz.f26) [1, 1])]) (e' := [(1, .pointer (some ⟨B, 0, none⟩)), (2, .pointer (some ⟨B1, 0, none⟩)), (11, .int .i64 f.n)]) (L' := (fRedactH5 B f ftp ftc fbp fbc fap fac B1)) ?_ (by kernel_rfl)
        refine AtE.run 1 (fun W => by kernel_rfl) ?_
        refine AtE.load 0 1 (T := 3) (v := .int .i64 f.time) (by kernel_rfl) ?_
        refine AtE.run 1 (fun W => by kernel_rfl) ?_
        refine AtE.load 0 3 (T := 3) (v := .int .i64 f.story) (by kernel_rfl) ?_
        refine AtE.run 1 (fun W => by kernel_rfl) ?_
        refine AtE.store 1 0 (T := 28) (v := .agg (fRedactA0 f)) (by kernel_rfl) ?_
        refine AtE.run 1 (fun W => by kernel_rfl) ?_
        exact AtE.retC 1 0 (a := 2) (T := 28) (v := .agg (fRedactA0 f)) Tryz.func26 (by kernel_rfl) (by kernel_rfl) H
      · replace H := H.2 h3'
        refine AtE.run 6 (fun W => by kernel_rfl) ?_
        refine AtE.load 0 9 (T := 22) (v := .slice ftp f.topics.length ftc) (by kernel_rfl) ?_
        refine AtE.norm (k' := [.inRegion (regOps [.code (sub (Eng.body Tryz.f26) [1, 1, 0])]) [2, 3, 4], .code (sub (Eng.body Tryz.f26) [1, 1, 1])]) (e' := [(1, .pointer (some ⟨B, 0, none⟩)), (2, .pointer (some ⟨B1, 0, none⟩)), (18, .slice ftp f.topics.length ftc)]) (L' := (fRedactH5 B f ftp ftc fbp fbc fap fac B1)) ?_ (by kernel_rfl)
        obtain ⟨news, hsrc, H⟩ := H
        refine AtE.appendS (T := 22) (U := 22) (E := 9) (z := .string (⟨#[]⟩)) (sz := 1) (bytes := 16) (x := .slice ftp f.topics.length ftc) f.topics.length news (by kernel_rfl) hsrc H.1 (fun h0 => ?_) (fun h0 B2 cap r h1 h2 => ?_)
        · replace H := H.2.1 h0
          refine AtE.run 1 (fun W => by kernel_rfl) ?_
          refine AtE.store 0 9 (T := 22) (v := .slice none 0 0) (by kernel_rfl) ?_
          refine AtE.run 4 (fun W => by kernel_rfl) ?_
          refine AtE.load 0 10 (T := 23) (v := .slice fbp f.blocks.length fbc) (by kernel_rfl) ?_
          obtain ⟨news1, hsrc, H⟩ := H
          refine AtE.appendS (T := 23) (U := 23) (E := 89) (z := .agg #[.int .i64 (0 : Int), .int .i64 (0 : Int), .string (⟨#[]⟩), .int .i64 (0 : Int), .int .i64 (0 : Int), .int .i64 (0 : Int), .slice none 0 0, .int .i64 (0 : Int), .int .i64 (0 : Int)]) (sz := 9) (bytes := 96) (x := .slice fbp f.blocks.length fbc) f.blocks.length news1 (by kernel_rfl) hsrc H.1 (fun h0 => ?_) (fun h0 B3 cap1 r1 h1 h2 => ?_)
          · replace H := H.2.1 h0
            refine AtE.run 1 (fun W => by kernel_rfl) ?_
            refine AtE.store 0 10 (T := 23) (v := .slice none 0 0) (by kernel_rfl) ?_
            refine AtE.run 5 (fun W => by kernel_rfl) ?_
            refine AtE.load 0 10 (T := 23) (v := .slice none 0 0) (by kernel_rfl) ?_
            refine AtE.run 5 (fun W => by kernel_rfl) ?_
            exact AtE.cut [0, 1] H (by kernel_rfl)
          · skip
            replace H := H.2.2 h0 B3 cap1 r1 h1 h2
            refine AtE.run 1 (fun W => by kernel_rfl) ?_
            refine AtE.store 0 10 (T := 23) (v := .slice (some ⟨B3, 0, none⟩) f.blocks.length cap1) (by kernel_rfl) ?_
            refine AtE.run 5 (fun W => by kernel_rfl) ?_
            refine AtE.load 0 10 (T := 23) (v := .slice (some ⟨B3, 0, none⟩) f.blocks.length cap1) (by kernel_rfl) ?_
            refine AtE.run 5 (fun W => by kernel_rfl) ?_
            exact AtE.cut [0, 2, 1] H (by kernel_rfl)
        · skip
          replace H := H.2.2 h0 B2 cap r h1 h2
          refine AtE.run 1 (fun W => by kernel_rfl) ?_
          refine AtE.store 0 9 (T := 22) (v := .slice (some ⟨B2, 0, none⟩) f.topics.length cap) (by kernel_rfl) ?_
          refine AtE.run 4 (fun W => by kernel_rfl) ?_
          refine AtE.load 0 10 (T := 23) (v := .slice fbp f.blocks.length fbc) (by kernel_rfl) ?_
          obtain ⟨news2, hsrc, H⟩ := H
          refine AtE.appendS (T := 23) (U := 23) (E := 89) (z := .agg #[.int .i64 (0 : Int), .int .i64 (0 : Int), .string (⟨#[]⟩), .int .i64 (0 : Int), .int .i64 (0 : Int), .int .i64 (0 : Int), .slice none 0 0, .int .i64 (0 : Int), .int .i64 (0 : Int)]) (sz := 9) (bytes := 96) (x := .slice fbp f.blocks.length fbc) f.blocks.length news2 (by kernel_rfl) hsrc H.1 (fun h0 => ?_) (fun h0 B9 cap2 r2 h1 h2 => ?_)
          · replace H := H.2.1 h0
            refine AtE.run 1 (fun W => by kernel_rfl) ?_
            refine AtE.store 0 10 (T := 23) (v := .slice none 0 0) (by kernel_rfl) ?_
            refine AtE.run 5 (fun W => by kernel_rfl) ?_
            refine AtE.load 0 10 (T := 23) (v := .slice none 0 0) (by kernel_rfl) ?_
            refine AtE.run 5 (fun W => by kernel_rfl) ?_
            exact AtE.cut [0, 2, 1] H (by kernel_rfl)
          · skip
            replace H := H.2.2 h0 B9 cap2 r2 h1 h2
            refine AtE.run 1 (fun W => by kernel_rfl) ?_
            refine AtE.store 0 10 (T := 23) (v := .slice (some ⟨B9, 0, none⟩) f.blocks.length cap2) (by kernel_rfl) ?_
            refine AtE.run 5 (fun W => by kernel_rfl) ?_
            refine AtE.load 0 10 (T := 23) (v := .slice (some ⟨B9, 0, none⟩) f.blocks.length cap2) (by kernel_rfl) ?_
            refine AtE.run 5 (fun W => by kernel_rfl) ?_
            exact AtE.cut [0, 2, 3, 1] H (by kernel_rfl)
end Go.Eng
namespace Go.Eng
open Go Go.RowKit Go.Proofs
set_option linter.unusedVariables false
set_option maxRecDepth 100000
abbrev sane5H0 (B5 : Nat) (z : Fct) (ztp : Option Addr) (ztc : Nat) (zbp : Option Addr) (zbc : Nat) (zap : Option Addr) (zac : Nat) (B4 : Nat) (B3 : Nat) (B2 : Nat) (d2 : Fct) (d2tp : Option Addr) (d2tc : Nat) (d2bp : Option Addr) (d2bc : Nat) (d2ap : Option Addr) (d2ac : Nat) (B1 : Nat) (d1 : Fct) (d1tp : Option Addr) (d1tc : Nat) (d1bp : Option Addr) (d1bc : Nat) (d1ap : Option Addr) (d1ac : Nat) (B : Nat) (d : Fct) (dtp : Option Addr) (dtc : Nat) (dbp : Option Addr) (dbc : Nat) (dap : Option Addr) (dac : Nat) (F3 : SHeap) : SHeap := ((B5, .cells #[.int .i64 z.n, .int .i64 z.time, .int .i64 z.kind, .int .i64 z.story, .string z.lang, .int .i64 z.rev, .int .i64 z.base, .string z.title, .string z.author, .slice ztp z.topics.length ztc, .slice zbp z.blocks.length zbc, .int .i64 z.lab.unt, .slice zap z.lab.after.length zac, .int .i64 z.lab.appr, .int .i64 z.lab.den, .int .i64 z.editor, .int .i64 z.block, .int .i64 z.sentence, .string z.text, .string z.name, .int .i64 z.partner, .int .i64 z.cls, .int .i64 z.unt] 28) :: (B4, .cells #[.int .i64 (1 : Int), .int .i64 (1 : Int), .string (⟨#[82, 97, 105, 110]⟩), .int .i64 (0 : Int), .int .i64 (0 : Int), .int .i64 (0 : Int), .slice none 0 0, .int .i64 (0 : Int), .int .i64 (0 : Int)] 89) :: (B3, .cells #[.string (⟨#[97]⟩), .string (⟨#[98]⟩)] 9) :: (B2, .cells #[.int .i64 d2.n, .int .i64 d2.time, .int .i64 d2.kind, .int .i64 d2.story, .string d2.lang, .int .i64 d2.rev, .int .i64 d2.base, .string d2.title, .string d2.author, .slice d2tp d2.topics.length d2tc, .slice d2bp d2.blocks.length d2bc, .int .i64 d2.lab.unt, .slice d2ap d2.lab.after.length d2ac, .int .i64 d2.lab.appr, .int .i64 d2.lab.den, .int .i64 d2.editor, .int .i64 d2.block, .int .i64 d2.sentence, .string d2.text, .string d2.name, .int .i64 d2.partner, .int .i64 d2.cls, .int .i64 d2.unt] 28) :: (B1, .cells #[.int .i64 d1.n, .int .i64 d1.time, .int .i64 d1.kind, .int .i64 d1.story, .string d1.lang, .int .i64 d1.rev, .int .i64 d1.base, .string d1.title, .string d1.author, .slice d1tp d1.topics.length d1tc, .slice d1bp d1.blocks.length d1bc, .int .i64 d1.lab.unt, .slice d1ap d1.lab.after.length d1ac, .int .i64 d1.lab.appr, .int .i64 d1.lab.den, .int .i64 d1.editor, .int .i64 d1.block, .int .i64 d1.sentence, .string d1.text, .string d1.name, .int .i64 d1.partner, .int .i64 d1.cls, .int .i64 d1.unt] 28) :: (B, .cells #[.int .i64 d.n, .int .i64 d.time, .int .i64 d.kind, .int .i64 d.story, .string d.lang, .int .i64 d.rev, .int .i64 d.base, .string d.title, .string d.author, .slice dtp d.topics.length dtc, .slice dbp d.blocks.length dbc, .int .i64 d.lab.unt, .slice dap d.lab.after.length dac, .int .i64 d.lab.appr, .int .i64 d.lab.den, .int .i64 d.editor, .int .i64 d.block, .int .i64 d.sentence, .string d.text, .string d.name, .int .i64 d.partner, .int .i64 d.cls, .int .i64 d.unt] 28) :: F3)
abbrev sane5H1 (B2 : Nat) (d2 : Fct) (d2tp : Option Addr) (d2tc : Nat) (d2bp : Option Addr) (d2bc : Nat) (d2ap : Option Addr) (d2ac : Nat) (B1 : Nat) (d1 : Fct) (d1tp : Option Addr) (d1tc : Nat) (d1bp : Option Addr) (d1bc : Nat) (d1ap : Option Addr) (d1ac : Nat) (B : Nat) (d : Fct) (dtp : Option Addr) (dtc : Nat) (dbp : Option Addr) (dbc : Nat) (dap : Option Addr) (dac : Nat) (F2 : SHeap) : SHeap := ((B2, .cells #[.int .i64 d2.n, .int .i64 d2.time, .int .i64 d2.kind, .int .i64 d2.story, .string d2.lang, .int .i64 d2.rev, .int .i64 d2.base, .string d2.title, .string d2.author, .slice d2tp d2.topics.length d2tc, .slice d2bp d2.blocks.length d2bc, .int .i64 d2.lab.unt, .slice d2ap d2.lab.after.length d2ac, .int .i64 d2.lab.appr, .int .i64 d2.lab.den, .int .i64 d2.editor, .int .i64 d2.block, .int .i64 d2.sentence, .string d2.text, .string d2.name, .int .i64 d2.partner, .int .i64 d2.cls, .int .i64 d2.unt] 28) :: (B1, .cells #[.int .i64 d1.n, .int .i64 d1.time, .int .i64 d1.kind, .int .i64 d1.story, .string d1.lang, .int .i64 d1.rev, .int .i64 d1.base, .string d1.title, .string d1.author, .slice d1tp d1.topics.length d1tc, .slice d1bp d1.blocks.length d1bc, .int .i64 d1.lab.unt, .slice d1ap d1.lab.after.length d1ac, .int .i64 d1.lab.appr, .int .i64 d1.lab.den, .int .i64 d1.editor, .int .i64 d1.block, .int .i64 d1.sentence, .string d1.text, .string d1.name, .int .i64 d1.partner, .int .i64 d1.cls, .int .i64 d1.unt] 28) :: (B, .cells #[.int .i64 d.n, .int .i64 d.time, .int .i64 d.kind, .int .i64 d.story, .string d.lang, .int .i64 d.rev, .int .i64 d.base, .string d.title, .string d.author, .slice dtp d.topics.length dtc, .slice dbp d.blocks.length dbc, .int .i64 d.lab.unt, .slice dap d.lab.after.length dac, .int .i64 d.lab.appr, .int .i64 d.lab.den, .int .i64 d.editor, .int .i64 d.block, .int .i64 d.sentence, .string d.text, .string d.name, .int .i64 d.partner, .int .i64 d.cls, .int .i64 d.unt] 28) :: F2)
abbrev sane5H2 (B4 : Nat) (B3 : Nat) (B2 : Nat) (d2 : Fct) (d2tp : Option Addr) (d2tc : Nat) (d2bp : Option Addr) (d2bc : Nat) (d2ap : Option Addr) (d2ac : Nat) (B1 : Nat) (d1 : Fct) (d1tp : Option Addr) (d1tc : Nat) (d1bp : Option Addr) (d1bc : Nat) (d1ap : Option Addr) (d1ac : Nat) (B : Nat) (d : Fct) (dtp : Option Addr) (dtc : Nat) (dbp : Option Addr) (dbc : Nat) (dap : Option Addr) (dac : Nat) (F2 : SHeap) : SHeap := ((B4, .cells #[.int .i64 (1 : Int), .int .i64 (1 : Int), .string (⟨#[82, 97, 105, 110]⟩), .int .i64 (0 : Int), .int .i64 (0 : Int), .int .i64 (0 : Int), .slice none 0 0, .int .i64 (0 : Int), .int .i64 (0 : Int)] 89) :: (B3, .cells #[.string (⟨#[97]⟩), .string (⟨#[98]⟩)] 9) :: (B2, .cells #[.int .i64 d2.n, .int .i64 d2.time, .int .i64 d2.kind, .int .i64 d2.story, .string d2.lang, .int .i64 d2.rev, .int .i64 d2.base, .string d2.title, .string d2.author, .slice d2tp d2.topics.length d2tc, .slice d2bp d2.blocks.length d2bc, .int .i64 d2.lab.unt, .slice d2ap d2.lab.after.length d2ac, .int .i64 d2.lab.appr, .int .i64 d2.lab.den, .int .i64 d2.editor, .int .i64 d2.block, .int .i64 d2.sentence, .string d2.text, .string d2.name, .int .i64 d2.partner, .int .i64 d2.cls, .int .i64 d2.unt] 28) :: (B1, .cells #[.int .i64 d1.n, .int .i64 d1.time, .int .i64 d1.kind, .int .i64 d1.story, .string d1.lang, .int .i64 d1.rev, .int .i64 d1.base, .string d1.title, .string d1.author, .slice d1tp d1.topics.length d1tc, .slice d1bp d1.blocks.length d1bc, .int .i64 d1.lab.unt, .slice d1ap d1.lab.after.length d1ac, .int .i64 d1.lab.appr, .int .i64 d1.lab.den, .int .i64 d1.editor, .int .i64 d1.block, .int .i64 d1.sentence, .string d1.text, .string d1.name, .int .i64 d1.partner, .int .i64 d1.cls, .int .i64 d1.unt] 28) :: (B, .cells #[.int .i64 d.n, .int .i64 d.time, .int .i64 d.kind, .int .i64 d.story, .string d.lang, .int .i64 d.rev, .int .i64 d.base, .string d.title, .string d.author, .slice dtp d.topics.length dtc, .slice dbp d.blocks.length dbc, .int .i64 d.lab.unt, .slice dap d.lab.after.length dac, .int .i64 d.lab.appr, .int .i64 d.lab.den, .int .i64 d.editor, .int .i64 d.block, .int .i64 d.sentence, .string d.text, .string d.name, .int .i64 d.partner, .int .i64 d.cls, .int .i64 d.unt] 28) :: F2)
abbrev sane5H3 (B1 : Nat) (d1 : Fct) (d1tp : Option Addr) (d1tc : Nat) (d1bp : Option Addr) (d1bc : Nat) (d1ap : Option Addr) (d1ac : Nat) (B : Nat) (d : Fct) (dtp : Option Addr) (dtc : Nat) (dbp : Option Addr) (dbc : Nat) (dap : Option Addr) (dac : Nat) (F1 : SHeap) : SHeap := ((B1, .cells #[.int .i64 d1.n, .int .i64 d1.time, .int .i64 d1.kind, .int .i64 d1.story, .string d1.lang, .int .i64 d1.rev, .int .i64 d1.base, .string d1.title, .string d1.author, .slice d1tp d1.topics.length d1tc, .slice d1bp d1.blocks.length d1bc, .int .i64 d1.lab.unt, .slice d1ap d1.lab.after.length d1ac, .int .i64 d1.lab.appr, .int .i64 d1.lab.den, .int .i64 d1.editor, .int .i64 d1.block, .int .i64 d1.sentence, .string d1.text, .string d1.name, .int .i64 d1.partner, .int .i64 d1.cls, .int .i64 d1.unt] 28) :: (B, .cells #[.int .i64 d.n, .int .i64 d.time, .int .i64 d.kind, .int .i64 d.story, .string d.lang, .int .i64 d.rev, .int .i64 d.base, .string d.title, .string d.author, .slice dtp d.topics.length dtc, .slice dbp d.blocks.length dbc, .int .i64 d.lab.unt, .slice dap d.lab.after.length dac, .int .i64 d.lab.appr, .int .i64 d.lab.den, .int .i64 d.editor, .int .i64 d.block, .int .i64 d.sentence, .string d.text, .string d.name, .int .i64 d.partner, .int .i64 d.cls, .int .i64 d.unt] 28) :: F1)
abbrev sane5A0 (d : Fct) (dtp : Option Addr) (dtc : Nat) (dbp : Option Addr) (dbc : Nat) (dap : Option Addr) (dac : Nat) : Array Value := #[.int .i64 d.n, .int .i64 d.time, .int .i64 d.kind, .int .i64 d.story, .string d.lang, .int .i64 d.rev, .int .i64 d.base, .string d.title, .string d.author, .slice dtp d.topics.length dtc, .slice dbp d.blocks.length dbc, .int .i64 d.lab.unt, .slice dap d.lab.after.length dac, .int .i64 d.lab.appr, .int .i64 d.lab.den, .int .i64 d.editor, .int .i64 d.block, .int .i64 d.sentence, .string d.text, .string d.name, .int .i64 d.partner, .int .i64 d.cls, .int .i64 d.unt]
abbrev sane5A1 (z : Fct) (ztp : Option Addr) (ztc : Nat) (zbp : Option Addr) (zbc : Nat) (zap : Option Addr) (zac : Nat) : Array Value := #[.int .i64 z.n, .int .i64 z.time, .int .i64 z.kind, .int .i64 z.story, .string z.lang, .int .i64 z.rev, .int .i64 z.base, .string z.title, .string z.author, .slice ztp z.topics.length ztc, .slice zbp z.blocks.length zbc, .int .i64 z.lab.unt, .slice zap z.lab.after.length zac, .int .i64 z.lab.appr, .int .i64 z.lab.den, .int .i64 z.editor, .int .i64 z.block, .int .i64 z.sentence, .string z.text, .string z.name, .int .i64 z.partner, .int .i64 z.cls, .int .i64 z.unt]
abbrev sane5A2 (d1 : Fct) (d1tp : Option Addr) (d1tc : Nat) (d1bp : Option Addr) (d1bc : Nat) (d1ap : Option Addr) (d1ac : Nat) : Array Value := #[.int .i64 d1.n, .int .i64 d1.time, .int .i64 d1.kind, .int .i64 d1.story, .string d1.lang, .int .i64 d1.rev, .int .i64 d1.base, .string d1.title, .string d1.author, .slice d1tp d1.topics.length d1tc, .slice d1bp d1.blocks.length d1bc, .int .i64 d1.lab.unt, .slice d1ap d1.lab.after.length d1ac, .int .i64 d1.lab.appr, .int .i64 d1.lab.den, .int .i64 d1.editor, .int .i64 d1.block, .int .i64 d1.sentence, .string d1.text, .string d1.name, .int .i64 d1.partner, .int .i64 d1.cls, .int .i64 d1.unt]
abbrev sane5A3 : Array Value := #[.int .i64 (0 : Int), .int .i64 (0 : Int), .int .i64 (0 : Int), .int .i64 (0 : Int), .string (⟨#[]⟩), .int .i64 (0 : Int), .int .i64 (0 : Int), .string (⟨#[]⟩), .string (⟨#[]⟩), .slice none 0 0, .slice none 0 0, .int .i64 (0 : Int), .slice none 0 0, .int .i64 (0 : Int), .int .i64 (0 : Int), .int .i64 (0 : Int), .int .i64 (0 : Int), .int .i64 (0 : Int), .string (⟨#[]⟩), .string (⟨#[]⟩), .int .i64 (0 : Int), .int .i64 (0 : Int), .int .i64 (0 : Int)]
abbrev sane5A4 (d2 : Fct) (d2tp : Option Addr) (d2tc : Nat) (d2bp : Option Addr) (d2bc : Nat) (d2ap : Option Addr) (d2ac : Nat) : Array Value := #[.int .i64 d2.n, .int .i64 d2.time, .int .i64 d2.kind, .int .i64 d2.story, .string d2.lang, .int .i64 d2.rev, .int .i64 d2.base, .string d2.title, .string d2.author, .slice d2tp d2.topics.length d2tc, .slice d2bp d2.blocks.length d2bc, .int .i64 d2.lab.unt, .slice d2ap d2.lab.after.length d2ac, .int .i64 d2.lab.appr, .int .i64 d2.lab.den, .int .i64 d2.editor, .int .i64 d2.block, .int .i64 d2.sentence, .string d2.text, .string d2.name, .int .i64 d2.partner, .int .i64 d2.cls, .int .i64 d2.unt]
abbrev sane5A5 (B3 : Nat) (B4 : Nat) : Array Value := #[.int .i64 (0 : Int), .int .i64 (0 : Int), .int .i64 (1 : Int), .int .i64 (1 : Int), .string (⟨#[101, 110]⟩), .int .i64 (1 : Int), .int .i64 (0 : Int), .string (⟨#[82, 97, 105, 110]⟩), .string (⟨#[97, 110, 110]⟩), .slice (some ⟨B3, 0, none⟩) 2 2, .slice (some ⟨B4, 0, none⟩) 1 1, .int .i64 (0 : Int), .slice none 0 0, .int .i64 (0 : Int), .int .i64 (0 : Int), .int .i64 (0 : Int), .int .i64 (0 : Int), .int .i64 (0 : Int), .string (⟨#[]⟩), .string (⟨#[]⟩), .int .i64 (0 : Int), .int .i64 (0 : Int), .int .i64 (0 : Int)]
abbrev sane5A6 : Array Value := #[.int .i64 (9 : Int), .int .i64 (5 : Int), .int .i64 (4 : Int), .int .i64 (2 : Int), .string (⟨#[101, 110]⟩), .int .i64 (0 : Int), .int .i64 (0 : Int), .string (⟨#[]⟩), .string (⟨#[]⟩), .slice none 0 0, .slice none 0 0, .int .i64 (0 : Int), .slice none 0 0, .int .i64 (0 : Int), .int .i64 (0 : Int), .int .i64 (0 : Int), .int .i64 (1 : Int), .int .i64 (0 : Int), .string (⟨#[78, 111, 46]⟩), .string (⟨#[]⟩), .int .i64 (0 : Int), .int .i64 (0 : Int), .int .i64 (0 : Int)]
abbrev sane5A7 : Array Value := #[.int .i64 (1 : Int), .int .i64 (0 : Int), .int .i64 (2 : Int), .int .i64 (3 : Int), .string (⟨#[101, 110]⟩), .int .i64 (0 : Int), .int .i64 (0 : Int), .string (⟨#[]⟩), .string (⟨#[]⟩), .slice none 0 0, .slice none 0 0, .int .i64 (0 : Int), .slice none 0 0, .int .i64 (0 : Int), .int .i64 (0 : Int), .int .i64 (2 : Int), .int .i64 (0 : Int), .int .i64 (0 : Int), .string (⟨#[]⟩), .string (⟨#[]⟩), .int .i64 (0 : Int), .int .i64 (0 : Int), .int .i64 (0 : Int)]
abbrev sane5A8 : Array Value := #[.int .i64 (2 : Int), .int .i64 (70 : Int), .int .i64 (6 : Int), .int .i64 (65 : Int), .string (⟨#[]⟩), .int .i64 (0 : Int), .int .i64 (0 : Int), .string (⟨#[]⟩), .string (⟨#[]⟩), .slice none 0 0, .slice none 0 0, .int .i64 (0 : Int), .slice none 0 0, .int .i64 (0 : Int), .int .i64 (0 : Int), .int .i64 (0 : Int), .int .i64 (0 : Int), .int .i64 (0 : Int), .string (⟨#[]⟩), .string (⟨#[]⟩), .int .i64 (0 : Int), .int .i64 (0 : Int), .int .i64 (0 : Int)]
abbrev sane5A9 : Array Value := #[.int .i64 (2 : Int), .int .i64 (70 : Int), .int .i64 (6 : Int), .int .i64 (5 : Int), .string (⟨#[]⟩), .int .i64 (0 : Int), .int .i64 (0 : Int), .string (⟨#[]⟩), .string (⟨#[]⟩), .slice none 0 0, .slice none 0 0, .int .i64 (0 : Int), .slice none 0 0, .int .i64 (0 : Int), .int .i64 (0 : Int), .int .i64 (0 : Int), .int .i64 (0 : Int), .int .i64 (0 : Int), .string (⟨#[]⟩), .string (⟨#[]⟩), .int .i64 (0 : Int), .int .i64 (0 : Int), .int .i64 (0 : Int)]
abbrev sane5A10 : Array Value := #[.int .i64 (9 : Int), .int .i64 (5 : Int), .int .i64 (10 : Int), .int .i64 (2 : Int), .string (⟨#[]⟩), .int .i64 (0 : Int), .int .i64 (0 : Int), .string (⟨#[]⟩), .string (⟨#[]⟩), .slice none 0 0, .slice none 0 0, .int .i64 (0 : Int), .slice none 0 0, .int .i64 (0 : Int), .int .i64 (0 : Int), .int .i64 (0 : Int), .int .i64 (0 : Int), .int .i64 (0 : Int), .string (⟨#[]⟩), .string (⟨#[]⟩), .int .i64 (0 : Int), .int .i64 (0 : Int), .int .i64 (0 : Int)]
abbrev sane5A11 : Array Value := #[.int .i64 (1 : Int), .int .i64 (0 : Int), .int .i64 (2 : Int), .int .i64 (3 : Int), .string (⟨#[]⟩), .int .i64 (0 : Int), .int .i64 (0 : Int), .string (⟨#[]⟩), .string (⟨#[]⟩), .slice none 0 0, .slice none 0 0, .int .i64 (0 : Int), .slice none 0 0, .int .i64 (0 : Int), .int .i64 (0 : Int), .int .i64 (2 : Int), .int .i64 (0 : Int), .int .i64 (0 : Int), .string (⟨#[]⟩), .string (⟨#[]⟩), .int .i64 (0 : Int), .int .i64 (0 : Int), .int .i64 (0 : Int)]
theorem sane5_vc  {R : Ending → World → Prop} {w0 W : World} (hm : Mem [] [] w0 W)
    (H :
      CallH Tryz.prog 19 ⟨[.agg sane5A9]⟩ [] [] w0 (fun v L' => ∃ (r1 : ByteArray) (r21 : Int), v = (.tuple #[.string r1, .int .i64 r21]) ∧ L' = [] ∧
        CallH Tryz.prog 21 ⟨[.string (⟨#[4, 140, 1, 12, 10]⟩)]⟩ [] [] w0 (fun v L' => ∃ (d : Fct) (dtp : Option Addr) (dtc : Nat) (dbp : Option Addr) (dbc : Nat) (dap : Option Addr) (dac : Nat) (ev : Int) (F : SHeap), v = (.tuple #[.agg (sane5A0 d dtp dtc dbp dbc dap dac), .int .i64 ev]) ∧ L' = (F) ∧
          ∀ B : Nat,
          CallH Tryz.prog 21 ⟨[.string (⟨#[4, 140, 1, 12, 10, 0]⟩)]⟩ ((B, .cells (sane5A0 d dtp dtc dbp dbc dap dac) 28) :: F) [] w0 (fun v L' => ∃ (d1 : Fct) (d1tp : Option Addr) (d1tc : Nat) (d1bp : Option Addr) (d1bc : Nat) (d1ap : Option Addr) (d1ac : Nat) (ev1 : Int) (F1 : SHeap), v = (.tuple #[.agg (sane5A2 d1 d1tp d1tc d1bp d1bc d1ap d1ac), .int .i64 ev1]) ∧ L' = ((B, .cells (sane5A0 d dtp dtc dbp dbc dap dac) 28) :: F1) ∧
            ∀ B1 : Nat,
            CallH Tryz.prog 21 ⟨[.string (⟨#[4, 140, 1, 22, 10]⟩)]⟩ (sane5H3 B1 d1 d1tp d1tc d1bp d1bc d1ap d1ac B d dtp dtc dbp dbc dap dac F1) [] w0 (fun v L' => ∃ (d2 : Fct) (d2tp : Option Addr) (d2tc : Nat) (d2bp : Option Addr) (d2bc : Nat) (d2ap : Option Addr) (d2ac : Nat) (ev2 : Int) (F2 : SHeap), v = (.tuple #[.agg (sane5A4 d2 d2tp d2tc d2bp d2bc d2ap d2ac), .int .i64 ev2]) ∧ L' = ((B1, .cells (sane5A2 d1 d1tp d1tc d1bp d1bc d1ap d1ac) 28) :: (B, .cells (sane5A0 d dtp dtc dbp dbc dap dac) 28) :: F2) ∧
              ∀ B2 : Nat,
              CallH Tryz.prog 19 ⟨[.agg sane5A8]⟩ (sane5H1 B2 d2 d2tp d2tc d2bp d2bc d2ap d2ac B1 d1 d1tp d1tc d1bp d1bc d1ap d1ac B d dtp dtc dbp dbc dap dac F2) [] w0 (fun v L' => ∃ (r91 : ByteArray) (r101 : Int), v = (.tuple #[.string r91, .int .i64 r101]) ∧ L' = (sane5H1 B2 d2 d2tp d2tc d2bp d2bc d2ap d2ac B1 d1 d1tp d1tc d1bp d1bc d1ap d1ac B d dtp dtc dbp dbc dap dac F2) ∧
                CallH Tryz.prog 20 ⟨[.agg sane5A11]⟩ (sane5H1 B2 d2 d2tp d2tc d2bp d2bc d2ap d2ac B1 d1 d1tp d1tc d1bp d1bc d1ap d1ac B d dtp dtc dbp dbc dap dac F2) [] w0 (fun v L' => ∃ (r111 : Bool), v = (.bool r111) ∧ L' = (sane5H1 B2 d2 d2tp d2tc d2bp d2bc d2ap d2ac B1 d1 d1tp d1tc d1bp d1bc d1ap d1ac B d dtp dtc dbp dbc dap dac F2) ∧
                  CallH Tryz.prog 20 ⟨[.agg sane5A7]⟩ (sane5H1 B2 d2 d2tp d2tc d2bp d2bc d2ap d2ac B1 d1 d1tp d1tc d1bp d1bc d1ap d1ac B d dtp dtc dbp dbc dap dac F2) [] w0 (fun v L' => ∃ (r121 : Bool), v = (.bool r121) ∧ L' = (sane5H1 B2 d2 d2tp d2tc d2bp d2bc d2ap d2ac B1 d1 d1tp d1tc d1bp d1bc d1ap d1ac B d dtp dtc dbp dbc dap dac F2) ∧
                    ∀ B3 : Nat,
                    ∀ B4 : Nat,
                    CallH Tryz.prog 20 ⟨[.agg (sane5A5 B3 B4)]⟩ (sane5H2 B4 B3 B2 d2 d2tp d2tc d2bp d2bc d2ap d2ac B1 d1 d1tp d1tc d1bp d1bc d1ap d1ac B d dtp dtc dbp dbc dap dac F2) [] w0 (fun v L' => ∃ (r131 : Bool), v = (.bool r131) ∧ L' = (sane5H2 B4 B3 B2 d2 d2tp d2tc d2bp d2bc d2ap d2ac B1 d1 d1tp d1tc d1bp d1bc d1ap d1ac B d dtp dtc dbp dbc dap dac F2) ∧
                      CallH Tryz.prog 26 ⟨[.agg sane5A6]⟩ (sane5H2 B4 B3 B2 d2 d2tp d2tc d2bp d2bc d2ap d2ac B1 d1 d1tp d1tc d1bp d1bc d1ap d1ac B d dtp dtc dbp dbc dap dac F2) [] w0 (fun v L' => ∃ (z : Fct) (ztp : Option Addr) (ztc : Nat) (zbp : Option Addr) (zbc : Nat) (zap : Option Addr) (zac : Nat) (F3 : SHeap), v = (.agg (sane5A1 z ztp ztc zbp zbc zap zac)) ∧ L' = ((B4, .cells #[.int .i64 (1 : Int), .int .i64 (1 : Int), .string (⟨#[82, 97, 105, 110]⟩), .int .i64 (0 : Int), .int .i64 (0 : Int), .int .i64 (0 : Int), .slice none 0 0, .int .i64 (0 : Int), .int .i64 (0 : Int)] 89) :: (B3, .cells #[.string (⟨#[97]⟩), .string (⟨#[98]⟩)] 9) :: (B2, .cells (sane5A4 d2 d2tp d2tc d2bp d2bc d2ap d2ac) 28) :: (B1, .cells (sane5A2 d1 d1tp d1tc d1bp d1bc d1ap d1ac) 28) :: (B, .cells (sane5A0 d dtp dtc dbp dbc dap dac) 28) :: F3) ∧
                        ∀ B5 : Nat,
                        CallH Tryz.prog 22 ⟨[.agg (sane5A1 z ztp ztc zbp zbc zap zac), .agg sane5A10]⟩ (sane5H0 B5 z ztp ztc zbp zbc zap zac B4 B3 B2 d2 d2tp d2tc d2bp d2bc d2ap d2ac B1 d1 d1tp d1tc d1bp d1bc d1ap d1ac B d dtp dtc dbp dbc dap dac F3) [] w0 (fun v L' => ∃ (r151 : Bool), v = (.bool r151) ∧ L' = (sane5H0 B5 z ztp ztc zbp zbc zap zac B4 B3 B2 d2 d2tp d2tc d2bp d2bc d2ap d2ac B1 d1 d1tp d1tc d1bp d1bc d1ap d1ac B d dtp dtc dbp dbc dap dac F3) ∧
                          ((r1 = (⟨#[4, 140, 1, 12, 10]⟩ : ByteArray)) →
                            ((r21 = (0 : Int)) →
                              ((d.n = (2 : Int)) →
                                ((d.story = (5 : Int)) →
                                  ((ev = (0 : Int)) →
                                    ((ev1 = (10 : Int)) →
                                      ((ev2 = (50 : Int)) →
                                        ((r101 = (50 : Int)) →
                                          ((r111 = true) →
                                            ((r121 = true) →
                                              Fin R (sane5H0 B5 z ztp ztc zbp zbc zap zac B4 B3 B2 d2 d2tp d2tc d2bp d2bc d2ap d2ac B1 d1 d1tp d1tc d1bp d1bc d1ap d1ac B d dtp dtc dbp dbc dap dac F3) [] w0 (.bool false)) ∧
                                             ((r121 = false) →
                                              ((r131 = true) →
                                                ((r151 = true) →
                                                  CallH Tryz.prog 22 ⟨[.agg (sane5A0 d dtp dtc dbp dbc dap dac), .agg (sane5A1 z ztp ztc zbp zbc zap zac)]⟩ (sane5H0 B5 z ztp ztc zbp zbc zap zac B4 B3 B2 d2 d2tp d2tc d2bp d2bc d2ap d2ac B1 d1 d1tp d1tc d1bp d1bc d1ap d1ac B d dtp dtc dbp dbc dap dac F3) [] w0 (fun v L' => ∃ (r161 : Bool), v = (.bool r161) ∧ L' = (sane5H0 B5 z ztp ztc zbp zbc zap zac B4 B3 B2 d2 d2tp d2tc d2bp d2bc d2ap d2ac B1 d1 d1tp d1tc d1bp d1bc d1ap d1ac B d dtp dtc dbp dbc dap dac F3) ∧
                                                    ((r161 = true) →
                                                      Fin R (sane5H0 B5 z ztp ztc zbp zbc zap zac B4 B3 B2 d2 d2tp d2tc d2bp d2bc d2ap d2ac B1 d1 d1tp d1tc d1bp d1bc d1ap d1ac B d dtp dtc dbp dbc dap dac F3) [] w0 (.bool false)) ∧
                                                     ((r161 = false) →
                                                      Fin R (sane5H0 B5 z ztp ztc zbp zbc zap zac B4 B3 B2 d2 d2tp d2tc d2bp d2bc d2ap d2ac B1 d1 d1tp d1tc d1bp d1bc d1ap d1ac B d dtp dtc dbp dbc dap dac F3) [] w0 (.bool true)))) ∧
                                                 ((r151 = false) →
                                                  Fin R (sane5H0 B5 z ztp ztc zbp zbc zap zac B4 B3 B2 d2 d2tp d2tc d2bp d2bc d2ap d2ac B1 d1 d1tp d1tc d1bp d1bc d1ap d1ac B d dtp dtc dbp dbc dap dac F3) [] w0 (.bool false))) ∧
                                               ((r131 = false) →
                                                Fin R (sane5H0 B5 z ztp ztc zbp zbc zap zac B4 B3 B2 d2 d2tp d2tc d2bp d2bc d2ap d2ac B1 d1 d1tp d1tc d1bp d1bc d1ap d1ac B d dtp dtc dbp dbc dap dac F3) [] w0 (.bool false)))) ∧
                                           ((r111 = false) →
                                            Fin R (sane5H0 B5 z ztp ztc zbp zbc zap zac B4 B3 B2 d2 d2tp d2tc d2bp d2bc d2ap d2ac B1 d1 d1tp d1tc d1bp d1bc d1ap d1ac B d dtp dtc dbp dbc dap dac F3) [] w0 (.bool false))) ∧
                                         ((¬ (r101 = (50 : Int))) →
                                          Fin R (sane5H0 B5 z ztp ztc zbp zbc zap zac B4 B3 B2 d2 d2tp d2tc d2bp d2bc d2ap d2ac B1 d1 d1tp d1tc d1bp d1bc d1ap d1ac B d dtp dtc dbp dbc dap dac F3) [] w0 (.bool false))) ∧
                                       ((¬ (ev2 = (50 : Int))) →
                                        Fin R (sane5H0 B5 z ztp ztc zbp zbc zap zac B4 B3 B2 d2 d2tp d2tc d2bp d2bc d2ap d2ac B1 d1 d1tp d1tc d1bp d1bc d1ap d1ac B d dtp dtc dbp dbc dap dac F3) [] w0 (.bool false))) ∧
                                     ((¬ (ev1 = (10 : Int))) →
                                      Fin R (sane5H0 B5 z ztp ztc zbp zbc zap zac B4 B3 B2 d2 d2tp d2tc d2bp d2bc d2ap d2ac B1 d1 d1tp d1tc d1bp d1bc d1ap d1ac B d dtp dtc dbp dbc dap dac F3) [] w0 (.bool false))) ∧
                                   ((¬ (ev = (0 : Int))) →
                                    Fin R (sane5H0 B5 z ztp ztc zbp zbc zap zac B4 B3 B2 d2 d2tp d2tc d2bp d2bc d2ap d2ac B1 d1 d1tp d1tc d1bp d1bc d1ap d1ac B d dtp dtc dbp dbc dap dac F3) [] w0 (.bool false))) ∧
                                 ((¬ (d.story = (5 : Int))) →
                                  Fin R (sane5H0 B5 z ztp ztc zbp zbc zap zac B4 B3 B2 d2 d2tp d2tc d2bp d2bc d2ap d2ac B1 d1 d1tp d1tc d1bp d1bc d1ap d1ac B d dtp dtc dbp dbc dap dac F3) [] w0 (.bool false))) ∧
                               ((¬ (d.n = (2 : Int))) →
                                Fin R (sane5H0 B5 z ztp ztc zbp zbc zap zac B4 B3 B2 d2 d2tp d2tc d2bp d2bc d2ap d2ac B1 d1 d1tp d1tc d1bp d1bc d1ap d1ac B d dtp dtc dbp dbc dap dac F3) [] w0 (.bool false))) ∧
                             ((¬ (r21 = (0 : Int))) →
                              Fin R (sane5H0 B5 z ztp ztc zbp zbc zap zac B4 B3 B2 d2 d2tp d2tc d2bp d2bc d2ap d2ac B1 d1 d1tp d1tc d1bp d1bc d1ap d1ac B d dtp dtc dbp dbc dap dac F3) [] w0 (.bool false))) ∧
                           ((¬ r1 = (⟨#[4, 140, 1, 12, 10]⟩ : ByteArray)) →
                            Fin R (sane5H0 B5 z ztp ztc zbp zbc zap zac B4 B3 B2 d2 d2tp d2tc d2bp d2bc d2ap d2ac B1 d1 d1tp d1tc d1bp d1bc d1ap d1ac B d dtp dtc dbp dbc dap dac F3) [] w0 (.bool false))))))))))))) :
    Calls Tryz.prog 17 ⟨[]⟩ W R := by
  refine AtE.calls (nt := 103) Tryz.func17 (by kernel_rfl) hm ?_
  refine AtE.run 7 (fun W => by kernel_rfl) ?_
  refine AtE.call 19 ⟨[.agg sane5A9]⟩ (fun W => by kernel_rfl) (by kernel_rfl) H ?_
  clear H
  rintro _ _ ⟨r1, r21, rfl, rfl, H⟩
  refine AtE.run 8 (fun W => by kernel_rfl) ?_
  refine AtE.call 21 ⟨[.string (⟨#[4, 140, 1, 12, 10]⟩)]⟩ (fun W => by kernel_rfl) (by kernel_rfl) H ?_
  clear H
  rintro _ F ⟨d, dtp, dtc, dbp, dbc, dap, dac, ev, _, rfl, rfl, H⟩
  refine AtE.run 3 (fun W => by kernel_rfl) ?_
  refine AtE.new (fun B => .pointer (some ⟨B, 0, none⟩)) (.cells sane5A3 28) (fun W => by kernel_rfl) (by kernel_rfl) (fun B => ?_)
  replace H := H B
  refine AtE.front ?_
  refine AtE.store 0 0 (T := 28) (v := .agg (sane5A0 d dtp dtc dbp dbc dap dac)) (by kernel_rfl) ?_
  refine AtE.run 4 (fun W => by kernel_rfl) ?_
  refine AtE.call 21 ⟨[.string (⟨#[4, 140, 1, 12, 10, 0]⟩)]⟩ (fun W => by kernel_rfl) (by kernel_rfl) H ?_
  clear H
  rintro _ _ ⟨d1, d1tp, d1tc, d1bp, d1bc, d1ap, d1ac, ev1, F1, rfl, rfl, H⟩
  refine AtE.run 3 (fun W => by kernel_rfl) ?_
  refine AtE.new (fun B => .pointer (some ⟨B, 0, none⟩)) (.cells sane5A3 28) (fun W => by kernel_rfl) (by kernel_rfl) (fun B1 => ?_)
  replace H := H B1
  refine AtE.front ?_
  refine AtE.store 0 0 (T := 28) (v := .agg (sane5A2 d1 d1tp d1tc d1bp d1bc d1ap d1ac)) (by kernel_rfl) ?_
  refine AtE.norm (k' := [.inRegion (regOps [.code (sub (Eng.body Tryz.f17) [1, 1, 1, 0])]) [6], .code (sub (Eng.body Tryz.f17) [1, 1, 1, 1])]) (e' := [(1, .string r1), (2, .int .i64 r21), (3, .pointer (some ⟨B, 0, none⟩)), (4, .int .i64 ev), (28, .int .i64 ev1)]) (L' := (sane5H3 B1 d1 d1tp d1tc d1bp d1bc d1ap d1ac B d dtp dtc dbp dbc dap dac F1)) ?_ (by kernel_rfl)
  refine AtE.run 4 (fun W => by kernel_rfl) ?_
  refine AtE.call 21 ⟨[.string (⟨#[4, 140, 1, 22, 10]⟩)]⟩ (fun W => by kernel_rfl) (by kernel_rfl) H ?_
  clear H
  rintro _ _ ⟨d2, d2tp, d2tc, d2bp, d2bc, d2ap, d2ac, ev2, F2, rfl, rfl, H⟩
  refine AtE.run 3 (fun W => by kernel_rfl) ?_
  refine AtE.new (fun B => .pointer (some ⟨B, 0, none⟩)) (.cells sane5A3 28) (fun W => by kernel_rfl) (by kernel_rfl) (fun B2 => ?_)
  replace H := H B2
  refine AtE.front ?_
  refine AtE.store 0 0 (T := 28) (v := .agg (sane5A4 d2 d2tp d2tc d2bp d2bc d2ap d2ac)) (by kernel_rfl) ?_
  refine AtE.run 5 (fun W => by kernel_rfl) ?_
  refine AtE.call 19 ⟨[.agg sane5A8]⟩ (fun W => by kernel_rfl) (by kernel_rfl) H ?_
  clear H
  rintro _ _ ⟨r91, r101, rfl, rfl, H⟩
  refine AtE.run 9 (fun W => by kernel_rfl) ?_
  refine AtE.call 20 ⟨[.agg sane5A11]⟩ (fun W => by kernel_rfl) (by kernel_rfl) H ?_
  clear H
  rintro _ _ ⟨r111, rfl, rfl, H⟩
  refine AtE.run 5 (fun W => by kernel_rfl) ?_
  refine AtE.call 20 ⟨[.agg sane5A7]⟩ (fun W => by kernel_rfl) (by kernel_rfl) H ?_
  clear H
  rintro _ _ ⟨r121, rfl, rfl, H⟩
  refine AtE.run 4 (fun W => by kernel_rfl) ?_
  refine AtE.new (fun B => .slice (some ⟨B, 0, none⟩) 2 2) (.cells #[.string (⟨#[97]⟩), .string (⟨#[98]⟩)] 9) (fun W => by kernel_rfl) (by kernel_rfl) (fun B3 => ?_)
  replace H := H B3
  refine AtE.front ?_
  refine AtE.norm (k' := [.inRegion (regOps [.code (sub (Eng.body Tryz.f17) [1, 1, 1, 1, 1, 1, 1, 1, 0])]) [1, 2, 3, 4, 5], .code (sub (Eng.body Tryz.f17) [1, 1, 1, 1, 1, 1, 1, 1, 1])]) (e' := [(1, .string r1), (2, .int .i64 r21), (3, .pointer (some ⟨B, 0, none⟩)), (4, .int .i64 ev), (6, .int .i64 ev1), (8, .int .i64 ev2), (10, .int .i64 r101), (11, .bool r111), (12, .bool r121), (42, .slice (some ⟨B3, 0, none⟩) 2 2)]) (L' := ((B3, .cells #[.string (⟨#[97]⟩), .string (⟨#[98]⟩)] 9) :: (B2, .cells (sane5A4 d2 d2tp d2tc d2bp d2bc d2ap d2ac) 28) :: (B1, .cells (sane5A2 d1 d1tp d1tc d1bp d1bc d1ap d1ac) 28) :: (B, .cells (sane5A0 d dtp dtc dbp dbc dap dac) 28) :: F2)) ?_ (by kernel_rfl)
  refine AtE.run 1 (fun W => by kernel_rfl) ?_
  refine AtE.new (fun B => .slice (some ⟨B, 0, none⟩) 1 1) (.cells #[.int .i64 (1 : Int), .int .i64 (1 : Int), .string (⟨#[82, 97, 105, 110]⟩), .int .i64 (0 : Int), .int .i64 (0 : Int), .int .i64 (0 : Int), .slice none 0 0, .int .i64 (0 : Int), .int .i64 (0 : Int)] 89) (fun W => by kernel_rfl) (by kernel_rfl) (fun B4 => ?_)
  replace H := H B4
  refine AtE.front ?_
  refine AtE.run 1 (fun W => by kernel_rfl) ?_
  refine AtE.call 20 ⟨[.agg (sane5A5 B3 B4)]⟩ (fun W => by kernel_rfl) (by kernel_rfl) H ?_
  clear H
  rintro _ _ ⟨r131, rfl, rfl, H⟩
  refine AtE.run 5 (fun W => by kernel_rfl) ?_
  refine AtE.call 26 ⟨[.agg sane5A6]⟩ (fun W => by kernel_rfl) (by kernel_rfl) H ?_
  clear H
  rintro _ _ ⟨z, ztp, ztc, zbp, zbc, zap, zac, F3, rfl, rfl, H⟩
  refine AtE.new (fun B => .pointer (some ⟨B, 0, none⟩)) (.cells sane5A3 28) (fun W => by kernel_rfl) (by kernel_rfl) (fun B5 => ?_)
  replace H := H B5
  refine AtE.front ?_
  refine AtE.store 0 0 (T := 28) (v := .agg (sane5A1 z ztp ztc zbp zbc zap zac)) (by kernel_rfl) ?_
  refine AtE.run 3 (fun W => by kernel_rfl) ?_
  refine AtE.load 0 0 (T := 28) (v := .agg (sane5A1 z ztp ztc zbp zbc zap zac)) (by kernel_rfl) ?_
  refine AtE.run 1 (fun W => by kernel_rfl) ?_
  refine AtE.call 22 ⟨[.agg (sane5A1 z ztp ztc zbp zbc zap zac), .agg sane5A10]⟩ (fun W => by kernel_rfl) (by kernel_rfl) H ?_
  clear H
  rintro _ _ ⟨r151, rfl, rfl, H⟩
  refine AtE.norm (k' := [.inRegion (regOps [.code (sub (Eng.body Tryz.f17) [1, 1, 1, 1, 1, 1, 1, 1, 1, 1, 0])]) [3], .code (sub (Eng.body Tryz.f17) [1, 1, 1, 1, 1, 1, 1, 1, 1, 1, 1])]) (e' := [(1, .string r1), (2, .int .i64 r21), (3, .pointer (some ⟨B, 0, none⟩)), (4, .int .i64 ev), (6, .int .i64 ev1), (8, .int .i64 ev2), (10, .int .i64 r101), (11, .bool r111), (12, .bool r121), (13, .bool r131), (14, .pointer (some ⟨B5, 0, none⟩)), (51, .bool r151)]) (L' := (sane5H0 B5 z ztp ztc zbp zbc zap zac B4 B3 B2 d2 d2tp d2tc d2bp d2bc d2ap d2ac B1 d1 d1tp d1tc d1bp d1bc d1ap d1ac B d dtp dtc dbp dbc dap dac F3)) ?_ (by kernel_rfl)
  refine AtE.run 7 (fun W => by kernel_rfl) ?_
  refine AtE.splitS 54 (x := r1) (y := (⟨#[4, 140, 1, 12, 10]⟩ : ByteArray)) (by kernel_rfl) (fun h1' => ?_) (fun h1' => ?_)
  · replace H := H.1 h1'
    refine AtE.run 4 (fun W => by kernel_rfl) ?_
    refine AtE.splitP 58 (p := r21 = (0 : Int)) (by kernel_rfl) (fun h2' => ?_) (fun h2' => ?_)
    · replace H := H.1 h2'
      refine AtE.run 1 (fun W => by kernel_rfl) ?_
      refine AtE.load 5 0 (T := 3) (v := .int .i64 d.n) (by kernel_rfl) ?_
      refine AtE.run 3 (fun W => by kernel_rfl) ?_
      refine AtE.splitP 63 (p := d.n = (2 : Int)) (by kernel_rfl) (fun h3' => ?_) (fun h3' => ?_)
      · replace H := H.1 h3'
        refine AtE.run 1 (fun W => by kernel_rfl) ?_
        refine AtE.load 5 3 (T := 3) (v := .int .i64 d.story) (by kernel_rfl) ?_
        refine AtE.run 3 (fun W => by kernel_rfl) ?_
        refine AtE.splitP 68 (p := d.story = (5 : Int)) (by kernel_rfl) (fun h4' => ?_) (fun h4' => ?_)
        · replace H := H.1 h4'
          refine AtE.run 4 (fun W => by kernel_rfl) ?_
          refine AtE.splitP 72 (p := ev = (0 : Int)) (by kernel_rfl) (fun h5' => ?_) (fun h5' => ?_)
          · replace H := H.1 h5'
            refine AtE.norm (k' := [.inRegion (regOps [.code (sub (Eng.body Tryz.f17) [1, 1, 1, 1, 1, 1, 1, 1, 1, 1, 1, 0])]) [21, 22, 23, 24, 25, 26, 27, 28, 29, 30, 31, 32, 33, 34, 35, 36, 37, 38, 39, 40, 41, 42, 43, 44, 45, 46, 47, 48, 49, 50, 51], .code (sub (Eng.body Tryz.f17) [1, 1, 1, 1, 1, 1, 1, 1, 1, 1, 1, 1])]) (e' := [(3, .pointer (some ⟨B, 0, none⟩)), (6, .int .i64 ev1), (8, .int .i64 ev2), (10, .int .i64 r101), (11, .bool r111), (12, .bool r121), (13, .bool r131), (14, .pointer (some ⟨B5, 0, none⟩)), (15, .bool r151), (72, .bool true)]) (L' := (sane5H0 B5 z ztp ztc zbp zbc zap zac B4 B3 B2 d2 d2tp d2tc d2bp d2bc d2ap d2ac B1 d1 d1tp d1tc d1bp d1bc d1ap d1ac B d dtp dtc dbp dbc dap dac F3)) ?_ (by kernel_rfl)
            refine AtE.run 4 (fun W => by kernel_rfl) ?_
            refine AtE.splitP 76 (p := ev1 = (10 : Int)) (by kernel_rfl) (fun h6' => ?_) (fun h6' => ?_)
            · replace H := H.1 h6'
              refine AtE.run 4 (fun W => by kernel_rfl) ?_
              refine AtE.splitP 80 (p := ev2 = (50 : Int)) (by kernel_rfl) (fun h7' => ?_) (fun h7' => ?_)
              · replace H := H.1 h7'
                refine AtE.run 4 (fun W => by kernel_rfl) ?_
                refine AtE.splitP 84 (p := r101 = (50 : Int)) (by kernel_rfl) (fun h8' => ?_) (fun h8' => ?_)
                · replace H := H.1 h8'
                  refine AtE.run 3 (fun W => by kernel_rfl) ?_
                  refine AtE.split 87 (b := r111) (by kernel_rfl) (fun h9' => ?_) (fun h9' => ?_)
                  · replace H := H.1 h9'
                    refine AtE.run 1 (fun W => by kernel_rfl) ?_
                    refine AtE.split 88 (b := r121) (by kernel_rfl) (fun h10' => ?_) (fun h10' => ?_)
                    · replace H := H.1 h10'
                      refine AtE.run 16 (fun W => by kernel_rfl) ?_
                      exact AtE.ret Tryz.func17 (by kernel_rfl) H
                    · replace H := H.2 h10'
                      refine AtE.run 6 (fun W => by kernel_rfl) ?_
                      refine AtE.split 94 (b := r131) (by kernel_rfl) (fun h11' => ?_) (fun h11' => ?_)
                      · replace H := H.1 h11'
                        refine AtE.run 3 (fun W => by kernel_rfl) ?_
                        refine AtE.split 97 (b := r151) (by kernel_rfl) (fun h12' => ?_) (fun h12' => ?_)
                        · replace H := H.1 h12'
                          refine AtE.norm (k' := [.inRegion (regOps [.code (sub (Eng.body Tryz.f17) [1, 1, 1, 1, 1, 1, 1, 1, 1, 1, 1, 0])]) [46, 47, 48, 49, 50, 51], .code (sub (Eng.body Tryz.f17) [1, 1, 1, 1, 1, 1, 1, 1, 1, 1, 1, 1])]) (e' := [(3, .pointer (some ⟨B, 0, none⟩)), (14, .pointer (some ⟨B5, 0, none⟩)), (97, .bool true)]) (L' := (sane5H0 B5 z ztp ztc zbp zbc zap zac B4 B3 B2 d2 d2tp d2tc d2bp d2bc d2ap d2ac B1 d1 d1tp d1tc d1bp d1bc d1ap d1ac B d dtp dtc dbp dbc dap dac F3)) ?_ (by kernel_rfl)
                          refine AtE.load 5 0 (T := 28) (v := .agg (sane5A0 d dtp dtc dbp dbc dap dac)) (by kernel_rfl) ?_
                          refine AtE.load 0 0 (T := 28) (v := .agg (sane5A1 z ztp ztc zbp zbc zap zac)) (by kernel_rfl) ?_
                          refine AtE.call 22 ⟨[.agg (sane5A0 d dtp dtc dbp dbc dap dac), .agg (sane5A1 z ztp ztc zbp zbc zap zac)]⟩ (fun W => by kernel_rfl) (by kernel_rfl) H ?_
                          clear H
                          rintro _ _ ⟨r161, rfl, rfl, H⟩
                          refine AtE.split 100 (b := r161) (by kernel_rfl) (fun h13' => ?_) (fun h13' => ?_)
                          · replace H := H.1 h13'
                            refine AtE.run 4 (fun W => by kernel_rfl) ?_
                            exact AtE.ret Tryz.func17 (by kernel_rfl) H
                          · replace H := H.2 h13'
                            refine AtE.run 4 (fun W => by kernel_rfl) ?_
                            exact AtE.ret Tryz.func17 (by kernel_rfl) H
                        · replace H := H.2 h12'
                          refine AtE.norm (k' := [.inRegion (regOps [.code (sub (Eng.body Tryz.f17) [1, 1, 1, 1, 1, 1, 1, 1, 1, 1, 1, 0])]) [46, 47, 48, 49, 50, 51], .code (sub (Eng.body Tryz.f17) [1, 1, 1, 1, 1, 1, 1, 1, 1, 1, 1, 1])]) (e' := [(3, .pointer (some ⟨B, 0, none⟩)), (14, .pointer (some ⟨B5, 0, none⟩)), (97, .bool false)]) (L' := (sane5H0 B5 z ztp ztc zbp zbc zap zac B4 B3 B2 d2 d2tp d2tc d2bp d2bc d2ap d2ac B1 d1 d1tp d1tc d1bp d1bc d1ap d1ac B d dtp dtc dbp dbc dap dac F3)) ?_ (by kernel_rfl)
                          refine AtE.run 7 (fun W => by kernel_rfl) ?_
                          exact AtE.ret Tryz.func17 (by kernel_rfl) H
                      · replace H := H.2 h11'
                        refine AtE.run 10 (fun W => by kernel_rfl) ?_
                        exact AtE.ret Tryz.func17 (by kernel_rfl) H
                  · replace H := H.2 h9'
                    refine AtE.run 17 (fun W => by kernel_rfl) ?_
                    exact AtE.ret Tryz.func17 (by kernel_rfl) H
                · replace H := H.2 h8'
                  refine AtE.run 20 (fun W => by kernel_rfl) ?_
                  exact AtE.ret Tryz.func17 (by kernel_rfl) H
              · replace H := H.2 h7'
                refine AtE.run 24 (fun W => by kernel_rfl) ?_
                exact AtE.ret Tryz.func17 (by kernel_rfl) H
            · replace H := H.2 h6'
              refine AtE.run 28 (fun W => by kernel_rfl) ?_
              exact AtE.ret Tryz.func17 (by kernel_rfl) H
          · replace H := H.2 h5'
            refine AtE.norm (k' := [.inRegion (regOps [.code (sub (Eng.body Tryz.f17) [1, 1, 1, 1, 1, 1, 1, 1, 1, 1, 1, 0])]) [21, 22, 23, 24, 25, 26, 27, 28, 29, 30, 31, 32, 33, 34, 35, 36, 37, 38, 39, 40, 41, 42, 43, 44, 45, 46, 47, 48, 49, 50, 51], .code (sub (Eng.body Tryz.f17) [1, 1, 1, 1, 1, 1, 1, 1, 1, 1, 1, 1])]) (e' := [(3, .pointer (some ⟨B, 0, none⟩)), (6, .int .i64 ev1), (8, .int .i64 ev2), (10, .int .i64 r101), (11, .bool r111), (12, .bool r121), (13, .bool r131), (14, .pointer (some ⟨B5, 0, none⟩)), (15, .bool r151), (72, .bool false)]) (L' := (sane5H0 B5 z ztp ztc zbp zbc zap zac B4 B3 B2 d2 d2tp d2tc d2bp d2bc d2ap d2ac B1 d1 d1tp d1tc d1bp d1bc d1ap d1ac B d dtp dtc dbp dbc dap dac F3)) ?_ (by kernel_rfl)
            refine AtE.run 32 (fun W => by kernel_rfl) ?_
            exact AtE.ret Tryz.func17 (by kernel_rfl) H
        · replace H := H.2 h4'
          refine AtE.run 36 (fun W => by kernel_rfl) ?_
          exact AtE.ret Tryz.func17 (by kernel_rfl) H
      · replace H := H.2 h3'
        refine AtE.run 41 (fun W => by kernel_rfl) ?_
        exact AtE.ret Tryz.func17 (by kernel_rfl) H
    · replace H := H.2 h2'
      refine AtE.run 46 (fun W => by kernel_rfl) ?_
      exact AtE.ret Tryz.func17 (by kernel_rfl) H
  · replace H := H.2 h1'
    refine AtE.run 50 (fun W => by kernel_rfl) ?_
    exact AtE.ret Tryz.func17 (by kernel_rfl) H
end Go.Eng
namespace Go.Eng
open Go Go.RowKit Go.Proofs Wire
set_option linter.unusedVariables false
theorem CallH.addF {P : Program} {g : FuncId} {args : Array Value} {S : List Nat} {w0 : World} {K K' : Value → SHeap → Prop} (told : SHeap) {F : SHeap} (h : EffC P g args [] K) (hK : ∀ v F', K v F' → K' v (told ++ (F' ++ F))) : CallH P g args (told ++ F) S w0 K' :=
  CallH.eff (L1 := told ++ F) h (List.Perm.refl _) fun v L' hk => ⟨told ++ (L' ++ F), List.perm_append_comm_assoc _ _ _, hK v L' hk⟩
theorem decE_e {s : ByteArray} {r : Fct × Int} (hs : s.size < 4611686018427387904) (h : decF (bts s) = r) : EffC Tryz.prog 21 ⟨[.string s]⟩ [] (DecFOut r) := h ▸ fDecode_e hs
theorem FAt.L {F L : SHeap} {S : List Nat} {w0 W : World} {f : Fct} {tp : Option Addr} {tc : Nat} {bp : Option Addr} {bc : Nat} {ap : Option Addr} {ac : Nat} (h : FAt (lkF L) f tp tc bp bc ap ac) (hm : Mem L S w0 W) : FAt (lkW W) f tp tc bp bc ap ac :=
  h.mono (lkF_W hm fun x hx => hx)
theorem enc_ok {f : Fct} (h : f.ok = true) : encFAns f = .tuple #[.string (ba (encF f)), .int .i64 0] := if_pos h
theorem enc_no {f : Fct} (h : f.ok = false) : encFAns f = .tuple #[.string ⟨#[]⟩, .int .i64 50] := if_neg (by rw [h]; decide)
def goneF (f : Fct) : Fct := ⟨f.n, f.time, 10, f.story, e0, 0, 0, e0, e0, [], [], Lab.zero, 0, 0, 0, e0, e0, 0, 0, 0⟩
def aboutB (k : Int) : Bool := decide (k = 1 ∨ k = 4 ∨ k = 5)
theorem goneAt {lk : Lk} {f : Fct} : FAt lk (goneF f) none 0 none 0 none 0 := noLists rfl rfl rfl ⟨e0_sz, e0_sz, e0_sz, e0_sz, e0_sz⟩
def RedG (f : Fct) (v : Value) (F : SHeap) : Prop := v = .agg ⟨(goneF f).cells none 0 none 0 none 0⟩
theorem gone_e {f : Fct} {tp bp ap : Option Addr} {tc bc ac : Nat} (hk : aboutB f.kind = true) : EffC Tryz.prog 26 ⟨[.agg ⟨f.cells tp tc bp bc ap ac⟩]⟩ [] (RedG f) := by
  intro W hm
  have hk := of_decide_eq_true hk
  refine fRedact_vc f tp tc bp bc ap ac hm fun B B1 => ⟨fun _ => ?_, fun h1 => ⟨fun _ => ?_, fun h2 => ⟨fun _ => ?_, fun h3 => absurd hk (by omega)⟩⟩⟩
  all_goals exact fun W' hm' => ⟨_, _, rfl, hm', rfl⟩
def sfA : Fct := ⟨2, 70, 6, 5, e0, 0, 0, e0, e0, [], [], Lab.zero, 0, 0, 0, e0, e0, 0, 0, 0⟩
def sfB : Fct := ⟨2, 70, 6, 65, e0, 0, 0, e0, e0, [], [], Lab.zero, 0, 0, 0, e0, e0, 0, 0, 0⟩
def sfC : Fct := ⟨1, 0, 2, 3, e0, 0, 0, e0, e0, [], [], Lab.zero, 2, 0, 0, e0, e0, 0, 0, 0⟩
def sfD : Fct := ⟨1, 0, 2, 3, ⟨#[101, 110]⟩, 0, 0, e0, e0, [], [], Lab.zero, 2, 0, 0, e0, e0, 0, 0, 0⟩
def sbE : Blk := ⟨1, 1, ⟨#[82, 97, 105, 110]⟩, 0, 0, Lab.zero⟩
def sfE : Fct := ⟨0, 0, 1, 1, ⟨#[101, 110]⟩, 1, 0, ⟨#[82, 97, 105, 110]⟩, ⟨#[97, 110, 110]⟩, [⟨#[97]⟩, ⟨#[98]⟩], [sbE], Lab.zero, 0, 0, 0, e0, e0, 0, 0, 0⟩
def sfG : Fct := ⟨9, 5, 4, 2, ⟨#[101, 110]⟩, 0, 0, e0, e0, [], [], Lab.zero, 0, 1, 0, ⟨#[78, 111, 46]⟩, e0, 0, 0, 0⟩
theorem sfA_ok : sfA.ok = true := by kernel_rfl
theorem sfA_enc : ba (encF sfA) = (⟨#[4, 140, 1, 12, 10]⟩ : ByteArray) := by kernel_rfl
theorem sfA_dec : decF (bts ⟨#[4, 140, 1, 12, 10]⟩) = (sfA, 0) := by rw [← sfA_enc, bts_mk]; exact decF_enc sfA_ok
theorem sfA_more : decF (bts ⟨#[4, 140, 1, 12, 10, 0]⟩) = (Fct.zero, 10) := by
  have : bts (⟨#[4, 140, 1, 12, 10, 0]⟩ : ByteArray) = encF sfA ++ [0] := by kernel_rfl
  rw [this]; exact decF_more sfA_ok (by decide)
theorem sfB_dec : decF (bts ⟨#[4, 140, 1, 22, 10]⟩) = (Fct.zero, 50) := by kernel_rfl
theorem sfB_no : sfB.ok = false := by kernel_rfl
theorem sfC_ok : sfC.ok = true := by kernel_rfl
theorem sfD_no : sfD.ok = false := by kernel_rfl
theorem sfE_ok : sfE.ok = true := by kernel_rfl
theorem sfE_at {lk : Lk} {B3 B4 : Nat} (h3 : lk B3 [.string ⟨#[97]⟩, .string ⟨#[98]⟩]) (h4 : lk B4 (sbE.cells none 0)) : FAt lk sfE (some ⟨B3, 0, none⟩) 2 (some ⟨B4, 0, none⟩) 1 none 0 :=
  ⟨strs_at h3, fun _ => ⟨B4, 0, _, rfl, h4, fun i hi => by
    match i, hi with
    | 0, _ => exact ⟨by decide, none, 0, rfl, fun h => absurd (show 0 < sbE.lab.after.length from h) (by decide), show sbE.text.size ≤ 9223372036854775807 by decide, show sbE.lab.after.length ≤ 9223372036854775807 by decide⟩⟩, fun h => absurd h (by decide), by decide, by decide, by decide, by decide, ⟨by decide, by decide⟩, by decide, by decide⟩
theorem sane_c5 : PureC Tryz.prog 17 ⟨[]⟩ (.bool true) := by
  intro W
  refine sane5_vc (Mem.start [] W) ?_
  have hA : ∀ lk : Lk, FAt lk sfA none 0 none 0 none 0 := fun lk => noLists rfl rfl rfl ⟨e0_sz, e0_sz, e0_sz, e0_sz, e0_sz⟩
  have hB : ∀ lk : Lk, FAt lk sfB none 0 none 0 none 0 := fun lk => noLists rfl rfl rfl ⟨e0_sz, e0_sz, e0_sz, e0_sz, e0_sz⟩
  have hC : ∀ lk : Lk, FAt lk sfC none 0 none 0 none 0 := fun lk => noLists rfl rfl rfl ⟨e0_sz, e0_sz, e0_sz, e0_sz, e0_sz⟩
  have hD : ∀ lk : Lk, FAt lk sfD none 0 none 0 none 0 := fun lk => noLists rfl rfl rfl ⟨by decide, e0_sz, e0_sz, e0_sz, e0_sz⟩
  refine CallH.pw (v := encFAns sfA) (fun W' hm' => fEncode_c (hA _)) ⟨⟨#[4, 140, 1, 12, 10]⟩, 0, by rw [enc_ok sfA_ok, sfA_enc], rfl, ?_⟩
  refine CallH.addF [] (F := []) (decE_e (by decide) sfA_dec) ?_
  rintro _ F ⟨tp, tc, bp, bc, ap, ac, rfl, h0⟩
  refine ⟨sfA, tp, tc, bp, bc, ap, ac, 0, _, rfl, rfl, fun B => ?_⟩
  refine CallH.addF [_] (decE_e (by decide) sfA_more) ?_
  rintro _ F1 ⟨tp1, tc1, bp1, bc1, ap1, ac1, rfl, h1⟩
  refine ⟨Fct.zero, tp1, tc1, bp1, bc1, ap1, ac1, 10, _, rfl, rfl, fun B1 => ?_⟩
  refine CallH.addF [_, _] (decE_e (by decide) sfB_dec) ?_
  rintro _ F2 ⟨tp2, tc2, bp2, bc2, ap2, ac2, rfl, h2⟩
  refine ⟨Fct.zero, tp2, tc2, bp2, bc2, ap2, ac2, 50, _, rfl, rfl, fun B2 => ?_⟩
  refine CallH.pw (v := encFAns sfB) (fun W' hm' => fEncode_c (hB _)) ⟨⟨#[]⟩, 50, by rw [enc_no sfB_no], rfl, ?_⟩
  refine CallH.pw (v := .bool sfC.ok) (fun W' hm' => fValid_c (hC _)) ⟨true, by rw [sfC_ok], rfl, ?_⟩
  refine CallH.pw (v := .bool sfD.ok) (fun W' hm' => fValid_c (hD _)) ⟨false, by rw [sfD_no], rfl, fun B3 B4 => ?_⟩
  refine CallH.pw (v := .bool sfE.ok) (fun W' hm' => fValid_c (sfE_at (lkM_kept hm' _ _ (.inl ⟨_, _, List.mem_cons_of_mem _ List.mem_cons_self⟩)) (lkM_kept hm' _ _ (.inl ⟨_, _, List.mem_cons_self⟩)))) ⟨true, by rw [sfE_ok], rfl, ?_⟩
  refine CallH.addF [_, _, _, _, _] (gone_e (f := sfG) (tp := none) (tc := 0) (bp := none) (bc := 0) (ap := none) (ac := 0) (by decide)) ?_
  rintro _ F3 rfl
  refine ⟨goneF sfG, none, 0, none, 0, none, 0, _, rfl, rfl, fun B5 => ?_⟩
  refine CallH.pw (fun W' hm' => fSame_c (x := goneF sfG) (y := goneF sfG) goneAt goneAt) ⟨_, rfl, rfl, ?_⟩
  refine yes rfl (yes rfl (yes rfl (yes rfl (yes rfl (yes rfl (yes rfl (yes rfl (tt rfl (ff rfl (tt rfl (tt (by simp) ?_)))))))))))
  refine CallH.pw (fun W' hm' => fSame_c (x := sfA) (y := goneF sfG) (h0.mono fun b c h => ?_) goneAt) ⟨_, rfl, rfl, ff (by decide) (finPure rfl)⟩
  refine lkF_W hm' (fun x hx => ?_) b c h
  simp [hx]
end Go.Eng
namespace Go.Eng
open Go Go.RowKit Go.Proofs
set_option linter.unusedVariables false
set_option maxRecDepth 100000
abbrev law1H0 (B : Nat) (d : Fct) (dtp : Option Addr) (dtc : Nat) (dbp : Option Addr) (dbc : Nat) (dap : Option Addr) (dac : Nat) (F : SHeap) : SHeap := ((B, .cells #[.int .i64 d.n, .int .i64 d.time, .int .i64 d.kind, .int .i64 d.story, .string d.lang, .int .i64 d.rev, .int .i64 d.base, .string d.title, .string d.author, .slice dtp d.topics.length dtc, .slice dbp d.blocks.length dbc, .int .i64 d.lab.unt, .slice dap d.lab.after.length dac, .int .i64 d.lab.appr, .int .i64 d.lab.den, .int .i64 d.editor, .int .i64 d.block, .int .i64 d.sentence, .string d.text, .string d.name, .int .i64 d.partner, .int .i64 d.cls, .int .i64 d.unt] 28) :: F)
abbrev law1A0 (d : Fct) (dtp : Option Addr) (dtc : Nat) (dbp : Option Addr) (dbc : Nat) (dap : Option Addr) (dac : Nat) : Array Value := #[.int .i64 d.n, .int .i64 d.time, .int .i64 d.kind, .int .i64 d.story, .string d.lang, .int .i64 d.rev, .int .i64 d.base, .string d.title, .string d.author, .slice dtp d.topics.length dtc, .slice dbp d.blocks.length dbc, .int .i64 d.lab.unt, .slice dap d.lab.after.length dac, .int .i64 d.lab.appr, .int .i64 d.lab.den, .int .i64 d.editor, .int .i64 d.block, .int .i64 d.sentence, .string d.text, .string d.name, .int .i64 d.partner, .int .i64 d.cls, .int .i64 d.unt]
abbrev law1A1 : Array Value := #[.int .i64 (0 : Int), .int .i64 (0 : Int), .int .i64 (0 : Int), .int .i64 (0 : Int), .string (⟨#[]⟩), .int .i64 (0 : Int), .int .i64 (0 : Int), .string (⟨#[]⟩), .string (⟨#[]⟩), .slice none 0 0, .slice none 0 0, .int .i64 (0 : Int), .slice none 0 0, .int .i64 (0 : Int), .int .i64 (0 : Int), .int .i64 (0 : Int), .int .i64 (0 : Int), .int .i64 (0 : Int), .string (⟨#[]⟩), .string (⟨#[]⟩), .int .i64 (0 : Int), .int .i64 (0 : Int), .int .i64 (0 : Int)]
theorem law1_vc (s : ByteArray) {R : Ending → World → Prop} {w0 W : World} (hm : Mem [] [] w0 W)
    (H :
      CallH Tryz.prog 17 ⟨[]⟩ [] [] w0 (fun v L' => ∃ (r1 : Bool), v = (.bool r1) ∧ L' = [] ∧
        (0 ≤ (0 : Int) ∧ (0 : Int) ≤ (if (4000 : Int) < (s.size : Int) then (4000 : Int) else (s.size : Int)) ∧ (if (4000 : Int) < (s.size : Int) then (4000 : Int) else (s.size : Int)) ≤ s.size) ∧
        ∀ t : ByteArray, t = (s.extract 0 (Int.toNat (if (4000 : Int) < (s.size : Int) then (4000 : Int) else (s.size : Int)))) →
        CallH Tryz.prog 21 ⟨[.string t]⟩ [] [] w0 (fun v L' => ∃ (d : Fct) (dtp : Option Addr) (dtc : Nat) (dbp : Option Addr) (dbc : Nat) (dap : Option Addr) (dac : Nat) (ev : Int) (F : SHeap), v = (.tuple #[.agg (law1A0 d dtp dtc dbp dbc dap dac), .int .i64 ev]) ∧ L' = (F) ∧
          ∀ B : Nat,
          ((¬ (ev = (0 : Int))) →
            ((r1 = true) →
              ((ev = (10 : Int)) →
                CallH Tryz.prog 22 ⟨[.agg (law1A0 d dtp dtc dbp dbc dap dac), .agg law1A1]⟩ (law1H0 B d dtp dtc dbp dbc dap dac F) [] w0 (fun v L' => ∃ (r41 : Bool), v = (.bool r41) ∧ L' = (law1H0 B d dtp dtc dbp dbc dap dac F) ∧
                  Fin R (law1H0 B d dtp dtc dbp dbc dap dac F) [] w0 (.bool r41))) ∧
               ((¬ (ev = (10 : Int))) →
                ((ev = (50 : Int)) →
                  CallH Tryz.prog 22 ⟨[.agg (law1A0 d dtp dtc dbp dbc dap dac), .agg law1A1]⟩ (law1H0 B d dtp dtc dbp dbc dap dac F) [] w0 (fun v L' => ∃ (r51 : Bool), v = (.bool r51) ∧ L' = (law1H0 B d dtp dtc dbp dbc dap dac F) ∧
                    Fin R (law1H0 B d dtp dtc dbp dbc dap dac F) [] w0 (.bool r51))) ∧
                 ((¬ (ev = (50 : Int))) →
                  Fin R (law1H0 B d dtp dtc dbp dbc dap dac F) [] w0 (.bool false)))) ∧
             ((r1 = false) →
              Fin R (law1H0 B d dtp dtc dbp dbc dap dac F) [] w0 (.bool false))) ∧
           ((ev = (0 : Int)) →
            CallH Tryz.prog 19 ⟨[.agg (law1A0 d dtp dtc dbp dbc dap dac)]⟩ (law1H0 B d dtp dtc dbp dbc dap dac F) [] w0 (fun v L' => ∃ (r61 : ByteArray) (r71 : Int), v = (.tuple #[.string r61, .int .i64 r71]) ∧ L' = (law1H0 B d dtp dtc dbp dbc dap dac F) ∧
              ((r1 = true) →
                CallH Tryz.prog 20 ⟨[.agg (law1A0 d dtp dtc dbp dbc dap dac)]⟩ (law1H0 B d dtp dtc dbp dbc dap dac F) [] w0 (fun v L' => ∃ (r81 : Bool), v = (.bool r81) ∧ L' = (law1H0 B d dtp dtc dbp dbc dap dac F) ∧
                  ((r81 = true) →
                    ((r71 = (0 : Int)) →
                      Fin R (law1H0 B d dtp dtc dbp dbc dap dac F) [] w0 (.bool (r61.toList == t.toList))) ∧
                     ((¬ (r71 = (0 : Int))) →
                      Fin R (law1H0 B d dtp dtc dbp dbc dap dac F) [] w0 (.bool false))) ∧
                   ((r81 = false) →
                    Fin R (law1H0 B d dtp dtc dbp dbc dap dac F) [] w0 (.bool false)))) ∧
               ((r1 = false) →
                Fin R (law1H0 B d dtp dtc dbp dbc dap dac F) [] w0 (.bool false))))))) :
    Calls Tryz.prog 4 ⟨[.string s]⟩ W R := by
  refine AtE.calls (nt := 55) Tryz.func4 (by kernel_rfl) hm ?_
  refine AtE.run 6 (fun W => by kernel_rfl) ?_
  refine AtE.call 17 ⟨[]⟩ (fun W => by kernel_rfl) (by kernel_rfl) H ?_
  clear H
  rintro _ _ ⟨r1, rfl, rfl, H⟩
  refine AtE.run 8 (fun W => by kernel_rfl) ?_
  refine AtE.sliceS (s := s) (lo := none) (hi := some (.int .i64 (if (4000 : Int) < (s.size : Int) then (4000 : Int) else (s.size : Int)))) (a := (0 : Int)) (b := (if (4000 : Int) < (s.size : Int) then (4000 : Int) else (s.size : Int))) (by kernel_rfl) (.inr ⟨rfl, rfl⟩) (.inl ⟨.i64, rfl⟩) H.1 ?_
  replace H := H.2
  refine AtE.run 1 (fun W => by kernel_rfl) ?_
  refine AtE.letS 4 (n := (s.extract 0 (Int.toNat (if (4000 : Int) < (s.size : Int) then (4000 : Int) else (s.size : Int))))) (by kernel_rfl) (fun t ht => ?_)
  replace H := H t ht
  refine AtE.run 4 (fun W => by kernel_rfl) ?_
  refine AtE.call 21 ⟨[.string t]⟩ (fun W => by kernel_rfl) (by kernel_rfl) H ?_
  clear H
  rintro _ F ⟨d, dtp, dtc, dbp, dbc, dap, dac, ev, _, rfl, rfl, H⟩
  refine AtE.run 3 (fun W => by kernel_rfl) ?_
  refine AtE.new (fun B => .pointer (some ⟨B, 0, none⟩)) (.cells law1A1 28) (fun W => by kernel_rfl) (by kernel_rfl) (fun B => ?_)
  replace H := H B
  refine AtE.front ?_
  refine AtE.store 0 0 (T := 28) (v := .agg (law1A0 d dtp dtc dbp dbc dap dac)) (by kernel_rfl) ?_
  refine AtE.run 8 (fun W => by kernel_rfl) ?_
  refine AtE.splitN 21 (p := ev = (0 : Int)) (by kernel_rfl) (fun h1' => ?_) (fun h1' => ?_)
  · replace H := H.1 h1'
    refine AtE.norm (k' := [.code (sub (Eng.body Tryz.f4) [1, 1, 1, 1, 0, 1]), .code (sub (Eng.body Tryz.f4) [1, 1, 1, 1, 1])]) (e' := [(3, .bool r1), (4, .string t), (5, .pointer (some ⟨B, 0, none⟩)), (6, .int .i64 ev), (21, .bool true)]) (L' := (law1H0 B d dtp dtc dbp dbc dap dac F)) ?_ (by kernel_rfl)
    refine AtE.run 5 (fun W => by kernel_rfl) ?_
    refine AtE.split 23 (b := r1) (by kernel_rfl) (fun h2' => ?_) (fun h2' => ?_)
    · replace H := H.1 h2'
      refine AtE.run 3 (fun W => by kernel_rfl) ?_
      refine AtE.splitP 26 (p := ev = (10 : Int)) (by kernel_rfl) (fun h3' => ?_) (fun h3' => ?_)
      · replace H := H.1 h3'
        refine AtE.run 5 (fun W => by kernel_rfl) ?_
        refine AtE.load 0 0 (T := 28) (v := .agg (law1A0 d dtp dtc dbp dbc dap dac)) (by kernel_rfl) ?_
        refine AtE.run 1 (fun W => by kernel_rfl) ?_
        refine AtE.call 22 ⟨[.agg (law1A0 d dtp dtc dbp dbc dap dac), .agg law1A1]⟩ (fun W => by kernel_rfl) (by kernel_rfl) H ?_
        clear H
        rintro _ _ ⟨r41, rfl, rfl, H⟩
        refine AtE.run 3 (fun W => by kernel_rfl) ?_
        exact AtE.ret Tryz.func4 (by kernel_rfl) H
      · replace H := H.2 h3'
        refine AtE.run 5 (fun W => by kernel_rfl) ?_
        refine AtE.splitP 31 (p := ev = (50 : Int)) (by kernel_rfl) (fun h4' => ?_) (fun h4' => ?_)
        · replace H := H.1 h4'
          refine AtE.load 0 0 (T := 28) (v := .agg (law1A0 d dtp dtc dbp dbc dap dac)) (by kernel_rfl) ?_
          refine AtE.run 1 (fun W => by kernel_rfl) ?_
          refine AtE.call 22 ⟨[.agg (law1A0 d dtp dtc dbp dbc dap dac), .agg law1A1]⟩ (fun W => by kernel_rfl) (by kernel_rfl) H ?_
          clear H
          rintro _ _ ⟨r51, rfl, rfl, H⟩
          refine AtE.run 3 (fun W => by kernel_rfl) ?_
          exact AtE.ret Tryz.func4 (by kernel_rfl) H
        · replace H := H.2 h4'
          refine AtE.run 6 (fun W => by kernel_rfl) ?_
          exact AtE.ret Tryz.func4 (by kernel_rfl) H
    · replace H := H.2 h2'
      refine AtE.run 14 (fun W => by kernel_rfl) ?_
      exact AtE.ret Tryz.func4 (by kernel_rfl) H
  · replace H := H.2 h1'
    refine AtE.norm (k' := [.code (sub (Eng.body Tryz.f4) [1, 1, 1, 1, 0, 1]), .code (sub (Eng.body Tryz.f4) [1, 1, 1, 1, 1])]) (e' := [(3, .bool r1), (4, .string t), (5, .pointer (some ⟨B, 0, none⟩)), (6, .int .i64 ev), (21, .bool false)]) (L' := (law1H0 B d dtp dtc dbp dbc dap dac F)) ?_ (by kernel_rfl)
    refine AtE.run 4 (fun W => by kernel_rfl) ?_
    refine AtE.load 0 0 (T := 28) (v := .agg (law1A0 d dtp dtc dbp dbc dap dac)) (by kernel_rfl) ?_
    refine AtE.call 19 ⟨[.agg (law1A0 d dtp dtc dbp dbc dap dac)]⟩ (fun W => by kernel_rfl) (by kernel_rfl) H ?_
    clear H
    rintro _ _ ⟨r61, r71, rfl, rfl, H⟩
    refine AtE.run 10 (fun W => by kernel_rfl) ?_
    refine AtE.split 42 (b := r1) (by kernel_rfl) (fun h5' => ?_) (fun h5' => ?_)
    · replace H := H.1 h5'
      refine AtE.load 0 0 (T := 28) (v := .agg (law1A0 d dtp dtc dbp dbc dap dac)) (by kernel_rfl) ?_
      refine AtE.call 20 ⟨[.agg (law1A0 d dtp dtc dbp dbc dap dac)]⟩ (fun W => by kernel_rfl) (by kernel_rfl) H ?_
      clear H
      rintro _ _ ⟨r81, rfl, rfl, H⟩
      refine AtE.run 2 (fun W => by kernel_rfl) ?_
      refine AtE.split 46 (b := r81) (by kernel_rfl) (fun h6' => ?_) (fun h6' => ?_)
      · replace H := H.1 h6'
        refine AtE.run 4 (fun W => by kernel_rfl) ?_
        refine AtE.splitP 50 (p := r71 = (0 : Int)) (by kernel_rfl) (fun h7' => ?_) (fun h7' => ?_)
        · replace H := H.1 h7'
          refine AtE.norm (k' := [.inRegion (regOps [.code (sub (Eng.body Tryz.f4) [1, 1, 1, 1, 1, 1, 0])]) [10, 11, 12, 13, 14], .code (sub (Eng.body Tryz.f4) [1, 1, 1, 1, 1, 1, 1])]) (e' := [(4, .string t), (7, .string r61), (50, .bool true)]) (L' := (law1H0 B d dtp dtc dbp dbc dap dac F)) ?_ (by kernel_rfl)
          refine AtE.run 6 (fun W => by kernel_rfl) ?_
          exact AtE.ret Tryz.func4 (by kernel_rfl) H
        · replace H := H.2 h7'
          refine AtE.norm (k' := [.inRegion (regOps [.code (sub (Eng.body Tryz.f4) [1, 1, 1, 1, 1, 1, 0])]) [10, 11, 12, 13, 14], .code (sub (Eng.body Tryz.f4) [1, 1, 1, 1, 1, 1, 1])]) (e' := [(4, .string t), (7, .string r61), (50, .bool false)]) (L' := (law1H0 B d dtp dtc dbp dbc dap dac F)) ?_ (by kernel_rfl)
          refine AtE.run 6 (fun W => by kernel_rfl) ?_
          exact AtE.ret Tryz.func4 (by kernel_rfl) H
      · replace H := H.2 h6'
        refine AtE.run 10 (fun W => by kernel_rfl) ?_
        exact AtE.ret Tryz.func4 (by kernel_rfl) H
    · replace H := H.2 h5'
      refine AtE.run 14 (fun W => by kernel_rfl) ?_
      exact AtE.ret Tryz.func4 (by kernel_rfl) H
end Go.Eng
namespace Go.Eng
open Go Go.RowKit Go.Proofs Wire
set_option linter.unusedVariables false
theorem enc_of_dec {s : List UInt8} (h : (decF s).2 = 0) : (decF s).1.ok = true ∧ encF (decF s).1 = s := enc_decF (Prod.ext rfl h)
theorem fact1 {W : World} {s : ByteArray} : PW Tryz.prog 4 ⟨[.string s]⟩ W (.bool true) := by
  refine law1_vc s (Mem.start [] W) (CallH.pure sane_c5 ⟨_, rfl, rfl, ⟨by omega, by split <;> omega, by split <;> omega⟩, fun t ht => ?_⟩)
  have hs : t.size < 4611686018427387904 := by
    rw [ht, ByteArray.size_extract]
    split <;> omega
  refine CallH.addF [] (F := []) (fDecode_e hs) ?_
  rintro _ F ⟨tp, tc, bp, bc, ap, ac, rfl, h⟩
  have hz := decF_err (bts t)
  refine ⟨(decF (bts t)).1, tp, tc, bp, bc, ap, ac, (decF (bts t)).2, _, rfl, rfl, fun B => ⟨fun h0 => ⟨fun _ => ⟨fun h10 => ?_, fun h10 => ⟨fun h50 => ?_, fun h50 => ?_⟩⟩, nofun⟩, fun h0 => ?_⟩⟩
  · have e := hz.elim (fun hh => absurd hh.1 h0) (fun hh => hh.1)
    exact CallH.pw (fun W' hm' => fSame_c (x := (decF (bts t)).1) (y := Fct.zero) (h.mono (lkF_W hm' fun x hx => by simp [hx])) zeroAt) ⟨_, rfl, rfl, finPW (by rw [e]; simp)⟩
  · have e := hz.elim (fun hh => absurd hh.1 h0) (fun hh => hh.1)
    exact CallH.pw (fun W' hm' => fSame_c (x := (decF (bts t)).1) (y := Fct.zero) (h.mono (lkF_W hm' fun x hx => by simp [hx])) zeroAt) ⟨_, rfl, rfl, finPW (by rw [e]; simp)⟩
  · rcases decF_e5 (bts t) with hh | hh | hh
    · exact absurd hh h0
    · exact absurd hh h10
    · exact absurd hh h50
  · obtain ⟨h1, h2⟩ := enc_of_dec h0
    refine CallH.pw (fun W' hm' => fEncode_c (f := (decF (bts t)).1) (h.mono (lkF_W hm' fun x hx => by simp [hx]))) ⟨t, 0, by rw [enc_ok h1, h2, show ba (bts t) = t from mk_bts t], rfl, ?_⟩
    refine tt rfl (CallH.pw (fun W' hm' => fValid_c (f := (decF (bts t)).1) (h.mono (lkF_W hm' fun x hx => by simp [hx]))) ⟨_, rfl, rfl, tt h1 (yes rfl (finPW (by simp)))⟩)
end Go.Eng
